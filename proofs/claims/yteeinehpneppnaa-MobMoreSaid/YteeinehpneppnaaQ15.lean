/- Parts of a proof: MoL, MoM, MoN. -/
import Derived.Test.YteeinehpneppnaaQ14
import Derived.DefersIn
import Derived.Recover
import Derived.Defers
import Derived.Tactics2
set_option linter.unusedVariables false
set_option linter.unusedSimpArgs false
namespace Go.Proofs.Yteeinehpneppnaa
open Go.RowKit Go.Proofs
attribute [local irreducible] Ord.walk
set_option maxHeartbeats 40000000 in
set_option maxRecDepth 100000 in
theorem m_open_yes (m : Mb) (A : Ma) (F : FuncId) (cap : Array Value) (isB : Bool) (w : World) (hl : Mlen m) (hm : MbAt w m A) (hh : headM m = true)
    (hcf : ∀ (args : Array Value) (W : World), (callFunc F args).run Try.prog W = .ok (.enter F args) W)
    (HIS : validM m = true → ∀ W wp mb pa pc, WayAt W wp m A pa pc mb → Below w.heap.size w W → Calls Try.prog F (#[.pointer (some ⟨wp, 0, none⟩)] ++ cap) W (Gives (.bool isB) W)) :
    Calls Try.prog 42 #[mv m A, .func (.func F) #[] cap] w (OpenPost m isB A w) := by
  have HI := Lib.hid (fun a b c W => m_within a b c W)
  have HS := Lib.hid (fun a b c d e W h1 h2 => m_isSpan a b c d e h1 h2 W)
  have HY := Lib.hid m_must_yes
  have HN := Lib.hid m_must_no
  have HV : Hid (validM m = (m.places.all plOk && (m.legs.all lgOk && (m.herds.all (hdOk m.places.length) && m.seen.all (snOk m))))) := by
    show _ = _; unfold validM; rw [hh, Bool.true_and]
  have HP0 : Hid (∀ e w', validM m = false → Stops 1 w e w' → OpenPost m isB A w e w') := fun e w' h1 h2 => by unfold OpenPost; rw [if_pos h1]; exact h2
  have HP2 : Hid (∀ e w', validM m = true → isB = false → Stops 2 w e w' → OpenPost m isB A w e w') := fun e w' h1 h3 h2 => by unfold OpenPost; rw [if_neg (by rw [h1]; simp), if_pos h3]; exact h2
  have HP3 : Hid (∀ e w', validM m = true → isB = true → (∃ wp mb pa pc, e = .returned (.pointer (some ⟨wp, 0, none⟩)) ∧ Opened w' wp m A pa pc mb ∧ Below w.heap.size w w' ∧ w.heap.size ≤ wp ∧ w.heap.size ≤ mb) → OpenPost m isB A w e w') := fun e w' h1 h3 h2 => by unfold OpenPost; rw [if_neg (by rw [h1]; simp), if_neg (by rw [h3]; simp)]; exact h2
  have HIS := Lib.hid HIS
  obtain ⟨i0, hi0, hz0, hz1, hz2⟩ := info_of Try.info138
  unfold headM at hh
  simp only [Bool.and_eq_true, decide_eq_true_eq] at hh
  obtain ⟨h1, h2, h3, h4⟩ := hh
  have l1 := (inB_of h1).1
  have l2 := (inB_of h1).2
  have HM := Lib.hid hm
  have c2' : ((m.legs.length : Int) == (m.places.length : Int) - 1) = true := by simp [h2]
  clear hm h2
  unfold mv
  have hmm := @run_makeMap Try.prog
  rcases A with ⟨qa, qc, la, lc, ha, hc, sa, sc⟩
  unfold mcells
  go_enter Try.func42, Try.ntmps42
  go_wp2_with (first
    | (go_at_call 93; refine (HI.out _ _ _ _).mono ?_; rintro e w' ⟨rfl, rfl⟩; rw [h1])
    | (go_at_call 68; refine (HY.out _ _).mono ?_; rintro e w' ⟨rfl, rfl⟩))
  clear h1 c2' hmm
  obtain ⟨W3, hW3⟩ : ∃ W3, ((w.alloc (.cells (mcells m ⟨qa, qc, la, lc, ha, hc, sa, sc⟩) 27)).alloc (.map #[] 0)).alloc (.cells (wcl m ⟨qa, qc, la, lc, ha, hc, sa, sc⟩ (.slice none 0 0) (w.heap.size + 1)) 126) = W3 := ⟨_, rfl⟩
  have hA3 : OpAt w m ⟨qa, qc, la, lc, ha, hc, sa, sc⟩ 0 (.slice none 0 0) W3 := by
    have hs : W3.heap.size = w.heap.size + 3 := by rw [← hW3]; simp
    have hb : Below w.heap.size w W3 := by rw [← hW3]; (repeat (first | assumption | exact Below.refl _ _ | refine Below.drew ?_ | refine Below.alloc ?_ (by first | omega | (simp; done) | (simp; omega)) _ | refine Below.setCell ?_ (by first | omega | (simp; done) | (simp; omega)) _ | refine Below.trans ?_ (Below.mono (by assumption) (by first | omega | (simp; done) | (simp; omega)))))
    refine ⟨hb, ?_, ?_, ?_, ⟨rfl, .inl ⟨rfl, rfl⟩⟩, by omega⟩
    · rw [← hW3]; exact ((Blk.new _ _ _).alloc _).alloc _
    · rw [← hW3]
      have := (MapIs.new (w.alloc (.cells (mcells m ⟨qa, qc, la, lc, ha, hc, sa, sc⟩) 27)))
      rw [World.size_alloc] at this
      exact this.below (n := w.heap.size + 2) ((Below.refl _ _).alloc (by simp) _) (by omega)
    · rw [← hW3]; exact Blk.new' _ _ _ _ (by simp)
  rw [hW3]
  clear hW3
  generalize hn0 : w.heap.size = n0 at *
  have HN0 := Lib.hid hn0
  clear hn0 hi0 hz0 hz1 hz2
  refine open_l1 _ w W3 n0 HN0 m qa qc la lc ha hc sa sc HM.out.places (by omega) hA3 ?_ ?_
  · intro hf a W' hd hb
    refine ⟨hd, HP0.out _ _ ?_ ⟨rfl, by rw [HN0.out]; exact hb⟩⟩
    rw [HV.out, hf]; rfl
  · intro hok x8 x9 x50 x51 x52 x53 x54 x55 x56 x57 x58 x59 x60 x61 x62 x63 x64 x65 x66 x67 x68 x69 x70 x71 x72 x73 x74 x75 x76 v W4 hA
    clear hA3
    have HV1 : Hid (validM m = (m.legs.all lgOk && (m.herds.all (hdOk m.places.length) && m.seen.all (snOk m)))) := by
      show _ = _
      rw [HV.out, hok, Bool.true_and]
    clear HV hok
    have bm := hA.bm
    have bw := hA.bw
    have hown := hA.own
    have hmp := hA.map
    have hsz := hA.size
    have hbw := hA.below
    rw [HN0.out] at bm bw hown hmp hsz hbw
    rw [List.take_length] at hown
    obtain ⟨pa, pc, rfl⟩ := own_any hown
    have hsp : RowsAt W4 pa 1 (fun p => [spotV p]) m.places := by
      intro i hi
      obtain ⟨g, c, e⟩ := own_slice hown (by omega)
      simp only [Value.slice.injEq] at e
      obtain ⟨rfl, -, -⟩ := e
      refine ⟨g, 0, rfl, fun j u hj => ?_⟩
      have hj0 : j = 0 := by
        have := (List.getElem?_eq_some_iff.1 hj).1
        simp at this; omega
      subst hj0
      simp only [List.getElem?_cons_zero, Option.some.injEq] at hj
      subst hj
      have hc := hown.cells (g := g) rfl i (spotV m.places[i]) (by simp [hi])
      rw [Addr.add_lit, Nat.zero_add] at hc
      simpa using hc
    clear hA hown
    have rm := bm.cell
    go_wp2_with fail
    clear rm
    have hl40 := hl.legs
    have hh40 := hl.herds
    refine open_l2 _ w W4 n0 HN0 m.legs la lc HM.out.legs hl40 hbw bm.lt ?_ ?_
    · intro hf a W' hd hb
      refine ⟨hd, HP0.out _ _ ?_ ⟨rfl, by rw [HN0.out]; exact hb⟩⟩
      rw [HV1.out, hf]; rfl
    · intro hok y11 y80 y81 y82 y83 y84 y85 y86 y87 y88 W5 hB5
      have HV2 : Hid (validM m = (m.herds.all (hdOk m.places.length) && m.seen.all (snOk m))) := by
        show _ = _
        rw [HV1.out, hok, Bool.true_and]
      clear HV1 hok
      have bm5 := bm.below hB5 bm.lt
      have rm := bm5.cell
      go_wp2_with fail
      clear rm
      have hbw5 := hbw.trans (hB5.mono (by omega))
      refine open_l3 _ w W5 n0 HN0 m.places.length qa qc _ _ _ m.herds ha hc HM.out.herds hh40 (by omega) hbw5 bm5 ?_ ?_
      · intro hf a W' hd hb
        refine ⟨hd, HP0.out _ _ ?_ ⟨rfl, by rw [HN0.out]; exact hb⟩⟩
        rw [HV2.out, hf]; rfl
      · intro hok z13 z92 z93 z94 z95 z96 z97 z98 z99 z100 z101 z102 z103 z104 z105 z106 z107 z108 z109 z110 z111 z112 z113 z114 z115 W6 hB6
        have HV3 : Hid (validM m = m.seen.all (snOk m)) := by
          show _ = _
          rw [HV2.out, hok, Bool.true_and]
        clear HV2
        have bm6 := bm5.below hB6 bm5.lt
        have rm := bm6.cell
        go_wp2_with fail
        clear rm
        have hbw6 := hbw5.trans (hB6.mono (by have := bm5.lt; omega))
        have hs5 := hB5.size
        have hs6 := hB6.size
        have hWA : WayAt W4 (n0 + 2) m ⟨qa, qc, la, lc, ha, hc, sa, sc⟩ pa pc (n0 + 1) := ⟨bw, HM.out.below (by rw [HN0.out]; exact hbw), hsp⟩
        have hWA6 := (hWA.below hB5).below hB6
        refine open_l4 _ w W6 n0 HN0 m ⟨qa, qc, la, lc, ha, hc, sa, sc⟩ (n0 + 2) _ _ hl HM.out.seen HM.out.herds hok hbw6 bm6.lt hWA6.blk ?_ ?_
        · intro hf a W' hd hb
          refine ⟨hd, HP0.out _ _ ?_ ⟨rfl, by rw [HN0.out]; exact hb⟩⟩
          rw [HV3.out, hf]
        · intro hok4 t15 t119 t120 t121 t122 t123 t124 t125 t126 t127 t128 t129 t130 t131 t132 t133 t134 t135 t136 W7 hB7
          have hval : validM m = true := by rw [HV3.out, hok4]
          have hWA7 := hWA6.below hB7
          have hbw7 := hbw6.trans (hB7.mono (by omega))
          have hs7 := hB7.size
          have hmp7 : MapIs W7 (n0 + 1) [] := ((hmp.below hB5 (by omega)).below hB6 (by omega)).below hB7 (by omega)
          have hcall := Lib.hid (HIS.out hval W7 (n0 + 2) (n0 + 1) pa pc hWA7 hbw7)
          have HVal := Lib.hid hval
          clear hok hok4 hval
          go_wp2_with fail
          refine hcall.out.mono ?_
          rintro e W8 ⟨rfl, hb8⟩
          have hbw8 := hbw7.trans (hb8.mono (by omega))
          cases isB
          · go_wp2_with (first
              | (go_at_call 68; refine (HN.out _ _).mono ?_; rintro e w' ⟨rfl, rfl⟩))
            exact ⟨rfl, HP2.out _ _ HVal.out trivial ⟨rfl, by rw [HN0.out]; exact hbw8⟩⟩
          · go_wp2_with (first
              | (go_at_call 68; refine (HY.out _ _).mono ?_; rintro e w' ⟨rfl, rfl⟩))
            go_ret
            refine HP3.out _ _ HVal.out trivial ⟨n0 + 2, n0 + 1, pa, pc, rfl, ⟨hWA7.below hb8, ⟨[], hmp7.below hb8 (by omega), MapOk.nil, fun p hp => by cases hp⟩⟩, hbw8, by omega, by omega⟩
theorem m_open (m : Mb) (A : Ma) (F : FuncId) (cap : Array Value) (isB : Bool) (w : World) (hl : Mlen m) (hm : MbAt w m A)
    (hcf : ∀ (args : Array Value) (W : World), (callFunc F args).run Try.prog W = .ok (.enter F args) W)
    (HIS : validM m = true → ∀ W wp mb pa pc, WayAt W wp m A pa pc mb → Below w.heap.size w W → Calls Try.prog F (#[.pointer (some ⟨wp, 0, none⟩)] ++ cap) W (Gives (.bool isB) W)) :
    Calls Try.prog 42 #[mv m A, .func (.func F) #[] cap] w (OpenPost m isB A w) := by
  cases hh : headM m
  · refine (m_open_no m A F cap w hl hh).mono fun e w' h => ?_
    unfold OpenPost
    rw [if_pos (by unfold validM; rw [hh]; rfl)]
    exact h
  · exact m_open_yes m A F cap isB w hl hm hh hcf HIS
end Go.Proofs.Yteeinehpneppnaa
set_option linter.unusedVariables false
set_option linter.unusedSimpArgs false
namespace Go.Proofs.Yteeinehpneppnaa
open Go.RowKit Go.Proofs
attribute [local irreducible] Ord.walk
/-- A deferred call's contract, under the wide fence, from a walk of its body. -/
theorem dcall_of_wpS {P : Program} {f : FuncId} {fn : Func} {c : Code} {args : Array Value} {u : FrameMode} {w : World} {R : Ending → FrameMode → World → Prop}
    (hf : P.funcs[f]? = some fn) (hb : fn.body = some c)
    (h : ∀ (c₀ : Frame) (cs : List Frame), c₀.mode = u → c.wpS P (bodyPostS P fn c₀ cs R) { tmps := args ++ Array.replicate (fn.ntmps - args.size) undef, defers := [] } (c₀ :: cs) w) :
    CallsDIn Fence.wide 0 P f args u w R := by
  refine ⟨trivial, fun c₀ cs hu _ => ?_⟩
  obtain ⟨b, hbb⟩ : ∃ b : Frame, b = { (default : Frame) with fn := f, kind := .deferred } := ⟨_, rfl⟩
  have hfn : b.fn = f := by rw [hbb]
  have hkd : b.kind = .deferred := by rw [hbb]
  have hent : Frame.enter P f args .deferred = b.at { tmps := args ++ Array.replicate (fn.ntmps - args.size) undef, defers := [] } [.code c] := by
    rw [hbb]; simp [Frame.enter, Frame.at, hf, hb]
  obtain ⟨e, a', cs', w', hq, har⟩ := h c₀ cs hu b [] hkd (by rw [hbb]; rfl)
  rw [← hent] at har
  cases e with
  | normal =>
    obtain ⟨hd, u', rfl, v, hr, hR⟩ := hq
    exact ⟨.returned v, u', w', _, hR, comesIn_wide.2 (Steps.trans har (.one step_end)), hkd, hfn, rfl, hd, fn, (show P.funcs[b.fn]? = some fn by rw [hfn]; exact hf), hr⟩
  | ret =>
    obtain ⟨hd, u', rfl, v, hr, hR⟩ := hq
    obtain ⟨todo, hs⟩ := har
    exact ⟨.returned v, u', w', _, hR, comesIn_wide.2 hs, hkd, hfn, rfl, hd, fn, (show P.funcs[b.fn]? = some fn by rw [hfn]; exact hf), hr⟩
  | panic chain =>
    obtain ⟨hd, u', rfl, hR⟩ := hq
    obtain ⟨todo, hs⟩ := har
    exact ⟨.panicked chain, u', w', _, hR, comesIn_wide.2 hs, hkd, hfn, rfl, hd, fn, (show P.funcs[b.fn]? = some fn by rw [hfn]; exact hf)⟩
  | exit id => exact hq.elim
  | goto l => exact hq.elim
  | outgrown =>
    obtain ⟨u', hR⟩ := hq
    exact ⟨.outgrown, u', w', b, hR, comesIn_wide.2 (har.resolve_left (by simp [hkd])), hkd, hfn, trivial⟩
theorem m_stopped_nil (p : Option Addr) (w : World) :
    Calls Try.prog 41 #[.nilIface, .pointer p] w (Same (.tuple #[]) w) := by
  go_enter Try.func41, Try.ntmps41
  go_wp2
  go_end0
  exact ⟨rfl, rfl⟩
/-- The error lies in its cell; nothing else has turned. -/
def Caught (e : Int) (pb : Nat) (w : World) (w' : World) : Prop := Lets (fun k _ => k = pb) w w' ∧ Blk w' pb #[.int .i64 e] 30
theorem m_stopped_stop (e : Int) (pb : Nat) (w : World) (hb : Blk w pb #[.int .i64 0] 30) :
    Calls Try.prog 41 #[stopV e, .pointer (some ⟨pb, 0, none⟩)] w fun x w' => x = .returned (.tuple #[]) ∧ Caught e pb w w' := by
  have r0 := hb.cell
  have r1 := hb.free
  have hlt := hb.lt
  have hta : ∀ w, (Instr.typeAssert (stopV e) 20 133 true).run Try.prog w = .ok (.tuple #[.agg #[.int .i64 e], .bool true]) w := fun _ => by kernel_rfl
  have heq : ∀ w, (Go.binOp .eql 20 (stopV e) .nilIface).run Try.prog w = .ok (.bool false) w := fun _ => by kernel_rfl
  unfold stopV at *
  go_enter Try.func41, Try.ntmps41
  go_wp2
  go_end0
  refine ⟨rfl, ((Lets.refl _ _).setCell rfl _).alloc _, (hb.set 0 _).alloc _⟩
/-- What a deferred closure is good for. -/
def Catch (K : FuncId) : Prop :=
  (∀ (e : Int) (pb : Nat) (w : World), Blk w pb #[.int .i64 0] 30 → CallsDIn Fence.wide 0 Try.prog K #[.pointer (some ⟨pb, 0, none⟩)] (.panicking [{ v := stopV e, recovered := false }]) w
    fun x u' w' => x = .returned (.tuple #[]) ∧ u' = .panicking [{ v := stopV e, recovered := true }] ∧ Caught e pb w w') ∧
  (∀ (pb : Nat) (w : World), CallsDIn Fence.wide 0 Try.prog K #[.pointer (some ⟨pb, 0, none⟩)] .returning w fun x u' w' => x = .returned (.tuple #[]) ∧ u' = .returning ∧ w' = w)
theorem catch_Comes : Catch 73 := by
  refine ⟨fun e pb w hb => ?_, fun pb w => ?_⟩
  · have HS := Lib.hid (m_stopped_stop e pb w hb)
    unfold stopV at *
    refine dcall_of_wpS Try.func73 rfl fun c₀ cs hu => ?_
    apply wpS_region
    simp [wpOpsS, go_sem, recoverD, hu, Try.ntmps73]
    refine HS.out.mono ?_
    rintro x w' ⟨rfl, h2⟩
    simp [bodyPostS, results, Try.results73, go_sem]
    exact h2
  · have HS := Lib.hid (m_stopped_nil (some ⟨pb, 0, none⟩) w)
    refine dcall_of_wpS Try.func73 rfl fun c₀ cs hu => ?_
    apply wpS_region
    simp [wpOpsS, go_sem, recoverD, hu, Try.ntmps73]
    refine HS.out.mono ?_
    rintro x w' ⟨rfl, rfl⟩
    cases c₀
    simp_all [bodyPostS, results, Try.results73, go_sem]
theorem catch_Where : Catch 78 := by
  refine ⟨fun e pb w hb => ?_, fun pb w => ?_⟩
  · have HS := Lib.hid (m_stopped_stop e pb w hb)
    unfold stopV at *
    refine dcall_of_wpS Try.func78 rfl fun c₀ cs hu => ?_
    apply wpS_region
    simp [wpOpsS, go_sem, recoverD, hu, Try.ntmps78]
    refine HS.out.mono ?_
    rintro x w' ⟨rfl, h2⟩
    simp [bodyPostS, results, Try.results78, go_sem]
    exact h2
  · have HS := Lib.hid (m_stopped_nil (some ⟨pb, 0, none⟩) w)
    refine dcall_of_wpS Try.func78 rfl fun c₀ cs hu => ?_
    apply wpS_region
    simp [wpOpsS, go_sem, recoverD, hu, Try.ntmps78]
    refine HS.out.mono ?_
    rintro x w' ⟨rfl, rfl⟩
    cases c₀
    simp_all [bodyPostS, results, Try.results78, go_sem]
theorem catch_Stretch : Catch 82 := by
  refine ⟨fun e pb w hb => ?_, fun pb w => ?_⟩
  · have HS := Lib.hid (m_stopped_stop e pb w hb)
    unfold stopV at *
    refine dcall_of_wpS Try.func82 rfl fun c₀ cs hu => ?_
    apply wpS_region
    simp [wpOpsS, go_sem, recoverD, hu, Try.ntmps82]
    refine HS.out.mono ?_
    rintro x w' ⟨rfl, h2⟩
    simp [bodyPostS, results, Try.results82, go_sem]
    exact h2
  · have HS := Lib.hid (m_stopped_nil (some ⟨pb, 0, none⟩) w)
    refine dcall_of_wpS Try.func82 rfl fun c₀ cs hu => ?_
    apply wpS_region
    simp [wpOpsS, go_sem, recoverD, hu, Try.ntmps82]
    refine HS.out.mono ?_
    rintro x w' ⟨rfl, rfl⟩
    cases c₀
    simp_all [bodyPostS, results, Try.results82, go_sem]
theorem catch_Safe : Catch 85 := by
  refine ⟨fun e pb w hb => ?_, fun pb w => ?_⟩
  · have HS := Lib.hid (m_stopped_stop e pb w hb)
    unfold stopV at *
    refine dcall_of_wpS Try.func85 rfl fun c₀ cs hu => ?_
    apply wpS_region
    simp [wpOpsS, go_sem, recoverD, hu, Try.ntmps85]
    refine HS.out.mono ?_
    rintro x w' ⟨rfl, h2⟩
    simp [bodyPostS, results, Try.results85, go_sem]
    exact h2
  · have HS := Lib.hid (m_stopped_nil (some ⟨pb, 0, none⟩) w)
    refine dcall_of_wpS Try.func85 rfl fun c₀ cs hu => ?_
    apply wpS_region
    simp [wpOpsS, go_sem, recoverD, hu, Try.ntmps85]
    refine HS.out.mono ?_
    rintro x w' ⟨rfl, rfl⟩
    cases c₀
    simp_all [bodyPostS, results, Try.results85, go_sem]
theorem catch_Ahead : Catch 40 := by
  refine ⟨fun e pb w hb => ?_, fun pb w => ?_⟩
  · have HS := Lib.hid (m_stopped_stop e pb w hb)
    unfold stopV at *
    refine dcall_of_wpS Try.func40 rfl fun c₀ cs hu => ?_
    apply wpS_region
    simp [wpOpsS, go_sem, recoverD, hu, Try.ntmps40]
    refine HS.out.mono ?_
    rintro x w' ⟨rfl, h2⟩
    simp [bodyPostS, results, Try.results40, go_sem]
    exact h2
  · have HS := Lib.hid (m_stopped_nil (some ⟨pb, 0, none⟩) w)
    refine dcall_of_wpS Try.func40 rfl fun c₀ cs hu => ?_
    apply wpS_region
    simp [wpOpsS, go_sem, recoverD, hu, Try.ntmps40]
    refine HS.out.mono ?_
    rintro x w' ⟨rfl, rfl⟩
    cases c₀
    simp_all [bodyPostS, results, Try.results40, go_sem]
theorem catch_There : Catch 53 := by
  refine ⟨fun e pb w hb => ?_, fun pb w => ?_⟩
  · have HS := Lib.hid (m_stopped_stop e pb w hb)
    unfold stopV at *
    refine dcall_of_wpS Try.func53 rfl fun c₀ cs hu => ?_
    apply wpS_region
    simp [wpOpsS, go_sem, recoverD, hu, Try.ntmps53]
    refine HS.out.mono ?_
    rintro x w' ⟨rfl, h2⟩
    simp [bodyPostS, results, Try.results53, go_sem]
    exact h2
  · have HS := Lib.hid (m_stopped_nil (some ⟨pb, 0, none⟩) w)
    refine dcall_of_wpS Try.func53 rfl fun c₀ cs hu => ?_
    apply wpS_region
    simp [wpOpsS, go_sem, recoverD, hu, Try.ntmps53]
    refine HS.out.mono ?_
    rintro x w' ⟨rfl, rfl⟩
    cases c₀
    simp_all [bodyPostS, results, Try.results53, go_sem]
theorem catch_Clash : Catch 60 := by
  refine ⟨fun e pb w hb => ?_, fun pb w => ?_⟩
  · have HS := Lib.hid (m_stopped_stop e pb w hb)
    unfold stopV at *
    refine dcall_of_wpS Try.func60 rfl fun c₀ cs hu => ?_
    apply wpS_region
    simp [wpOpsS, go_sem, recoverD, hu, Try.ntmps60]
    refine HS.out.mono ?_
    rintro x w' ⟨rfl, h2⟩
    simp [bodyPostS, results, Try.results60, go_sem]
    exact h2
  · have HS := Lib.hid (m_stopped_nil (some ⟨pb, 0, none⟩) w)
    refine dcall_of_wpS Try.func60 rfl fun c₀ cs hu => ?_
    apply wpS_region
    simp [wpOpsS, go_sem, recoverD, hu, Try.ntmps60]
    refine HS.out.mono ?_
    rintro x w' ⟨rfl, rfl⟩
    cases c₀
    simp_all [bodyPostS, results, Try.results60, go_sem]
/-- The deferred call that recovers. -/
abbrev dcl (K : FuncId) (pb : Nat) : Deferred := { target := .fn (.func K) #[.pointer (some ⟨pb, 0, none⟩)], args := #[] }
theorem post_catch {fn : Func} {K : FuncId} {pb : Nat} {e : Int} {v : Value} {a : Act} {w : World} {R : Ending → World → Prop} (hK : Catch K) (hi : ∀ w, (invoke (.fn (.func K) #[.pointer (some ⟨pb, 0, none⟩)]) #[]).run Try.prog w = .ok (.enter K #[.pointer (some ⟨pb, 0, none⟩)]) w) (hd : a.defers = [dcl K pb]) (hb : Blk w pb #[.int .i64 0] 30)
    (h : ∀ w', Lets (fun k _ => k = pb) w w' → Blk w' pb #[.int .i64 e] 30 → (results fn a.tmps).run Try.prog w' = .ok v w' ∧ R (.returned v) w') : bodyPostM Fence.wide 0 Try.prog fn R (stopX e) a w := by
  show LeavesInM _ _ _ _ _ _ a.defers _ _
  rw [hd]
  refine ⟨by simp, .inr ⟨fun h => by simp [Fence.wide] at h, _, _, K, _, rfl, hi w, fun _ _ => trivial, ?_⟩⟩
  obtain ⟨h1, h2⟩ := hK.1 e pb w hb
  refine ⟨h1, fun c cs hu hr => ?_⟩
  obtain ⟨e', u', w', fr, ⟨rfl, rfl, hc⟩, rest⟩ := h2 c cs hu hr
  refine ⟨.returned (.tuple #[]), _, w', fr, ?_, rest⟩
  have := h w' hc.1 hc.2
  exact ⟨v, this.1, this.2⟩
theorem post_out {fn : Func} {K : FuncId} {pb : Nat} {v : Value} {a : Act} {w : World} {R : Ending → World → Prop} (hK : Catch K) (hi : ∀ w, (invoke (.fn (.func K) #[.pointer (some ⟨pb, 0, none⟩)]) #[]).run Try.prog w = .ok (.enter K #[.pointer (some ⟨pb, 0, none⟩)]) w) (hd : a.defers = [dcl K pb])
    (h : (results fn a.tmps).run Try.prog w = .ok v w) (hr : R (.returned v) w) : bodyPostM Fence.wide 0 Try.prog fn R .ret a w := by
  show LeavesInM _ _ _ _ _ _ a.defers _ _
  rw [hd]
  refine ⟨by simp, .inr ⟨fun h => by simp [Fence.wide] at h, _, _, K, _, rfl, hi w, fun _ _ => trivial, ?_⟩⟩
  obtain ⟨h1, h2⟩ := hK.2 pb w
  refine ⟨h1, fun c cs hu hro => ?_⟩
  obtain ⟨e', u', w', fr, ⟨rfl, rfl, rfl⟩, rest⟩ := h2 c cs hu hro
  exact ⟨.returned (.tuple #[]), .returning, _, fr, ⟨v, h, hr⟩, rest⟩
theorem post_out1 {fn : Func} {K : FuncId} {pb : Nat} {v : Value} {a : Act} {w : World} {R : Ending → World → Prop} {D : Nat} (hK : Catch K) (hi : ∀ w, (invoke (.fn (.func K) #[.pointer (some ⟨pb, 0, none⟩)]) #[]).run Try.prog w = .ok (.enter K #[.pointer (some ⟨pb, 0, none⟩)]) w) (hd : a.defers = [{ target := .collected D, args := #[] }, dcl K pb]) (hD : w.heap[D]? = some (.deferred (some [])))
    (h : ∀ w', Lets (fun k _ => k = D) w w' → w'.heap.size = w.heap.size → (results fn a.tmps).run Try.prog w' = .ok v w' ∧ R (.returned v) w') : bodyPostM Fence.wide 0 Try.prog fn R .ret a w := by
  show LeavesInM _ _ _ _ _ _ a.defers _ _
  rw [hd]
  refine ⟨by simp, .inl ⟨D, w.putObj D (.deferred none), rfl, run_takeDeferred hD, ?_⟩⟩
  have h3 := h (w.putObj D (.deferred none)) ((Lets.refl _ _).putObj rfl _) (by simp)
  refine ⟨by simp, .inr ⟨fun h => by simp [Fence.wide] at h, _, _, K, _, rfl, hi _, fun _ _ => trivial, ?_⟩⟩
  obtain ⟨h1, h2⟩ := hK.2 pb (w.putObj D (.deferred none))
  refine ⟨h1, fun c cs hu hro => ?_⟩
  obtain ⟨e', u', w', fr, ⟨rfl, rfl, rfl⟩, rest⟩ := h2 c cs hu hro
  exact ⟨.returned (.tuple #[]), .returning, _, fr, ⟨v, h3.1, h3.2⟩, rest⟩
end Go.Proofs.Yteeinehpneppnaa
set_option linter.unusedVariables false
set_option linter.unusedSimpArgs false
namespace Go.Proofs.Yteeinehpneppnaa
open Go.RowKit Go.Proofs
attribute [local irreducible] Ord.walk
def knownP (m : Mb) (isB : Bool) : Int := if validM m = false then 1 else if isB = false then 2 else if knownM m = false then 10 else 0
theorem herds_ok {m : Mb} (hv : validM m = true) : m.herds.all (hdOk m.places.length) = true := by
  unfold validM at hv
  simp only [Bool.and_eq_true] at hv
  exact hv.2.2.2.1
set_option maxHeartbeats 4000000 in
set_option maxRecDepth 100000 in
theorem m_isFromC {m : Mb} {A : Ma} {pa : Option Addr} {pc wp mb : Nat} (n1 n2 : Nat) (i p : Int) (W : World) (hl : Mlen m) (hv : validM m = true) (hw : WayAt W wp m A pa pc mb) (b1 : Blk W n1 #[.int .i64 i] 3) (b2 : Blk W n2 #[.int .i64 p] 3) :
    Calls Try.prog 74 #[.pointer (some ⟨wp, 0, none⟩), .pointer (some ⟨n1, 0, none⟩), .pointer (some ⟨n2, 0, none⟩)] W (Gives (.bool (fromB m i p)) W) := by
  have hc := m_isFrom wp m A i p W hl (hw.blk.cell 0) (hw.blk.cell 2) hw.args.herds
  rw [fromP_eq (herds_ok hv)] at hc
  have HC := Lib.hid hc
  clear hc
  have r1 := b1.cell
  have r2 := b2.cell
  generalize fromB m i p = B at *
  go_enter Try.func74, Try.ntmps74
  go_wp2_with (go_at_call 75; refine HC.out.mono ?_; rintro e w2 ⟨rfl, hb2⟩)
  go_ret
  exact ⟨rfl, hb2⟩
set_option maxHeartbeats 4000000 in
set_option maxRecDepth 100000 in
theorem m_herdC (K : FuncId) (hK : K = 83 ∨ K = 86) {m : Mb} {A : Ma} {pa : Option Addr} {pc wp mb : Nat} (n1 : Nat) (i : Int) (W : World) (hl : Mlen m) (hw : WayAt W wp m A pa pc mb) (b1 : Blk W n1 #[.int .i64 i] 3) :
    Calls Try.prog K #[.pointer (some ⟨wp, 0, none⟩), .pointer (some ⟨n1, 0, none⟩)] W (Gives (.bool (herdB m i)) W) := by
  have HC := Lib.hid (m_isHerd wp m A none 0 0 0 i W hl.herds (hw.blk.cell 2))
  have r1 := b1.cell
  generalize herdB m i = B at *
  rcases hK with rfl | rfl
  · go_enter Try.func83, Try.ntmps83
    go_wp2_with (go_at_call 44; refine HC.out.mono ?_; rintro e w2 ⟨rfl, rfl⟩)
    go_ret
    exact ⟨rfl, Below.refl _ _⟩
  · go_enter Try.func86, Try.ntmps86
    go_wp2_with (go_at_call 44; refine HC.out.mono ?_; rintro e w2 ⟨rfl, rfl⟩)
    go_ret
    exact ⟨rfl, Below.refl _ _⟩
set_option maxHeartbeats 4000000 in
set_option maxRecDepth 100000 in
theorem m_herdDayC {m : Mb} {A : Ma} {pa : Option Addr} {pc wp mb : Nat} (n1 n2 : Nat) (i d : Int) (W : World) (hl : Mlen m) (hw : WayAt W wp m A pa pc mb) (b1 : Blk W n1 #[.int .i64 i] 3) (b2 : Blk W n2 #[.int .i64 d] 3) :
    Calls Try.prog 79 #[.pointer (some ⟨wp, 0, none⟩), .pointer (some ⟨n1, 0, none⟩), .pointer (some ⟨n2, 0, none⟩)] W (Gives (.bool (herdB m i && inB d 0 100)) W) := by
  have HC := Lib.hid (m_isHerd wp m A none 0 0 0 i W hl.herds (hw.blk.cell 2))
  have HD := Lib.hid (m_isDay d W)
  have r1 := b1.cell
  have r2 := b2.cell
  generalize inB d 0 100 = C at *
  cases h : herdB m i <;> rw [h] at HC
  all_goals
    go_enter Try.func79, Try.ntmps79
    go_wp2_with (first
      | (go_at_call 44; refine HC.out.mono ?_; rintro e w2 ⟨rfl, rfl⟩)
      | (go_at_call 55; refine HD.out.mono ?_; rintro e w2 ⟨rfl, rfl⟩))
    go_ret
    exact ⟨by simp, Below.refl _ _⟩
set_option maxHeartbeats 4000000 in
set_option maxRecDepth 100000 in
theorem m_herdsC {m : Mb} {A : Ma} {pa : Option Addr} {pc wp mb : Nat} (n1 n2 : Nat) (i k : Int) (W : World) (hl : Mlen m) (hw : WayAt W wp m A pa pc mb) (b1 : Blk W n1 #[.int .i64 i] 3) (b2 : Blk W n2 #[.int .i64 k] 3) :
    Calls Try.prog 43 #[.pointer (some ⟨wp, 0, none⟩), .pointer (some ⟨n1, 0, none⟩), .pointer (some ⟨n2, 0, none⟩)] W (Gives (.bool (herdB m i && herdB m k)) W) := by
  have HC := Lib.hid (fun i => m_isHerd wp m A none 0 0 0 i W hl.herds (hw.blk.cell 2))
  have r1 := b1.cell
  have r2 := b2.cell
  cases h : herdB m i
  all_goals
    go_enter Try.func43, Try.ntmps43
    go_wp2_with (go_at_call 44; refine (HC.out _).mono ?_; (try rw [h]); rintro e w2 ⟨rfl, rfl⟩)
    go_ret
    exact ⟨by simp, Below.refl _ _⟩
set_option maxHeartbeats 4000000 in
set_option maxRecDepth 100000 in
theorem m_dayC (n1 wp : Nat) (d : Int) (W : World) (b1 : Blk W n1 #[.int .i64 d] 3) :
    Calls Try.prog 54 #[.pointer (some ⟨wp, 0, none⟩), .pointer (some ⟨n1, 0, none⟩)] W (Gives (.bool (inB d 0 100)) W) := by
  have HD := Lib.hid (m_isDay d W)
  have r1 := b1.cell
  go_enter Try.func54, Try.ntmps54
  go_wp2_with (go_at_call 55; refine HD.out.mono ?_; rintro e w2 ⟨rfl, rfl⟩)
  go_ret
  exact ⟨rfl, Below.refl _ _⟩
end Go.Proofs.Yteeinehpneppnaa
