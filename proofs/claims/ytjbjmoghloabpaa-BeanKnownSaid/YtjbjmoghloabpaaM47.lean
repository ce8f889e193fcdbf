/- Parts of a proof: KnownM, KnownB. -/
import Derived.Test.YtjbjmoghloabpaaM46
import Derived.Deep.CutRange
import Derived.Test.YtjbjmoghloabpaaM44
/- The law BeanKnown walked: valid votes with fewer groups than there can be. -/
set_option linter.unusedVariables false
set_option linter.unusedSimpArgs false
namespace Go.Proofs.Ytjbjmoghloabpaa
open Go.RowKit Go.Proofs
attribute [local irreducible] Ord.walk
set_option maxHeartbeats 40000000 in
set_option maxRecDepth 100000 in
theorem w_Known_main (b : Bn) (ga : Option Addr) (gc : Nat) (pa : Option Addr) (pc : Nat) (n1 : Nat) (hn1 : n1 < 256) (w : World) (hg : GsAt w ga b.gs) (hp : PsAt w pa b.ps) (hv : valid b = true) (hlen : b.gs.length < 4) :
    Calls Try.prog 8 #[bv b ga gc pa pc, .int .u8 n1] w (Gives (.bool true) w) := by
  have hln := valid_len hv
  have hV := valid_V hv
  have HL : Hid (∀ W, Calls Try.prog 12 #[bv b ga gc pa pc] W (Gives (.bool false) W)) := fun W => by
    have := l_long b ga gc pa pc W (by unfold maxLen; omega) (by unfold maxLen; omega)
    rwa [show longB b = false by unfold longB; exact decide_eq_false (by omega)] at this
  have HBn : Hid (∀ W, Below w.heap.size w W → Calls Try.prog 36 #[bv b ga gc pa pc] W (Gives (.bool true) W)) := fun W hb => by
    have := r_bean (hg.below hb) (hp.below hb) (ga := ga) (gc := gc) (pa := pa) (pc := pc) (by omega) (by omega)
    rwa [hv] at this
  obtain ⟨V, hVe⟩ : ∃ V : Nat, b.V = V := ⟨b.V.toNat, by omega⟩
  have hV8 : V ≤ 8 := by omega
  have hV1 : 1 ≤ V := by omega
  have hVn : b.V.toNat = V := by omega
  obtain ⟨v, hve⟩ : ∃ v, n1 % V = v := ⟨_, rfl⟩
  have hvV : v < V := by rw [← hve]; exact Nat.mod_lt _ (by omega)
  have hr1 : (n1 : Int).tmod b.V = (v : Int) := by rw [hVe, ← hve, Int.tmod_eq_emod_of_nonneg (by omega)]; rfl
  have hb0 : ¬ b.V = 0 := by omega
  obtain ⟨wh, bl, al, on, no, is, ps, e, HF0⟩ := kf hv hlen (show (v : Int) < b.V by omega)
  have HF := Lib.hid HF0
  have hwh8 := HF0.wh8
  have hbl8 := HF0.bl8
  have hq1 := bit_i64 wh v hwh8
  have hq2 := bit_i64 bl v hbl8
  clear HF0
  have I1 : Hid (∀ W, Below w.heap.size w W → Calls Try.prog 18 #[bv b ga gc pa pc] W (Gives3 (.int .i64 wh) (.int .i64 bl) (.int .i64 e) W)) := fun W hb => by
    have := bb_Known b ga gc pa pc W (hg.below hb) (hp.below hb) (by omega) (by omega); rwa [HF.out.known] at this
  have I2 : Hid (∀ W, Below w.heap.size w W → Calls Try.prog 16 #[bv b ga gc pa pc, .int .i64 v] W (Gives2 (.int .i64 is) (.int .i64 e) W)) := fun W hb => by
    have := bb_White b ga gc pa pc W (hg.below hb) (hp.below hb) (by omega) (by omega) v; rwa [HF.out.white] at this
  have I3 : Hid (∀ W, Below w.heap.size w W → Calls Try.prog 20 #[bv b ga gc pa pc] W (Gives2 (.int .i64 ps) (.int .i64 e) W)) := fun W hb => by
    have := bb_Passed b ga gc pa pc W (hg.below hb) (hp.below hb) (by omega) (by omega); rwa [HF.out.passed] at this
  have I4 : Hid (∀ W, Below w.heap.size w W → Calls Try.prog 24 #[bv b ga gc pa pc] W (Gives2 (.int .i64 al) (.int .i64 0) W)) := fun W hb => by
    have := bb_Count b ga gc pa pc W (hg.below hb) (hp.below hb) (by omega) (by omega); rwa [HF.out.count] at this
  have I5 : Hid (∀ W p q, Below w.heap.size w W → Blk W p #[.int .i64 b.V, .int .i64 b.nd, .int .i64 b.lo, .int .i64 b.hi, .slice ga b.gs.length gc, .slice pa b.ps.length pc] 27 → W.cell? ⟨q, 0, none⟩ = some (.int .i64 v) → Calls Try.prog 40 #[.int .i64 1, .pointer (some ⟨p, 0, none⟩), .pointer (some ⟨q, 0, none⟩)] W (Gives2 (.int .i64 on) (.bool true) W)) := fun W p q hb h1 h2 =>
    l_known1 b ga gc pa pc v p q 1 on W h1 h2 (hg.below hb) (hp.below hb) hv hlen (by omega) (.inr rfl) HF.out.ones
  have I6 : Hid (∀ W p q, Below w.heap.size w W → Blk W p #[.int .i64 b.V, .int .i64 b.nd, .int .i64 b.lo, .int .i64 b.hi, .slice ga b.gs.length gc, .slice pa b.ps.length pc] 27 → W.cell? ⟨q, 0, none⟩ = some (.int .i64 v) → Calls Try.prog 40 #[.int .i64 0, .pointer (some ⟨p, 0, none⟩), .pointer (some ⟨q, 0, none⟩)] W (Gives2 (.int .i64 no) (.bool true) W)) := fun W p q hb h1 h2 =>
    l_known1 b ga gc pa pc v p q 0 no W h1 h2 (hg.below hb) (hp.below hb) hv hlen (by omega) (.inl rfl) HF.out.none
  have I7 : Hid (∀ W (n : Nat), Below w.heap.size w W → Calls Try.prog 26 #[bv b ga gc pa pc, .int .i64 n] W (Gives3 (.int .i64 (tellR b n).1) (.int .i64 (tellR b n).2.1) (.int .i64 (tellR b n).2.2) W)) := fun W n hb =>
    bb_Tell b ga gc pa pc W (hg.below hb) (hp.below hb) (by omega) (by omega) n
  have hful : ¬ (b.gs.length : Int) = 4 := by omega
  have HV := Lib.hid hVe
  have HVn := Lib.hid hVn
  have HA := Lib.hid l_alive
  clear hve hVe hVn hg hp
  unfold bv at *
  go_enter Try.func8, Try.ntmps8
  go_wp2_with (first
    | (go_at_call 12; refine (HL.out _).mono ?_; rintro e w1 ⟨rfl, hb1⟩; refine at_stop ?_))
  unfold Stop
  have bb := (Blk.new w #[.int .i64 b.V, .int .i64 b.nd, .int .i64 b.lo, .int .i64 b.hi, .slice ga b.gs.length gc, .slice pa b.ps.length pc] 27).below hb1 (by first | omega | (simp; done) | (simp; omega))
  have hB := ((Below.refl w.heap.size w).alloc (Nat.le_refl _) _).trans (hb1.mono (by first | omega | (simp; done) | (simp; omega)))
  clear hb1
  have rb := bb.cell
  go_upto_region 4 with (first
    | (go_at_call 36; refine (HBn.out _ hB).mono ?_; rintro e w2 ⟨rfl, hb2⟩; replace bb := bb.below hb2 bb.lt; replace hB := hB.trans (hb2.mono hB.size); clear hb2; replace rb := bb.cell))
  clear hful
  have bq := (Blk.new w2 #[.int .i64 (v : Int)] 3)
  replace bb := bb.alloc (.cells #[.int .i64 (v : Int)] 3)
  replace hB := hB.alloc hB.size (.cells #[.int .i64 (v : Int)] 3)
  have hs2 := bb.lt
  clear rb
  obtain ⟨w3, hw3⟩ : ∃ w3, w2.alloc (.cells #[.int .i64 (v : Int)] 3) = w3 := ⟨_, rfl⟩
  rw [hw3] at bq bb hB hs2
  rw [hw3]
  clear hw3
  generalize w2.heap.size = q at *
  have rq : w3.cell? ⟨q, 0, none⟩ = some (.int .i64 v) := by rw [bq.cell]; simp
  clear bq
  go_upto_region 9 with (first
    | (refine wpList_load_blk 27 (.tmp 2) agg_bean rfl rfl rfl bb rfl ?_)
    | (go_at_call 18; refine (I1.out _ hB).mono ?_; rintro e w5 ⟨rfl, hb5⟩; replace bb := bb.below hb5 bb.lt; replace rq := cell_later hb5 rq; replace hB := hB.trans (hb5.mono hB.size); clear hb5)
    | (go_at_call 16; refine (I2.out _ hB).mono ?_; rintro e w5 ⟨rfl, hb5⟩; replace bb := bb.below hb5 bb.lt; replace rq := cell_later hb5 rq; replace hB := hB.trans (hb5.mono hB.size); clear hb5)
    | (go_at_call 20; refine (I3.out _ hB).mono ?_; rintro e w5 ⟨rfl, hb5⟩; replace bb := bb.below hb5 bb.lt; replace rq := cell_later hb5 rq; replace hB := hB.trans (hb5.mono hB.size); clear hb5)
    | (go_at_call 24; refine (I4.out _ hB).mono ?_; rintro e w5 ⟨rfl, hb5⟩; replace bb := bb.below hb5 bb.lt; replace rq := cell_later hb5 rq; replace hB := hB.trans (hb5.mono hB.size); clear hb5))
  clear I1 I2 I3 I4
  go_upto_region 11 with (first
    | (go_at_call 40; refine ((by first | with_reducible exact I5.out _ _ _ hB bb rq | with_reducible exact I6.out _ _ _ hB bb rq) : Calls _ _ _ _ _).mono ?_; rintro e w6 ⟨rfl, hb6⟩; replace bb := bb.below hb6 bb.lt; replace rq := cell_later hb6 rq; replace hB := hB.trans (hb6.mono hB.size); clear hb6))
  have hsum := HF.out.all
  have hal8 := HF.out.al8
  have hcase := HF.out.case
  clear I5 I6 HL HBn hln hlen hv hn1 hr1 hb0
  go_cut [111] from 78 to 111 (fun p wx => p = .bool false ∧ wx = w6)
  case first =>
    have hs1 : (on : Int) + (no : Int) = (al : Int) := by omega
    have hon : (on : Int) ≤ 256 := by omega
    have hno : (no : Int) ≤ 256 := by omega
    clear HF HA HV HVn hV hV8 hV1 hvV bb hB rq I7 hs2
    rcases hcase with ⟨rfl, h0, -⟩ | ⟨rfl, h0, -⟩
    · have hz : (al : Int) = 0 := by omega
      go_wp2_with fail
      go_meet
      exact ⟨rfl, rfl⟩
    · have hz : (0 : Int) < (al : Int) := by omega
      go_wp2_with fail
      go_meet
      exact ⟨rfl, rfl⟩
  case rest =>
    obtain ⟨rfl, rfl⟩ := hcut
    rcases hcase with ⟨rfl, rfl, rfl, rfl, rfl, rfl⟩ | ⟨rfl, hpos, hab, hob, hvc, hpc, htl⟩
    · clear HF
      go_wp2_with (first
        | (go_at_call 13; refine (HA.out _).mono ?_; rintro e w7 ⟨rfl, hb7⟩))
      go_ret
      exact ⟨rfl, hB.trans (hb7.mono hB.size)⟩
    · have hon : on = 0 ∨ ¬ (on : Int) = 0 := by omega
      clear HF hs2 hwh8 hbl8
      generalize wc = wk at *
      go_upto_region 15 with fail
      go_cut [187] from 135 to 187 (fun p wx => p = .bool false ∧ wx = wk)
      case first =>
        have rb := bb.cell
        have hV0 : 0 ≤ b.V := by omega
        have hv64 : v < 64 := by omega
        have hvi : (v : Int) < 64 := by omega
        have hVb : b.V ≤ 8 := by omega
        clear HA hpc htl I7 hpos hsum hal8 hB hon HV HVn hV hV8 hV1 hvV bb
        rcases hvc with ⟨rfl, h1, e1, e2, rfl⟩ | ⟨rfl, h1, e1, e2, rfl⟩ | ⟨h1, h2, e1, e2, rfl⟩
        · have hn : ¬ (on : Int) = 0 := by omega
          rw [e1] at hq1; rw [e2] at hq2
          clear h1 e1 e2
          go_wp2_with fail
          go_meet
          exact ⟨congrArg Value.bool (by first | rfl | (simp; done) | (simp; omega)), rfl⟩
        · have hn : ¬ (no : Int) = 0 := by omega
          rw [e1] at hq1; rw [e2] at hq2
          clear h1 e1 e2
          go_wp2_with fail
          go_meet
          exact ⟨congrArg Value.bool (by first | rfl | (simp; done) | (simp; omega)), rfl⟩
        · have hn : ¬ (no : Int) = 0 := by omega
          have hm : ¬ (on : Int) = 0 := by omega
          rw [e1] at hq1; rw [e2] at hq2
          clear h1 h2 e1 e2
          go_wp2_with fail
          go_meet
          exact ⟨congrArg Value.bool (by first | rfl | (simp; done) | (simp; omega)), rfl⟩
      case rest =>
        obtain ⟨rfl, rfl⟩ := hcut
        clear hvc hab hob hpos hsum hal8 hon hq1 hq2 rq
        have hVs : b.V + 1 = ((V + 1 : Nat) : Int) := by rw [HV.out]; rfl
        have HVs := Lib.hid hVs
        clear hVs
        generalize wc = wm at *
        have rb := bb.cell
        go_wp2_with fail
        clear rb
        go_loopw [20, 21, 191] (fun x y i wr => ∃ k : Nat, k ≤ V + 1 ∧ i = .int .i64 k ∧ x = .bool (eachK b k) ∧ y = .bool (someK b k) ∧ Below wm.heap.size wm wr) (fun _ _ i _ => V + 1 - (intOf i).toNat)
        case atStart => exact ⟨0, by omega, rfl, rfl, rfl, Below.refl _ _⟩
        case round =>
          obtain ⟨k, hk, rfl, rfl, rfl, hBr⟩ := hrel
          have hsr := hBr.size
          by_cases hlt : k < V + 1
          · have hlti : (k : Int) < b.V + 1 := by have := HV.out; omega
            obtain ⟨x1, y1, htk⟩ := htl k (by omega)
            have IT := Lib.hid (fun W hb => I7.out W k hb)
            rw [htk] at IT
            have bbr := bb.below hBr bb.lt
            have hBw := hB.trans (hBr.mono hB.size)
            have hE := eachK_succ b k
            have hS := someK_succ b k
            cases hc : canB b k
            · rw [hc] at IT hE hS
              simp only [Bool.not_false, Bool.true_or, Bool.and_true, Bool.false_and, Bool.or_false] at hE hS
              have HE := Lib.hid hE
              have HS := Lib.hid hS
              clear htl htk hE hS hpc I7
              generalize eachK b k = ec at *
              generalize someK b k = sc at *
              go_wp2_with (first
                | (refine wpList_load_blk 27 (.tmp 2) agg_bean rfl rfl rfl bbr rfl ?_)
                | (go_at_call 26; refine (IT.out _ hBw).mono ?_; rintro e w6 ⟨rfl, hb6⟩))
              exact ⟨⟨k + 1, by omega, by go_num, by rw [HE.out], by rw [HS.out], hBr.trans (hb6.mono hsr)⟩, by simp [intOf]; omega⟩
            · rw [hc] at IT hE hS
              simp only [Bool.not_true, Bool.false_or, Bool.true_and] at hE hS
              have HE := Lib.hid hE
              have HS := Lib.hid hS
              clear htl htk hE hS hpc I7
              generalize eachK b k = ec at *
              generalize someK b k = sc at *
              have rbr := bbr.cell
              go_upto_region 23 with (first
                | (refine wpList_load_blk 27 (.tmp 2) agg_bean rfl rfl rfl bbr rfl ?_)
                | (go_at_call 26; refine (IT.out _ hBw).mono ?_; rintro e w6 ⟨rfl, hb6⟩; replace rbr := (bbr.below hb6 bbr.lt).cell))
              refine Ord.wp_region [(0, 0), (1, 0), (2, 0), (3, 0), (4, 0), (5, 0), (6, 0), (7, 0), (8, 0), (9, 0), (10, 0), (11, 0), (12, 0), (13, 0), (14, 0), (15, 0)] (fun _ => True) (by kernel_rfl) (by kernel_rfl) (fun c a d v w h => by cases d <;> exact h) trivial ?_
              cases ec <;> cases sc
              all_goals go_wp2_with (first
                | ((with_reducible refine Ord.at_calm ?_); refine Ord.calm_skip rfl ?_ (fun K hK => ?_); (focus (simp [Region.wanted, yielded]; done))) | with_reducible refine Ord.walk_calm rfl rfl (fun K hK => ?_) | ((with_reducible refine Ord.at_wild ?_); refine Ord.wild_fieldAddr rfl rfl (fun W => by simp [go_sem]; rfl) (fun K hK => ?_)) | ((with_reducible refine Ord.at_wild ?_); refine Ord.wild_move rfl rfl (fun K hK => ?_)) | ((with_reducible refine Ord.at_wild ?_); refine Ord.wild_nilCheck rfl rfl (fun K hK => ?_)) | with_reducible refine Ord.walk_eff rfl (by first | (simp; done) | assumption | (go_simp; done) | (repeat (first | assumption | exact Below.refl _ _ | refine Below.drew ?_ | refine Below.alloc ?_ (by first | omega | (simp; done) | (simp; omega)) _ | refine Below.setCell ?_ (by first | omega | (simp; done) | (simp; omega)) _ | refine Below.trans ?_ (Below.mono (by assumption) (by first | omega | (simp; done) | (simp; omega)))))) (fun K hK => ?_) | with_reducible refine Ord.at_fork ?_ ?_ | with_reducible refine Ord.walk_nil ?_ | (with_reducible refine Ord.next_of (by first | (simp; done) | (go_simp; done) | (repeat (first | assumption | exact Below.refl _ _ | refine Below.drew ?_ | refine Below.alloc ?_ (by first | omega | (simp; done) | (simp; omega)) _ | refine Below.setCell ?_ (by first | omega | (simp; done) | (simp; omega)) _ | refine Below.trans ?_ (Below.mono (by assumption) (by first | omega | (simp; done) | (simp; omega)))))) (fun _ => ?_)))
              all_goals refine ⟨⟨k + 1, by omega, by go_num, congrArg Value.bool ?_, congrArg Value.bool ?_, (hBr.trans (hb6.mono hsr)).drew⟩, by simp [intOf]; omega⟩
              all_goals first | rw [HE.out] | rw [HS.out]
              all_goals (first | rfl | (simp; done))
          · have hlti : ¬ (k : Int) < b.V + 1 := by have := HV.out; omega
            have e : k = V + 1 := by omega
            subst e
            rw [HVn.out] at hpc
            have hBw := hB.trans (hBr.mono hB.size)
            generalize eachK b (V + 1) = ec at *
            generalize someK b (V + 1) = sc at *
            clear htl I7 bb hBr HVs hk
            rcases hpc with ⟨rfl, rfl, rfl⟩ | ⟨rfl, rfl, rfl⟩ | ⟨rfl, rfl, rfl⟩
            all_goals
              (go_wp2_with (first
                | (go_at_call 13; refine (HA.out _).mono ?_; rintro e w7 ⟨rfl, hb7⟩)))
            all_goals (go_ret; exact ⟨rfl, hBw.trans (hb7.mono hBw.size)⟩)
end Go.Proofs.Ytjbjmoghloabpaa
/- The law BeanKnown walked: all votes. -/
set_option linter.unusedVariables false
set_option linter.unusedSimpArgs false
namespace Go.Proofs.Ytjbjmoghloabpaa
open Go.RowKit Go.Proofs
attribute [local irreducible] Ord.walk
theorem w_BeanKnown (b : Bn) (ga : Option Addr) (gc : Nat) (pa : Option Addr) (pc : Nat) (n1 : Int) (w : World) (hg : GsAt w ga b.gs) (hp : PsAt w pa b.ps) (hgl : b.gs.length ≤ maxLen) (hpl : b.ps.length ≤ maxLen) (wn1 : (Lit.int .u8 n1).wf = true) :
    Calls Try.prog 8 #[bv b ga gc pa pc, .int .u8 n1] w (Gives (.bool true) w) := by
  by_cases hl : 40 < (max b.gs.length b.ps.length : Nat)
  · exact w_Known_long b ga gc pa pc n1 w hgl hpl hl
  · cases hv : valid b
    · exact w_Known_no b ga gc pa pc n1 w hg hp (by omega) (by omega) hv
    · by_cases hf : (b.gs.length : Int) = 4
      · exact w_Known_full b ga gc pa pc n1 w hg hp (by omega) (by omega) hv hf
      · have hb1 := bounds_u8 wn1
        have hln := valid_len hv
        obtain ⟨k, rfl⟩ : ∃ k : Nat, n1 = (k : Int) := ⟨n1.toNat, by omega⟩
        exact w_Known_main b ga gc pa pc k (by omega) w hg hp hv (by omega)
end Go.Proofs.Ytjbjmoghloabpaa
