/- Parts of a proof: BnAG, BnAO, BnAP. -/
import Derived.Test.YtjbjmoghloabpaaP22
import Derived.Test.YtjbjmoghloabpaaP16
import Derived.Test.YtjbjmoghloabpaaP14
set_option linter.unusedVariables false
set_option linter.unusedSimpArgs false
namespace Go.Proofs.Ytjbjmoghloabpaa
open Go.RowKit Go.Proofs
attribute [local irreducible] Ord.walk

set_option maxHeartbeats 1000000 in
set_option maxRecDepth 100000 in
theorem b_Whites_ok (b : Bn) (ga : Option Addr) (gc : Nat) (pa : Option Addr) (pc : Nat) (lo hi : Nat) (w : World) (hg : GsAt w ga b.gs) (hp : PsAt w pa b.ps) (hv : valid b = true) (hs : 0 < csum (countN b.V.toNat b.lo b.hi (knOf b))) (V : Nat) (hVe : b.V = V) (hloV : lo ≤ V) (hhiV : hi ≤ V) (h1 : 0 < countN b.V.toNat b.lo b.hi (knOf b) lo) (h2 : ∀ j, j < lo → countN b.V.toNat b.lo b.hi (knOf b) j = 0) (h3 : 0 < countN b.V.toNat b.lo b.hi (knOf b) hi) (h4 : ∀ j, hi < j → j ≤ V → countN b.V.toNat b.lo b.hi (knOf b) j = 0) :
    Calls Try.prog 14 #[bv b ga gc pa pc] w (Gives2 (.agg #[.int .i64 lo, .int .i64 hi]) (.int .i64 0) w) := by
  have hmf : ∀ (fn : Fn) (first cap : Array Value) (w : World), (Instr.makeFunc fn first cap).run Try.prog w = .ok (.func fn first cap) w := fun _ _ _ _ => rfl
  have HO := Lib.hid (fun w' (hb : Below w.heap.size w w')  => b_open_ok b ga gc pa pc 46 #[] w' (hg.below hb) (hp.below hb) hv (fun args W => Try.call46 args W) (fun w2 v _ _ => b_always _ _))
  have HC := Lib.hid catch_Whites
  have HS := Lib.hid hs
  have HT := Lib.hid (fun w1 v ka kc (hvt : Vt w1 v b b.V.toNat (knOf b) ga gc pa pc ka kc) => b_told_yes hvt HS.out)
  have hle := countN_sum b.V.toNat (by have := valid_V hv; omega) b.lo b.hi (knOf b)
  have q1 := cv_size (countN b.V.toNat b.lo b.hi (knOf b))
  have q2 := cv_ones (countN b.V.toNat b.lo b.hi (knOf b))
  have hcv : Hid (cv (countN b.V.toNat b.lo b.hi (knOf b)) = .agg (ocells (countN b.V.toNat b.lo b.hi (knOf b)))) := rfl
  have hV := valid_V hv
  have hV8 : V ≤ 8 := by omega
  have HM : Hid (∀ k : Nat, k ≤ 8 → ∀ W, Calls Try.prog 48 #[cv (countN b.V.toNat b.lo b.hi (knOf b)), .int .i64 (k : Int)] W (Gives (.bool (decide (0 < countN b.V.toNat b.lo b.hi (knOf b) k))) W)) := fun k hk W => b_some (countN b.V.toNat b.lo b.hi (knOf b)) (k : Int) k rfl (by omega) W
  have HL0 : Hid (∀ k, k < lo → decide (0 < countN b.V.toNat b.lo b.hi (knOf b) k) = false) := fun k hk => by simpa using h2 k hk
  have HL1 : Hid (decide (0 < countN b.V.toNat b.lo b.hi (knOf b) lo) = true) := by show _ = _; simpa using h1
  have HH0 : Hid (∀ k, hi < k → k ≤ V → decide (0 < countN b.V.toNat b.lo b.hi (knOf b) k) = false) := fun k hk hk2 => by simpa using h4 k hk hk2
  have HH1 : Hid (decide (0 < countN b.V.toNat b.lo b.hi (knOf b) hi) = true) := by show _ = _; simpa using h3
  clear h1 h2 h3 h4 hs hle hV
  generalize countN b.V.toNat b.lo b.hi (knOf b) = c at *
  have HVE := Lib.hid hVe
  have hcv2 := hcv
  generalize hCV : cv c = CV at *
  have HCV := Lib.hid hCV
  clear hCV
  generalize ocells c = OC at *
  obtain rfl := hcv.out
  clear hcv hcv2 hVe
  unfold bv at *
  go_enter_defers Try.func14, Try.ntmps14
  refine wp_noPanic ?_
  go_wp2_with fail
  with_reducible refine (HO.out _ (by (repeat (first | assumption | exact Below.refl _ _ | refine Below.drew ?_ | refine Below.alloc ?_ (by first | omega | (simp; done) | (simp; omega)) _ | refine Below.setCell ?_ (by first | omega | (simp; done) | (simp; omega)) _ | refine Below.trans ?_ (Below.mono (by assumption) (by first | omega | (simp; done) | (simp; omega))))))).mono ?_
  rintro e w1 ⟨v, ka, kc, rfl, hvt, hb1, hle⟩
  go_wp2_with fail
  with_reducible refine (HT.out _ _ _ _ hvt).mono ?_
  rintro e w2 ⟨rfl, hb2⟩
  go_wp2_with (first
    | (refine wpList_store_blk 62 (.tmp 4) (.tmp 11) agg_counts rfl rfl rfl rfl (Blk.new _ _ _) rfl q1 q2 ?_; intro w3 h3; refine at_stop ?_))
  unfold Stop
  have z1 := hb1.size
  have z2 := hb2.size
  simp only [World.size_alloc] at z1
  have b1 : Blk w3 w.heap.size #[.int .i64 b.V, .int .i64 b.nd, .int .i64 b.lo, .int .i64 b.hi, .slice ga b.gs.length gc, .slice pa b.ps.length pc] 27 :=
    h3.other ((((((Blk.new w _ _).alloc _).alloc _).below hb1 (by first | omega | (simp; done) | (simp; omega))).below hb2 (by omega)).alloc _) (by omega)
  have b2 : Blk w3 (w.heap.size + 1) #[.int .i64 0, .int .i64 0] 23 :=
    h3.other (((((Blk.new' _ _ _ _ (by simp)).alloc _).below hb1 (by first | omega | (simp; done) | (simp; omega))).below hb2 (by omega)).alloc _) (by omega)
  have b3 : Blk w3 (w.heap.size + 2) #[.int .i64 0] 30 :=
    h3.other ((((Blk.new' _ _ _ _ (by simp)).below hb1 (by first | omega | (simp; done) | (simp; omega))).below hb2 (by omega)).alloc _) (by omega)
  have b4 := h3.blk
  have hB3 : Below w.heap.size w w3 := h3.below (((((((Below.refl _ _).alloc (Nat.le_refl _) _).alloc (by first | omega | (simp; done) | (simp; omega)) _).alloc (by first | omega | (simp; done) | (simp; omega)) _).trans (hb1.mono (by first | omega | (simp; done) | (simp; omega)))).trans (hb2.mono (by omega))).alloc (by omega) _) (by omega)
  have z3 := hB3.size
  clear hb1 hb2 h3 hvt
  rw [HVE.out] at *
  have r1 := b1.cell 0
  go_wp2_with (first
    | (refine wpList_load_blk 62 (.tmp 4) agg_counts rfl rfl rfl b4 q1 ?_))
  refine Ord.wp_region [(0, 0), (1, 0), (2, 0), (3, 0)] (fun _ => True) (by kernel_rfl) (by kernel_rfl) (fun c a d v w h => by cases d <;> exact h) trivial ?_
  go_wp2_with (first
    | ((with_reducible refine Ord.at_calm ?_); refine Ord.calm_skip rfl ?_ (fun K hK => ?_); (focus (simp [Region.wanted, yielded]; done))) | with_reducible refine Ord.walk_calm rfl rfl (fun K hK => ?_) | ((with_reducible refine Ord.at_wild ?_); refine Ord.wild_fieldAddr rfl rfl (fun W => by simp [go_sem]; rfl) (fun K hK => ?_)) | ((with_reducible refine Ord.at_wild ?_); refine Ord.wild_move rfl rfl (fun K hK => ?_)) | ((with_reducible refine Ord.at_wild ?_); refine Ord.wild_nilCheck rfl rfl (fun K hK => ?_)) | with_reducible refine Ord.walk_eff rfl (by first | (simp; done) | assumption | (go_simp; done) | (repeat (first | assumption | exact Below.refl _ _ | refine Below.drew ?_ | refine Below.alloc ?_ (by first | omega | (simp; done) | (simp; omega)) _ | refine Below.setCell ?_ (by first | omega | (simp; done) | (simp; omega)) _ | refine Below.trans ?_ (Below.mono (by assumption) (by first | omega | (simp; done) | (simp; omega)))))) (fun K hK => ?_) | with_reducible refine Ord.at_fork ?_ ?_ | with_reducible refine Ord.walk_nil ?_ | (with_reducible refine Ord.next_of (by first | (simp; done) | (go_simp; done) | (repeat (first | assumption | exact Below.refl _ _ | refine Below.drew ?_ | refine Below.alloc ?_ (by first | omega | (simp; done) | (simp; omega)) _ | refine Below.setCell ?_ (by first | omega | (simp; done) | (simp; omega)) _ | refine Below.trans ?_ (Below.mono (by assumption) (by first | omega | (simp; done) | (simp; omega)))))) (fun _ => ?_)))
  go_loopw [6] (fun i wr => ∃ k : Nat, k ≤ lo ∧ i = .int .i64 k ∧ Below w3.heap.size w3 wr) (fun i _ => lo - (intOf i).toNat)
  case atStart => exact ⟨0, by omega, rfl, (Below.refl _ _).drew⟩
  case round =>
    obtain ⟨k, hk, rfl, hbw⟩ := hrel
    by_cases hlt : k < lo
    · have HMk := HM.out k (by omega)
      rw [HL0.out k hlt] at HMk
      have HMK := Lib.hid HMk
      clear HMk
      go_wp2_with (go_at_call 48; refine (HMK.out _).mono ?_; rintro e w5 ⟨rfl, hb5⟩)
      exact ⟨⟨k + 1, by omega, by go_num, hbw.trans (hb5.mono hbw.size)⟩, by simp [intOf]; omega⟩
    · have hkl : k = lo := by omega
      subst hkl
      have HMk := HM.out k (by omega)
      rw [HL1.out] at HMk
      have HMK := Lib.hid HMk
      clear HMk
      go_wp2_with (go_at_call 48; refine (HMK.out _).mono ?_; rintro e w5 ⟨rfl, hb5⟩)
      have hbw5 := hbw.trans (hb5.mono hbw.size)
      clear hbw hb5
      go_loopw [7] (fun i wr => ∃ m : Nat, hi ≤ m ∧ m ≤ V ∧ i = .int .i64 m ∧ Below w3.heap.size w3 wr) (fun i _ => (intOf i).toNat)
      case atStart => exact ⟨V, hhiV, Nat.le_refl _, rfl, hbw5⟩
      case round =>
        obtain ⟨m, hm, hmV, rfl, hbx⟩ := hrel
        by_cases hlt2 : hi < m
        · have HMk := HM.out m (by omega)
          rw [HH0.out m hlt2 hmV] at HMk
          have HMK := Lib.hid HMk
          clear HMk
          go_wp2_with (go_at_call 48; refine (HMK.out _).mono ?_; rintro e w6 ⟨rfl, hb6⟩)
          exact ⟨⟨m - 1, by omega, by omega, by rw [Int.natCast_sub (by omega)]; rfl, hbx.trans (hb6.mono hbx.size)⟩, by simp [intOf]; omega⟩
        · have hml : m = hi := by omega
          subst hml
          have HMk := HM.out m (by omega)
          rw [HH1.out] at HMk
          have HMK := Lib.hid HMk
          clear HMk
          go_wp2_with (go_at_call 48; refine (HMK.out _).mono ?_; rintro e w6 ⟨rfl, hb6⟩; have hbw6 := hbx.trans (hb6.mono hbx.size); have b26 := b2.below hbw6 b2.lt; have b36 := b3.below hbw6 b3.lt; have r26 := b26.cell; have f26 := b26.free; have r36 := b36.cell; have f36 := b36.free)
          have hB6 : Below w.heap.size w w6 := hB3.trans (hbw6.mono z3)
          have c1 := ((b26.set 0 (.int .i64 k)).set 1 (.int .i64 m)).other (p := ⟨w.heap.size + 2, 0, none⟩) (by show _ ≠ _; simp) (.int .i64 0)
          have c2 := ((b36.other (p := ⟨w.heap.size + 1, 0, none⟩) (by show _ ≠ _; simp) (.int .i64 k)).other (p := ⟨w.heap.size + 1, 1, none⟩) (by show _ ≠ _; simp) (.int .i64 m)).set 0 (.int .i64 0)
          refine noPanic_ret ?_
          refine leaves_cons (f := 43) (args := #[.pointer (some ⟨w.heap.size + 2, 0, none⟩)]) (by simp) (by simp [go_sem]) ?_
          refine ((HC.out).2 (w.heap.size + 2) _).mono ?_
          rintro e u' w7 ⟨rfl, rfl, rfl⟩
          have r7 := c1.cell
          have r8 := c2.cell
          simp only [settle, Leaves]
          simp [Leaves, settle, results, Try.results14, go_sem, r7, r8]
          exact ⟨rfl, ((hB6.setCell (by first | omega | (simp; done) | (simp; omega)) _).setCell (by first | omega | (simp; done) | (simp; omega)) _).setCell (by first | omega | (simp; done) | (simp; omega)) _⟩
end Go.Proofs.Ytjbjmoghloabpaa
set_option linter.unusedVariables false
set_option linter.unusedSimpArgs false
namespace Go.Proofs.Ytjbjmoghloabpaa
open Go.RowKit Go.Proofs
attribute [local irreducible] Ord.walk
def whitesR (b : Bn) : Int × Int × Int := if toldE b true = 0 then ((loL (TL b) : Nat), (hiL (TL b) : Nat), 0) else (0, 0, toldE b true)
def whiteR (b : Bn) (n : Int) : Int × Int := if toldE b (voterB b n) = 0 then (gradedI (cntH (TL b) n.toNat) (TL b).length, 0) else (0, toldE b (voterB b n))
def knownR (b : Bn) : Int × Int × Int := if toldE b true = 0 then ((whiteM (TL b) b.V.toNat : Nat), (blackM (TL b) b.V.toNat : Nat), 0) else (0, 0, toldE b true)
def passedR (b : Bn) : Int × Int := if toldE b true = 0 then (gradedI (passN (TL b) b.nd) (TL b).length, 0) else (0, toldE b true)
def sameR (b : Bn) (n m : Int) : Int × Int := if toldE b (voterB b n && voterB b m) = 0 then (gradedI (sameN (TL b) n.toNat m.toNat) (TL b).length, 0) else (0, toldE b (voterB b n && voterB b m))
def countR (b : Bn) : Int × Int := if chkE b true = 0 then ((TL b).length, 0) else (0, chkE b true)
def tellR (b : Bn) (n : Int) : Int × Int × Int := if toldE b (inB n 0 b.V) = 0 then (if withL (TL b) n = [] then (0, 0, 4) else ((whiteM (withL (TL b) n) b.V.toNat : Nat), (blackM (withL (TL b) n) b.V.toNat : Nat), 0)) else (0, 0, toldE b (inB n 0 b.V))
def quietR (b : Bn) : Int × Int := if toldE b true = 0 then ((quietM (TL b) b.V.toNat (b.V.toNat + 1) : Nat), 0) else (0, toldE b true)
def clashR (b : Bn) : Int × Int := if chkE b true = 0 then (if TL b = [] then ((clashB b : Nat), 0) else (0, 4)) else (0, chkE b true)

theorem toldE_no {b : Bn} {vb : Bool} (h : chkE b vb ≠ 0) : toldE b vb = chkE b vb := by
  unfold chkE toldE at *
  cases hv : valid b <;> cases vb <;> simp [hv] at h ⊢
theorem told_cases (b : Bn) (vb : Bool) : (chkE b vb ≠ 0 ∧ toldE b vb ≠ 0 ∧ toldE b vb = chkE b vb) ∨ (valid b = true ∧ vb = true ∧ TL b = [] ∧ toldE b vb = 10) ∨ (valid b = true ∧ vb = true ∧ TL b ≠ [] ∧ toldE b vb = 0) := by
  by_cases h : chkE b vb = 0
  · obtain ⟨hv, hb⟩ := chkE_zero h
    by_cases ht : TL b = []
    · right; left; exact ⟨hv, hb, ht, by unfold toldE; simp [hv, hb, ht]⟩
    · right; right; exact ⟨hv, hb, ht, by unfold toldE; simp [hv, hb, ht]⟩
  · left; rw [toldE_no h]; exact ⟨h, h, rfl⟩
theorem csum0 {b : Bn} (hv : valid b = true) (ht : TL b = []) : csum (countN b.V.toNat b.lo b.hi (knOf b)) = 0 := by rw [csum_TL hv, ht]; rfl
theorem csum1 {b : Bn} (hv : valid b = true) (ht : TL b ≠ []) : 0 < csum (countN b.V.toNat b.lo b.hi (knOf b)) := by rw [csum_TL hv]; exact List.length_pos_iff.2 ht

section
variable (b : Bn) (ga : Option Addr) (gc : Nat) (pa : Option Addr) (pc : Nat) (w : World) (hg : GsAt w ga b.gs) (hp : PsAt w pa b.ps) (hgl : b.gs.length ≤ 40) (hpl : b.ps.length ≤ 40)
include hg hp hgl hpl
theorem bb_Whites : Calls Try.prog 14 #[bv b ga gc pa pc] w (Gives2 (.agg #[.int .i64 (whitesR b).1, .int .i64 (whitesR b).2.1]) (.int .i64 (whitesR b).2.2) w) := by
  unfold whitesR
  rcases told_cases b true with ⟨h, h1, h2⟩ | ⟨hv, _, ht, h2⟩ | ⟨hv, _, ht, h2⟩
  · rw [if_neg h1, h2]
    exact b_Whites_stop b ga gc pa pc w hg hp (by omega) (by omega) h
  · rw [h2, if_neg (by omega)]
    exact b_Whites_clash b ga gc pa pc w hg hp hv (csum0 hv ht)
  · rw [if_pos h2]
    have hV := valid_V hv
    obtain ⟨l1, x, hx, l2⟩ := loL_prop ht
    obtain ⟨u1, y, hy, u2⟩ := hiL_prop ht
    exact b_Whites_ok b ga gc pa pc (loL (TL b)) (hiL (TL b)) w hg hp hv (csum1 hv ht) b.V.toNat (by omega) (by rw [l2]; exact sz_V hv hx) (by rw [u2]; exact sz_V hv hy)
      ((countN_pos hv _).2 ⟨x, hx, l2.symm⟩) (fun j hj => countN_none hv j fun z hz e => by have := l1 z hz; omega) ((countN_pos hv _).2 ⟨y, hy, u2.symm⟩) (fun j hj _ => countN_none hv j fun z hz e => by have := u1 z hz; omega)
theorem bb_White (n : Int) : Calls Try.prog 16 #[bv b ga gc pa pc, .int .i64 n] w (Gives2 (.int .i64 (whiteR b n).1) (.int .i64 (whiteR b n).2) w) := by
  unfold whiteR
  rcases told_cases b (voterB b n) with ⟨h, h1, h2⟩ | ⟨hv, hb, ht, h2⟩ | ⟨hv, hb, ht, h2⟩
  · rw [if_neg h1, h2]
    exact b_White_stop b ga gc pa pc n w hg hp (by omega) (by omega) h
  · rw [h2, if_neg (by omega)]
    exact b_White_clash b ga gc pa pc n w hg hp hv hb (csum0 hv ht)
  · rw [if_pos h2]
    have hV := valid_V hv
    have hn := inB_of ((voterB_of hv n).symm.trans hb)
    obtain ⟨k, rfl⟩ : ∃ k : Nat, n = k := ⟨n.toNat, by omega⟩
    have := b_White_ok b ga gc pa pc k w hg hp hv hb (csum1 hv ht)
    rw [show csum (countN b.V.toNat b.lo b.hi (knOf b ++ [Kn.g (2 ^ k) 1 1])) = cntH (TL b) k from csum_one hv k (by omega), csum_TL hv, gr_eq] at this
    exact this
theorem bb_Known : Calls Try.prog 18 #[bv b ga gc pa pc] w (Gives3 (.int .i64 (knownR b).1) (.int .i64 (knownR b).2.1) (.int .i64 (knownR b).2.2) w) := by
  unfold knownR
  rcases told_cases b true with ⟨h, h1, h2⟩ | ⟨hv, _, ht, h2⟩ | ⟨hv, _, ht, h2⟩
  · rw [if_neg h1, h2]
    exact b_Known_stop b ga gc pa pc w hg hp (by omega) (by omega) h
  · rw [h2, if_neg (by omega)]
    exact b_Known_clash b ga gc pa pc w hg hp hv (csum0 hv ht)
  · rw [if_pos h2]
    have := b_Known_ok b ga gc pa pc w hg hp hv (csum1 hv ht)
    rw [sure_all hv (List.length_pos_iff.2 ht)] at this
    exact this
theorem bb_Passed : Calls Try.prog 20 #[bv b ga gc pa pc] w (Gives2 (.int .i64 (passedR b).1) (.int .i64 (passedR b).2) w) := by
  unfold passedR
  rcases told_cases b true with ⟨h, h1, h2⟩ | ⟨hv, _, ht, h2⟩ | ⟨hv, _, ht, h2⟩
  · rw [if_neg h1, h2]
    exact b_Passed_stop b ga gc pa pc w hg hp (by omega) (by omega) h
  · rw [h2, if_neg (by omega)]
    exact b_Passed_clash b ga gc pa pc w hg hp hv (csum0 hv ht)
  · rw [if_pos h2]
    have := b_Passed_ok b ga gc pa pc w hg hp hv (csum1 hv ht)
    rw [passed_eq hv, csum_TL hv, gr_eq] at this
    exact this
theorem bb_Same (n m : Int) : Calls Try.prog 22 #[bv b ga gc pa pc, .int .i64 n, .int .i64 m] w (Gives2 (.int .i64 (sameR b n m).1) (.int .i64 (sameR b n m).2) w) := by
  unfold sameR
  rcases told_cases b (voterB b n && voterB b m) with ⟨h, h1, h2⟩ | ⟨hv, hb, ht, h2⟩ | ⟨hv, hb, ht, h2⟩
  · rw [if_neg h1, h2]
    exact b_Same_stop b ga gc pa pc n m w hg hp (by omega) (by omega) h
  · rw [h2, if_neg (by omega)]
    exact b_Same_clash b ga gc pa pc n m w hg hp hv hb (csum0 hv ht)
  · rw [if_pos h2]
    have hV := valid_V hv
    have hb2 := (Bool.and_eq_true _ _ ▸ hb : voterB b n = true ∧ voterB b m = true)
    have hn := inB_of ((voterB_of hv n).symm.trans hb2.1)
    have hm := inB_of ((voterB_of hv m).symm.trans hb2.2)
    obtain ⟨k, rfl⟩ : ∃ k : Nat, n = k := ⟨n.toNat, by omega⟩
    obtain ⟨j, rfl⟩ : ∃ k : Nat, m = k := ⟨m.toNat, by omega⟩
    have := b_Same_ok b ga gc pa pc k j w hg hp hv hb (csum1 hv ht)
    rw [csum_same hv k j (by omega) (by omega), csum_TL hv, gr_eq] at this
    exact this
theorem bb_Count : Calls Try.prog 24 #[bv b ga gc pa pc] w (Gives2 (.int .i64 (countR b).1) (.int .i64 (countR b).2) w) := by
  unfold countR
  by_cases h : chkE b true = 0
  · rw [if_pos h]
    obtain ⟨hv, _⟩ := chkE_zero h
    have := b_Count_yes b ga gc pa pc w hg hp hv
    rw [csum_TL hv] at this
    exact this
  · rw [if_neg h]
    exact b_Count_stop b ga gc pa pc w hg hp (by omega) (by omega) h
theorem bb_Tell (n : Int) : Calls Try.prog 26 #[bv b ga gc pa pc, .int .i64 n] w (Gives3 (.int .i64 (tellR b n).1) (.int .i64 (tellR b n).2.1) (.int .i64 (tellR b n).2.2) w) := by
  unfold tellR
  rcases told_cases b (inB n 0 b.V) with ⟨h, h1, h2⟩ | ⟨hv, hb, ht, h2⟩ | ⟨hv, hb, ht, h2⟩
  · rw [if_neg h1, h2]
    exact b_Tell_stop b ga gc pa pc n w hg hp (by omega) (by omega) h
  · rw [h2, if_neg (by omega)]
    exact b_Tell_clash b ga gc pa pc n w hg hp hv hb (csum0 hv ht)
  · rw [if_pos h2]
    have hV := valid_V hv
    have hn := inB_of hb
    obtain ⟨k, rfl⟩ : ∃ k : Nat, n = k := ⟨n.toNat, by omega⟩
    by_cases hw : withL (TL b) k = []
    · rw [if_pos hw]
      exact b_Tell_none b ga gc pa pc k w hg hp hv hb (csum1 hv ht) (by rw [with_len hv, hw]; rfl)
    · rw [if_neg hw]
      have hl : 0 < (withL (TL b) k).length := List.length_pos_iff.2 hw
      have := b_Tell_ok b ga gc pa pc k w hg hp hv hb (csum1 hv ht) (by rw [with_len hv]; exact hl)
      rw [sure_at hv k hl] at this
      exact this
theorem bb_Quiet : Calls Try.prog 28 #[bv b ga gc pa pc] w (Gives2 (.int .i64 (quietR b).1) (.int .i64 (quietR b).2) w) := by
  unfold quietR
  rcases told_cases b true with ⟨h, h1, h2⟩ | ⟨hv, _, ht, h2⟩ | ⟨hv, _, ht, h2⟩
  · rw [if_neg h1, h2]
    exact b_Quiet_stop b ga gc pa pc w hg hp (by omega) (by omega) h
  · rw [h2, if_neg (by omega)]
    exact b_Quiet_clash b ga gc pa pc w hg hp hv (csum0 hv ht)
  · rw [if_pos h2]
    have hV := valid_V hv
    have := b_Quiet_ok b ga gc pa pc w hg hp hv (csum1 hv ht) b.V.toNat (by omega)
    rw [quiet_eq hv ht] at this
    exact this
theorem bb_Clash : Calls Try.prog 30 #[bv b ga gc pa pc] w (Gives2 (.int .i64 (clashR b).1) (.int .i64 (clashR b).2) w) := by
  unfold clashR
  by_cases h : chkE b true = 0
  · rw [if_pos h]
    obtain ⟨hv, _⟩ := chkE_zero h
    have := b_Clash_valid b ga gc pa pc w hg hp hv
    by_cases ht : TL b = []
    · rw [if_pos ht]
      rw [clash_yes hv ht] at this
      exact this
    · rw [if_neg ht]
      rw [clash_no hv ht] at this
      exact this
  · rw [if_neg h]
    exact b_Clash_stop b ga gc pa pc w hg hp (by omega) (by omega) h
end
end Go.Proofs.Ytjbjmoghloabpaa
set_option linter.unusedVariables false
set_option linter.unusedSimpArgs false
namespace Go.Proofs.Ytjbjmoghloabpaa
open Go.RowKit Go.Proofs
attribute [local irreducible] Ord.walk
def gcell (g : Int × Int × Int) : List Value := [.int .i64 g.1, .int .i64 g.2.1, .int .i64 g.2.2]
def pcell (p : Int × Int × Bool) : List Value := [.int .i64 p.1, .int .i64 p.2.1, .bool p.2.2]
def OwnG (w : World) (base : Nat) (v : Value) (gs : List (Int × Int × Int)) : Prop := w.ownsRow base 49 3 v gs.length (gs.flatMap gcell)
def OwnP (w : World) (base : Nat) (v : Value) (ps : List (Int × Int × Bool)) : Prop := w.ownsRow base 54 3 v ps.length (ps.flatMap pcell)
theorem flat_get {α : Type} (f : α → List Value) (hf : ∀ a, (f a).length = 3) : ∀ (l : List α) (i : Nat) (h : i < l.length) (j : Nat), j < 3 → (l.flatMap f)[i * 3 + j]? = (f l[i])[j]?
  | [], i, h, j, hj => absurd h (by simp)
  | a :: l, 0, h, j, hj => by
    rw [List.flatMap_cons, List.getElem?_append_left (by rw [hf]; omega)]; simp
  | a :: l, i + 1, h, j, hj => by
    rw [List.flatMap_cons, List.getElem?_append_right (by rw [hf]; omega), hf, show (i + 1) * 3 + j - 3 = i * 3 + j by omega]
    exact flat_get f hf l i (by simpa using h) j hj
theorem own_cell3 {w : World} {base n : Nat} {e : TypeId} {v : Value} {xs : List Value} (h : w.ownsRow base e 3 v n xs) (hn : 0 < n) : ∃ g c, v = .slice (some ⟨g, 0, none⟩) n c ∧ ∀ i, i < n * 3 → w.cell? ⟨g, i, none⟩ = xs[i]? := by
  obtain ⟨hl, ⟨-, h0⟩ | ⟨g, cap, cur, rfl, hg, hh, hn, hc, hs, ht⟩⟩ := h
  · omega
  · refine ⟨g, cap, rfl, fun i hi => ?_⟩
    rw [cell_of_row w g i cur e (0, 0) hh, ← ht, List.getElem?_take, if_pos hi]
    simp
theorem own_nil3 {w : World} {base : Nat} {e : TypeId} {v : Value} {n : Nat} {xs : List Value} (h : w.ownsRow base e 3 v n xs) : ∃ a c, v = .slice a n c := by
  obtain ⟨hl, ⟨rfl, h0⟩ | ⟨g, cap, cur, rfl, hg, hh, hn, hc, hs, ht⟩⟩ := h
  · exact ⟨none, 0, by rw [h0]⟩
  · exact ⟨_, _, rfl⟩
theorem OwnG.at {w : World} {base : Nat} {v : Value} {gs : List (Int × Int × Int)} (h : OwnG w base v gs) : ∃ ga gc, v = .slice ga gs.length gc ∧ GsAt w ga gs := by
  rcases Nat.eq_zero_or_pos gs.length with h0 | h0
  · obtain ⟨a, c, e⟩ := own_nil3 h
    exact ⟨a, c, e, fun i hi => by omega⟩
  · obtain ⟨g, c, e, hc⟩ := own_cell3 h h0
    refine ⟨_, c, e, fun i hi => ⟨g, 0, rfl, ?_, ?_, ?_⟩⟩
    · rw [Nat.zero_add, hc _ (by omega)]; exact flat_get gcell (fun _ => rfl) gs i hi 0 (by omega)
    · rw [Nat.zero_add, hc _ (by omega)]; exact flat_get gcell (fun _ => rfl) gs i hi 1 (by omega)
    · rw [Nat.zero_add, hc _ (by omega)]; exact flat_get gcell (fun _ => rfl) gs i hi 2 (by omega)
theorem OwnP.at {w : World} {base : Nat} {v : Value} {ps : List (Int × Int × Bool)} (h : OwnP w base v ps) : ∃ pa pc, v = .slice pa ps.length pc ∧ PsAt w pa ps := by
  rcases Nat.eq_zero_or_pos ps.length with h0 | h0
  · obtain ⟨a, c, e⟩ := own_nil3 h
    exact ⟨a, c, e, fun i hi => by omega⟩
  · obtain ⟨g, c, e, hc⟩ := own_cell3 h h0
    refine ⟨_, c, e, fun i hi => ⟨g, 0, rfl, ?_, ?_, ?_⟩⟩
    · rw [Nat.zero_add, hc _ (by omega)]; exact flat_get pcell (fun _ => rfl) ps i hi 0 (by omega)
    · rw [Nat.zero_add, hc _ (by omega)]; exact flat_get pcell (fun _ => rfl) ps i hi 1 (by omega)
    · rw [Nat.zero_add, hc _ (by omega)]; exact flat_get pcell (fun _ => rfl) ps i hi 2 (by omega)
/-- A row of three-cell elements in a whole block. -/
theorem own_blk3 {w : World} {b base : Nat} {A : Array Value} {e : TypeId} (h : Blk w b A e) (hb : base ≤ b) {m : Nat} (hA : A.size = m * 3) (hm : m ≤ maxLen) : w.ownsRow base e 3 (.slice (some ⟨b, 0, none⟩) m m) m A.toList :=
  ⟨by simp; omega, .inr ⟨b, m, A, rfl, hb, h, Nat.le_refl _, hm, hA, by rw [List.take_of_length_le (by simp; omega)]⟩⟩
/-- A vote that the law has built since a world of this size. -/
def Vote (w : World) (base : Nat) (b : Bn) (v : Value) : Prop :=
  ∃ gv pv, v = .agg #[.int .i64 b.V, .int .i64 b.nd, .int .i64 b.lo, .int .i64 b.hi, gv, pv] ∧ OwnG w base gv b.gs ∧ OwnP w base pv b.ps
theorem Vote.bv {w : World} {base : Nat} {b : Bn} {v : Value} (h : Vote w base b v) : ∃ ga gc pa pc, v = bv b ga gc pa pc ∧ GsAt w ga b.gs ∧ PsAt w pa b.ps := by
  obtain ⟨gv, pv, rfl, h1, h2⟩ := h
  obtain ⟨ga, gc, rfl, h3⟩ := h1.at
  obtain ⟨pa, pc, rfl, h4⟩ := h2.at
  exact ⟨ga, gc, pa, pc, rfl, h3, h4⟩
theorem Vote.below {w w' : World} {base : Nat} {b : Bn} {v : Value} (h : Vote w base b v) (hb : Below w.heap.size w w') : Vote w' base b v := by
  obtain ⟨gv, pv, rfl, h1, h2⟩ := h
  exact ⟨gv, pv, rfl, ownsRow_below h1 hb, ownsRow_below h2 hb⟩
def Votes (b : Bn) (w : World) (e : Ending) (w' : World) : Prop := ∃ v, e = .returned v ∧ Vote w' w.heap.size b v ∧ Below w.heap.size w w'

theorem agg_span : AggTy Try.prog 23 2 := ⟨_, Try.underlying23, rfl, by kernel_rfl⟩
theorem agg_group : AggTy Try.prog 49 3 := ⟨_, Try.underlying49, rfl, by kernel_rfl⟩
theorem agg_bean : AggTy Try.prog 27 6 := ⟨_, Try.underlying27, rfl, by kernel_rfl⟩

theorem l_span (lo hi : Int) (w : World) : Calls Try.prog 34 #[.int .i64 lo, .int .i64 hi] w (Gives (.agg #[.int .i64 lo, .int .i64 hi]) w) := by
  go_enter Try.func34, Try.ntmps34
  go_wp2_with (refine wpList_store_blk 23 (.tmp 4) (.tmp 7) agg_span rfl rfl rfl rfl (Blk.new _ _ _) rfl rfl (by simp [Value.oneCell']) ?_; intro w2 h2)
  (try simp only [Exit.inBlock, Exit.then])
  refine bodyPost_ret (v := .agg #[.int .i64 lo, .int .i64 hi]) (results_cell_blk rfl _ agg_span rfl h2.blk rfl) rfl ⟨rfl, ?_⟩
  exact h2.below ((Below.refl _ _).alloc (Nat.le_refl _) _) (Nat.le_refl _)
theorem l_group (v lo hi : Int) (w : World) : Calls Try.prog 41 #[.int .i64 v, .int .i64 lo, .int .i64 hi] w (Gives (.agg #[.int .i64 v, .int .i64 lo, .int .i64 hi]) w) := by
  have H := Lib.hid (fun w => l_span lo hi w)
  go_enter Try.func41, Try.ntmps41
  go_wp2_with (first
    | (go_at_call 34; refine (H.out _).mono ?_; rintro e w1 ⟨rfl, hb1⟩; have b1 := (Blk.new w #[.int .i64 0, .int .i64 0, .int .i64 0] 49).below hb1 (by simp); have hB := ((Below.refl w.heap.size w).alloc (Nat.le_refl _) _).trans (hb1.mono (by simp)))
    | (refine wpList_store_blk 49 (.tmp 6) (.tmp 11) agg_group rfl rfl rfl rfl b1 rfl rfl (by simp [Value.oneCell']) ?_; intro w2 h2))
  (try simp only [Exit.inBlock, Exit.then])
  refine bodyPost_ret (v := .agg #[.int .i64 v, .int .i64 lo, .int .i64 hi]) (results_cell_blk rfl _ agg_group rfl h2.blk rfl) rfl ⟨rfl, ?_⟩
  exact h2.below hB (Nat.le_refl _)
def sampleB : Bn := { V := 5, nd := 3, lo := 2, hi := 3, gs := [(7, 2, 3), (28, 0, 1)], ps := [(0, 1, true)] }
theorem l_sample (w : World) : Calls Try.prog 33 #[] w (Votes sampleB w) := by
  have H := Lib.hid l_span
  have G := Lib.hid l_group
  go_enter Try.func33, Try.ntmps33
  go_wp2_with (first
    | (go_at_call 34; refine (H.out _ _ _).mono ?_; rintro e w1 ⟨rfl, hb1⟩; have b1 := (Blk.new w #[.int .i64 0, .int .i64 0, .int .i64 0, .int .i64 0, .slice none 0 0, .slice none 0 0] 27).below hb1 (by simp); have hB := ((Below.refl w.heap.size w).alloc (Nat.le_refl _) _).trans (hb1.mono (by simp)); refine at_stop ?_))
  unfold Stop
  go_wp2_with (first
    | (go_at_call 41; refine (G.out _ _ _ _).mono ?_; rintro e w2 ⟨rfl, hb2⟩; refine at_stop ?_))
  unfold Stop
  have b2 := b1.below hb2 b1.lt
  have hB2 := hB.trans (hb2.mono hB.size)
  go_wp2_with (first
    | (go_at_call 41; refine (G.out _ _ _ _).mono ?_; rintro e w3 ⟨rfl, hb3⟩; refine at_stop ?_))
  unfold Stop
  have b3 := b2.below hb3 b2.lt
  have hB3 := hB2.trans (hb3.mono hB2.size)
  go_wp2_with (first
    | (refine wpList_store_blk 27 (.tmp 0) (.tmp 7) agg_bean rfl rfl rfl rfl ((b3.alloc _).alloc _) rfl rfl (by simp [Value.oneCell']) ?_; intro w4 h4))
  (try simp only [Exit.inBlock, Exit.then])
  refine bodyPost_ret (v := .agg #[.int .i64 5, .int .i64 3, .int .i64 2, .int .i64 3, .slice (some ⟨w3.heap.size, 0, none⟩) 2 2, .slice (some ⟨w3.heap.size + 1, 0, none⟩) 1 1]) (results_cell_blk rfl _ agg_bean rfl h4.blk rfl) rfl ⟨_, rfl, ⟨_, _, rfl, ?_, ?_⟩, ?_⟩
  · have b4 : Blk w4 w3.heap.size _ _ := h4.other ((Blk.new w3 #[.int .i64 7, .int .i64 2, .int .i64 3, .int .i64 28, .int .i64 0, .int .i64 1] 49).alloc _) (by have := b3.lt; omega)
    exact own_blk3 b4 hB3.size rfl (by decide)
  · have b4 : Blk w4 (w3.heap.size + 1) _ _ := h4.other (Blk.new' (w3.alloc (.cells #[.int .i64 7, .int .i64 2, .int .i64 3, .int .i64 28, .int .i64 0, .int .i64 1] 49)) #[.int .i64 0, .int .i64 1, .bool true] 54 (w3.heap.size + 1) (by simp)) (by have := b3.lt; omega)
    exact own_blk3 b4 (by have := hB3.size; omega) rfl (by decide)
  · exact h4.below ((hB3.alloc hB3.size _).alloc (by have := hB3.size; simp; omega) _) (Nat.le_refl _)
end Go.Proofs.Ytjbjmoghloabpaa
