/- Parts of a proof: BnRefI, BnRefJ. -/
import Derived.Test.YtjbjmoghloabpaaM20
/- Contracts of shearworksref03: Passed. -/
set_option linter.unusedVariables false
set_option linter.unusedSimpArgs false
namespace Go.Proofs.Ytjbjmoghloabpaa
open Go.RowKit Go.Proofs

def passN (l : List Nat) (nd : Int) : Nat := l.countP (fun x => decide (nd ≤ (sz x : Int)))

set_option maxHeartbeats 4000000 in
set_option maxRecDepth 100000 in
theorem r_Passed (b : Bn) (ga : Option Addr) (gc : Nat) (pa : Option Addr) (pc : Nat) (w : World) (hg : GsAt w ga b.gs) (hp : PsAt w pa b.ps)
    (hgl : b.gs.length ≤ 40) (hpl : b.ps.length ≤ 40) :
    Calls Try.prog 21 #[bv b ga gc pa pc] w
      (if toldE b true = 0 then Gives2 (.int .i64 (gradedI (passN (TL b) b.nd) (TL b).length)) (.int .i64 0) w else Gives2 (.int .i64 0) (.int .i64 (toldE b true)) w) := by
  have HT : Hid (∀ w', Below w.heap.size w w' → Calls Try.prog 49 #[bv b ga gc pa pc, .bool true] w' (ToldAt (toldL b true) (toldE b true) w')) :=
    fun w' hb => r_told b ga gc pa pc w' (hg.below hb) (hp.below hb) hgl hpl true
  by_cases e0 : toldE b true = 0
  · rw [if_pos e0]
    obtain ⟨hv, -, -⟩ := toldE_zero e0
    rw [toldL_zero e0, e0] at HT
    have hs := TL_small hv
    have hl := TL_len hv
    have HGr := Lib.hid (r_graded ((passN (TL b) b.nd : Nat) : Int) ((TL b).length : Nat) (passN (TL b) b.nd) (TL b).length rfl rfl)
    have HC : Hid (passN (TL b) b.nd = (TL b).countP (fun x => decide (b.nd ≤ (sz x : Int)))) := rfl
    unfold bv at *
    generalize gradedI (passN (TL b) b.nd) (TL b).length = gr at *
    generalize passN (TL b) b.nd = cn at *
    generalize TL b = T at *
    clear hg hp hgl hpl e0 hv
    go_enter Try.func21, Try.ntmps21
    go_wp2_with (first
      | (go_at_call 49; refine (HT.out _ ?_).mono ?_; (focus (repeat (first | assumption | exact Below.refl _ _ | refine Below.drew ?_ | refine Below.alloc ?_ (by first | omega | (simp; done) | (simp; omega)) _ | refine Below.setCell ?_ (by first | omega | (simp; done) | (simp; omega)) _ | refine Below.trans ?_ (Below.mono (by assumption) (by first | omega | (simp; done) | (simp; omega)))))); rintro e w1 ⟨a, c, rfl, hI, hb1⟩; obtain ⟨c1, f1, z1⟩ := after hb1 (by simp; rfl)))
    have q1 : w1.cell? ⟨w.heap.size, 1, none⟩ = some (.int .i64 b.nd) := by rw [c1]; simp
    have hBw : Below w.heap.size w w1 := by (repeat (first | assumption | exact Below.refl _ _ | refine Below.drew ?_ | refine Below.alloc ?_ (by first | omega | (simp; done) | (simp; omega)) _ | refine Below.setCell ?_ (by first | omega | (simp; done) | (simp; omega)) _ | refine Below.trans ?_ (Below.mono (by assumption) (by first | omega | (simp; done) | (simp; omega)))))
    have z1' : w.heap.size < w1.heap.size := by omega
    clear c1 f1 z1 hb1 HT
    go_loopw [6, 7] (fun n i wr => ∃ k q : Nat, k ≤ T.length ∧ q ≤ k ∧ Hid (q = (T.take k).countP (fun x => decide (b.nd ≤ (sz x : Int)))) ∧ i = .int .i64 k ∧ n = .int .i64 q ∧ Below w1.heap.size w1 wr) (fun _ i _ => T.length - (intOf i).toNat)
    case atStart => exact ⟨0, 0, by omega, by omega, rfl, rfl, rfl, Below.refl _ _⟩
    case round =>
      obtain ⟨k, q, hk, hqk, hq, rfl, rfl, hB⟩ := hrel
      obtain ⟨c2, f2, z2⟩ := below_rules hB rfl
      by_cases hlt : k < T.length
      · obtain ⟨bb, o, rfl, e1⟩ := hI k hlt
        have hbw : bb < w1.heap.size := World.block_lt_of_cell? w1 _ e1
        have hlt' : (k : Int) < T.length := by omega
        have hx := hs.at hlt
        have HTC := Lib.hid (take_count T (fun x => decide (b.nd ≤ (sz x : Int))) k hlt)
        generalize T[k] = x at *
        have HX := Lib.hid (fun w => r_size (x : Int) x rfl hx w)
        clear hx hs hI
        by_cases hb : b.nd ≤ (sz x : Int)
        · have HB : Hid (decide (b.nd ≤ (sz x : Int)) = true) := by show _ = _; simpa using hb
          go_wp2_with fail
          refine Ord.wp_region [(0, 0), (1, 0), (2, 0), (3, 0), (4, 0), (5, 0), (6, 0), (7, 0)] (fun _ => True) (by kernel_rfl) (by kernel_rfl) (fun c a d v w h => by cases d <;> exact h) trivial ?_
          go_wp2_with (first
            | ((with_reducible refine Ord.at_calm ?_); refine Ord.calm_skip rfl rfl (fun K hK => ?_)) | with_reducible refine Ord.walk_calm rfl rfl (fun K hK => ?_) | ((with_reducible refine Ord.at_wild ?_); refine Ord.wild_fieldAddr rfl rfl (fun W => by simp [go_sem]; rfl) (fun K hK => ?_)) | ((with_reducible refine Ord.at_wild ?_); refine Ord.wild_move rfl rfl (fun K hK => ?_)) | ((with_reducible refine Ord.at_wild ?_); refine Ord.wild_nilCheck rfl rfl (fun K hK => ?_)) | with_reducible refine Ord.walk_eff rfl (by first | (simp; done) | assumption | (go_simp; done) | (repeat (first | assumption | exact Below.refl _ _ | refine Below.drew ?_ | refine Below.alloc ?_ (by first | omega | (simp; done) | (simp; omega)) _ | refine Below.setCell ?_ (by first | omega | (simp; done) | (simp; omega)) _ | refine Below.trans ?_ (Below.mono (by assumption) (by first | omega | (simp; done) | (simp; omega)))))) (fun K hK => ?_) | with_reducible refine Ord.at_fork ?_ ?_ | with_reducible refine Ord.walk_nil ?_ | (with_reducible refine Ord.next_of (by first | (simp; done) | (go_simp; done) | (repeat (first | assumption | exact Below.refl _ _ | refine Below.drew ?_ | refine Below.alloc ?_ (by first | omega | (simp; done) | (simp; omega)) _ | refine Below.setCell ?_ (by first | omega | (simp; done) | (simp; omega)) _ | refine Below.trans ?_ (Below.mono (by assumption) (by first | omega | (simp; done) | (simp; omega)))))) (fun _ => ?_))
            | ((with_reducible refine Ord.at_calm ?_); refine Ord.calm_call rfl (fun W => Try.call50 _ W) (HX.out _) (fun K hK => ?_)) | ((with_reducible refine Ord.at_wild ?_); refine Ord.wild_call rfl (fun W => Try.call50 _ W) (fun W hW => HX.out _) (fun K hK => ?_)))
          all_goals (refine ⟨⟨k + 1, q + 1, by omega, by omega, ?_, by go_num, by go_num, by (repeat (first | assumption | exact Below.refl _ _ | refine Below.drew ?_ | refine Below.alloc ?_ (by first | omega | (simp; done) | (simp; omega)) _ | refine Below.setCell ?_ (by first | omega | (simp; done) | (simp; omega)) _ | refine Below.trans ?_ (Below.mono (by assumption) (by first | omega | (simp; done) | (simp; omega)))))⟩, by simp [intOf]; omega⟩; show _ = _; rw [HTC.out, ← hq.out, HB.out]; simp)
        · have HB : Hid (decide (b.nd ≤ (sz x : Int)) = false) := by show _ = _; simpa using hb
          go_wp2_with fail
          refine Ord.wp_region [(0, 0), (1, 0), (2, 0), (3, 0), (4, 0), (5, 0), (6, 0), (7, 0)] (fun _ => True) (by kernel_rfl) (by kernel_rfl) (fun c a d v w h => by cases d <;> exact h) trivial ?_
          go_wp2_with (first
            | ((with_reducible refine Ord.at_calm ?_); refine Ord.calm_skip rfl rfl (fun K hK => ?_)) | with_reducible refine Ord.walk_calm rfl rfl (fun K hK => ?_) | ((with_reducible refine Ord.at_wild ?_); refine Ord.wild_fieldAddr rfl rfl (fun W => by simp [go_sem]; rfl) (fun K hK => ?_)) | ((with_reducible refine Ord.at_wild ?_); refine Ord.wild_move rfl rfl (fun K hK => ?_)) | ((with_reducible refine Ord.at_wild ?_); refine Ord.wild_nilCheck rfl rfl (fun K hK => ?_)) | with_reducible refine Ord.walk_eff rfl (by first | (simp; done) | assumption | (go_simp; done) | (repeat (first | assumption | exact Below.refl _ _ | refine Below.drew ?_ | refine Below.alloc ?_ (by first | omega | (simp; done) | (simp; omega)) _ | refine Below.setCell ?_ (by first | omega | (simp; done) | (simp; omega)) _ | refine Below.trans ?_ (Below.mono (by assumption) (by first | omega | (simp; done) | (simp; omega)))))) (fun K hK => ?_) | with_reducible refine Ord.at_fork ?_ ?_ | with_reducible refine Ord.walk_nil ?_ | (with_reducible refine Ord.next_of (by first | (simp; done) | (go_simp; done) | (repeat (first | assumption | exact Below.refl _ _ | refine Below.drew ?_ | refine Below.alloc ?_ (by first | omega | (simp; done) | (simp; omega)) _ | refine Below.setCell ?_ (by first | omega | (simp; done) | (simp; omega)) _ | refine Below.trans ?_ (Below.mono (by assumption) (by first | omega | (simp; done) | (simp; omega)))))) (fun _ => ?_))
            | ((with_reducible refine Ord.at_calm ?_); refine Ord.calm_call rfl (fun W => Try.call50 _ W) (HX.out _) (fun K hK => ?_)) | ((with_reducible refine Ord.at_wild ?_); refine Ord.wild_call rfl (fun W => Try.call50 _ W) (fun W hW => HX.out _) (fun K hK => ?_)))
          all_goals (refine ⟨⟨k + 1, q, by omega, by omega, ?_, by go_num, by go_num, by (repeat (first | assumption | exact Below.refl _ _ | refine Below.drew ?_ | refine Below.alloc ?_ (by first | omega | (simp; done) | (simp; omega)) _ | refine Below.setCell ?_ (by first | omega | (simp; done) | (simp; omega)) _ | refine Below.trans ?_ (Below.mono (by assumption) (by first | omega | (simp; done) | (simp; omega)))))⟩, by simp [intOf]; omega⟩; show _ = _; rw [HTC.out, ← hq.out, HB.out]; simp)
      · have hcq : q = cn := by rw [HC.out, hq.out, List.take_of_length_le (by omega)]
        subst hcq
        clear hq HC
        go_wp2_with (first
          | (go_at_call 60; refine (HGr.out _).mono ?_; rintro e w2 ⟨rfl, rfl⟩))
        go_ret2
        refine ⟨rfl, ?_⟩
        (repeat (first | assumption | exact Below.refl _ _ | refine Below.drew ?_ | refine Below.alloc ?_ (by first | omega | (simp; done) | (simp; omega)) _ | refine Below.setCell ?_ (by first | omega | (simp; done) | (simp; omega)) _ | refine Below.trans ?_ (Below.mono (by assumption) (by first | omega | (simp; done) | (simp; omega)))))
  · rw [if_neg e0]
    have hne : (toldE b true == 0) = false := by simpa using e0
    have hl0 : toldL b true = [] := by simp [toldL, e0]
    rw [hl0] at HT
    unfold bv at *
    generalize toldE b true = te at *
    clear hg hp hgl hpl e0
    go_enter Try.func21, Try.ntmps21
    go_wp2_with (first
      | (go_at_call 49; refine (HT.out _ ?_).mono ?_; (focus (repeat (first | assumption | exact Below.refl _ _ | refine Below.drew ?_ | refine Below.alloc ?_ (by first | omega | (simp; done) | (simp; omega)) _ | refine Below.setCell ?_ (by first | omega | (simp; done) | (simp; omega)) _ | refine Below.trans ?_ (Below.mono (by assumption) (by first | omega | (simp; done) | (simp; omega)))))); rintro e w1 ⟨a, c, rfl, hI, hb1⟩; obtain ⟨c1, f1, z1⟩ := after hb1 (by simp; rfl)))
    go_ret2
    refine ⟨rfl, ?_⟩
    (repeat (first | assumption | exact Below.refl _ _ | refine Below.drew ?_ | refine Below.alloc ?_ (by first | omega | (simp; done) | (simp; omega)) _ | refine Below.setCell ?_ (by first | omega | (simp; done) | (simp; omega)) _ | refine Below.trans ?_ (Below.mono (by assumption) (by first | omega | (simp; done) | (simp; omega)))))
end Go.Proofs.Ytjbjmoghloabpaa
/- Contracts of shearworksref03: Same. -/
set_option linter.unusedVariables false
set_option linter.unusedSimpArgs false
namespace Go.Proofs.Ytjbjmoghloabpaa
open Go.RowKit Go.Proofs

def sameN (l : List Nat) (v u : Nat) : Nat := l.countP (fun x => hasB x v == hasB x u)

set_option maxHeartbeats 4000000 in
set_option maxRecDepth 100000 in
theorem r_Same (b : Bn) (ga : Option Addr) (gc : Nat) (pa : Option Addr) (pc : Nat) (w : World) (hg : GsAt w ga b.gs) (hp : PsAt w pa b.ps)
    (hgl : b.gs.length ≤ 40) (hpl : b.ps.length ≤ 40) (n m : Int) :
    Calls Try.prog 23 #[bv b ga gc pa pc, .int .i64 n, .int .i64 m] w
      (if toldE b (voterB b n && voterB b m) = 0 then Gives2 (.int .i64 (gradedI (sameN (TL b) n.toNat m.toNat) (TL b).length)) (.int .i64 0) w else Gives2 (.int .i64 0) (.int .i64 (toldE b (voterB b n && voterB b m))) w) := by
  have HT : Hid (∀ w', Below w.heap.size w w' → Calls Try.prog 49 #[bv b ga gc pa pc, .bool (voterB b n && voterB b m)] w' (ToldAt (toldL b (voterB b n && voterB b m)) (toldE b (voterB b n && voterB b m)) w')) :=
    fun w' hb => r_told b ga gc pa pc w' (hg.below hb) (hp.below hb) hgl hpl (voterB b n && voterB b m)
  have HV : Hid (∀ v w, Calls Try.prog 59 #[bv b ga gc pa pc, .int .i64 v] w (Gives (.bool (voterB b v)) w)) := fun v w => r_voter b ga gc pa pc v w
  by_cases e0 : toldE b (voterB b n && voterB b m) = 0
  · rw [if_pos e0]
    obtain ⟨hv, hvb, -⟩ := toldE_zero e0
    rw [toldL_zero e0, e0] at HT
    have hV := valid_V hv
    have hvb1 : voterB b n = true := (Bool.and_eq_true _ _ ▸ hvb).1
    have hvb2 : voterB b m = true := (Bool.and_eq_true _ _ ▸ hvb).2
    have hn := inB_of ((voterB_of hv n).symm.trans hvb1)
    have hm := inB_of ((voterB_of hv m).symm.trans hvb2)
    have hs := TL_small hv
    have hl := TL_len hv
    have HGr := Lib.hid (r_graded ((sameN (TL b) n.toNat m.toNat : Nat) : Int) ((TL b).length : Nat) (sameN (TL b) n.toNat m.toNat) (TL b).length rfl rfl)
    have HC : Hid (sameN (TL b) n.toNat m.toNat = (TL b).countP (fun x => hasB x n.toNat == hasB x m.toNat)) := rfl
    have HX : Hid (∀ x : Nat, x < 2 ^ 62 → ∀ v : Int, 0 ≤ v ∧ v ≤ 62 → ∀ w, Calls Try.prog 69 #[.int .i64 x, .int .i64 v] w (Same (.bool (hasB x v.toNat)) w)) := fun x hx v hv w => r_has (x : Int) v x v.toNat rfl (by omega) hx (by omega) w
    rw [hvb1, hvb2] at HT
    unfold bv at *
    generalize gradedI (sameN (TL b) n.toNat m.toNat) (TL b).length = gr at *
    generalize sameN (TL b) n.toNat m.toNat = cn at *
    generalize TL b = T at *
    have hn62 : 0 ≤ n ∧ n ≤ 62 := by omega
    have hm62 : 0 ≤ m ∧ m ≤ 62 := by omega
    generalize voterB b = vB at *
    clear hg hp hgl hpl e0 hv hn hm hvb hV
    go_enter Try.func23, Try.ntmps23
    go_wp2_with fail
    refine Ord.wp_region [(0, 1), (1, 0), (2, 0), (3, 2), (4, 0), (5, 0), (6, 0), (7, 2), (8, 0), (9, 2), (10, 0), (11, 0), (12, 0), (13, 0), (14, 0)] (fun W => Below (w.heap.size + 1) (w.alloc (.cells #[.int .i64 b.V, .int .i64 b.nd, .int .i64 b.lo, .int .i64 b.hi, .slice ga b.gs.length gc, .slice pa b.ps.length pc] 27)).drew W) (by kernel_rfl) (by kernel_rfl) (fun c a d v w h => by cases d <;> exact h) (Below.refl _ _) ?_
    go_wp2_with (first
      | ((with_reducible refine Ord.at_calm ?_); refine Ord.calm_skip rfl rfl (fun K hK => ?_)) | with_reducible refine Ord.walk_calm rfl rfl (fun K hK => ?_) | ((with_reducible refine Ord.at_wild ?_); refine Ord.wild_fieldAddr rfl rfl (fun W => by simp [go_sem]; rfl) (fun K hK => ?_)) | ((with_reducible refine Ord.at_wild ?_); refine Ord.wild_move rfl rfl (fun K hK => ?_)) | ((with_reducible refine Ord.at_wild ?_); refine Ord.wild_nilCheck rfl rfl (fun K hK => ?_)) | with_reducible refine Ord.walk_eff rfl (by first | (simp; done) | assumption | (go_simp; done) | (repeat (first | assumption | exact Below.refl _ _ | refine Below.drew ?_ | refine Below.alloc ?_ (by first | omega | (simp; done) | (simp; omega)) _ | refine Below.setCell ?_ (by first | omega | (simp; done) | (simp; omega)) _ | refine Below.trans ?_ (Below.mono (by assumption) (by first | omega | (simp; done) | (simp; omega)))))) (fun K hK => ?_) | with_reducible refine Ord.at_fork ?_ ?_ | with_reducible refine Ord.walk_nil ?_ | (with_reducible refine Ord.next_of (by first | (simp; done) | (go_simp; done) | (repeat (first | assumption | exact Below.refl _ _ | refine Below.drew ?_ | refine Below.alloc ?_ (by first | omega | (simp; done) | (simp; omega)) _ | refine Below.setCell ?_ (by first | omega | (simp; done) | (simp; omega)) _ | refine Below.trans ?_ (Below.mono (by assumption) (by first | omega | (simp; done) | (simp; omega)))))) (fun _ => ?_))
      | ((with_reducible refine Ord.at_wild ?_); refine Ord.wild_load (ad := ⟨w.heap.size, 0, none⟩) (.agg #[.int .i64 b.V, .int .i64 b.nd, .int .i64 b.lo, .int .i64 b.hi, .slice ga b.gs.length gc, .slice pa b.ps.length pc]) rfl rfl ?_ ?_; (focus (intro W hW; obtain ⟨cW, _, zW⟩ := below_rules hW rfl; simp [go_sem, cW, ↓IntWalk.iteOmega]; done)); intro K hK)
      | (go_at_call 59; refine (HV.out _ _).mono ?_; rw [hvb1]; clear hvb1; rintro e w0 ⟨rfl, hb0⟩; obtain ⟨c0, f0, z0⟩ := after hb0 (by simp; rfl))
      | (go_at_call 59; refine (HV.out _ _).mono ?_; rw [hvb2]; clear hvb2; rintro e w4 ⟨rfl, hb4⟩; obtain ⟨c4, f4, z4⟩ := after hb4 rfl)
      | (go_at_call 49; refine (HT.out _ ?_).mono ?_; (focus (repeat (first | assumption | exact Below.refl _ _ | refine Below.drew ?_ | refine Below.alloc ?_ (by first | omega | (simp; done) | (simp; omega)) _ | refine Below.setCell ?_ (by first | omega | (simp; done) | (simp; omega)) _ | refine Below.trans ?_ (Below.mono (by assumption) (by first | omega | (simp; done) | (simp; omega)))))); rintro e w1 ⟨a, c, rfl, hI, hb1⟩; obtain ⟨c1, f1, z1⟩ := after hb1 rfl))
    have hBw : Below w.heap.size w w1 := by (repeat (first | assumption | exact Below.refl _ _ | refine Below.drew ?_ | refine Below.alloc ?_ (by first | omega | (simp; done) | (simp; omega)) _ | refine Below.setCell ?_ (by first | omega | (simp; done) | (simp; omega)) _ | refine Below.trans ?_ (Below.mono (by assumption) (by first | omega | (simp; done) | (simp; omega)))))
    clear c1 f1 hb1 HT HV c0 f0 hb0 c4 f4 hb4
    go_loopw [10, 11] (fun x i wr => ∃ k q : Nat, k ≤ T.length ∧ q ≤ k ∧ Hid (q = (T.take k).countP (fun y => hasB y n.toNat == hasB y m.toNat)) ∧ i = .int .i64 k ∧ x = .int .i64 q ∧ Below w1.heap.size w1 wr) (fun _ i _ => T.length - (intOf i).toNat)
    case atStart => exact ⟨0, 0, by omega, by omega, rfl, rfl, rfl, by (repeat (first | assumption | exact Below.refl _ _ | refine Below.drew ?_ | refine Below.alloc ?_ (by first | omega | (simp; done) | (simp; omega)) _ | refine Below.setCell ?_ (by first | omega | (simp; done) | (simp; omega)) _ | refine Below.trans ?_ (Below.mono (by assumption) (by first | omega | (simp; done) | (simp; omega)))))⟩
    case round =>
      obtain ⟨k, q, hk, hqk, hq, rfl, rfl, hB⟩ := hrel
      obtain ⟨c2, f2, z2⟩ := below_rules hB rfl
      by_cases hlt : k < T.length
      · obtain ⟨bb, o, rfl, e1⟩ := hI k hlt
        have hbw : bb < w1.heap.size := World.block_lt_of_cell? w1 _ e1
        have hlt' : (k : Int) < T.length := by omega
        have hx := hs.at hlt
        have HTC := Lib.hid (take_count T (fun x => hasB x n.toNat == hasB x m.toNat) k hlt)
        generalize T[k] = x at *
        obtain ⟨f, hf⟩ : ∃ f : Int → Bool, ∀ v, hasB x v.toNat = f v := ⟨_, fun _ => rfl⟩
        have HY := Lib.hid (HX.out x hx)
        clear hx hs hI HX
        simp only [hf] at HY HTC
        clear hf
        by_cases hb : f n = f m
        · have HB : Hid ((f n == f m) = true) := by show _ = _; simpa using hb
          have hb2 := HB.out
          clear hb
          go_wp2_with fail
          refine Ord.wp_region [(0, 0), (1, 0), (2, 0), (3, 0), (4, 0), (5, 0), (6, 0), (7, 0), (8, 0), (9, 0), (10, 0), (11, 0), (12, 0)] (fun _ => True) (by kernel_rfl) (by kernel_rfl) (fun c a d v w h => by cases d <;> exact h) trivial ?_
          go_wp2_with (first
            | ((with_reducible refine Ord.at_calm ?_); refine Ord.calm_skip rfl rfl (fun K hK => ?_)) | with_reducible refine Ord.walk_calm rfl rfl (fun K hK => ?_) | ((with_reducible refine Ord.at_wild ?_); refine Ord.wild_fieldAddr rfl rfl (fun W => by simp [go_sem]; rfl) (fun K hK => ?_)) | ((with_reducible refine Ord.at_wild ?_); refine Ord.wild_move rfl rfl (fun K hK => ?_)) | ((with_reducible refine Ord.at_wild ?_); refine Ord.wild_nilCheck rfl rfl (fun K hK => ?_)) | with_reducible refine Ord.walk_eff rfl (by first | (simp; done) | assumption | (go_simp; done) | (repeat (first | assumption | exact Below.refl _ _ | refine Below.drew ?_ | refine Below.alloc ?_ (by first | omega | (simp; done) | (simp; omega)) _ | refine Below.setCell ?_ (by first | omega | (simp; done) | (simp; omega)) _ | refine Below.trans ?_ (Below.mono (by assumption) (by first | omega | (simp; done) | (simp; omega)))))) (fun K hK => ?_) | with_reducible refine Ord.at_fork ?_ ?_ | with_reducible refine Ord.walk_nil ?_ | (with_reducible refine Ord.next_of (by first | (simp; done) | (go_simp; done) | (repeat (first | assumption | exact Below.refl _ _ | refine Below.drew ?_ | refine Below.alloc ?_ (by first | omega | (simp; done) | (simp; omega)) _ | refine Below.setCell ?_ (by first | omega | (simp; done) | (simp; omega)) _ | refine Below.trans ?_ (Below.mono (by assumption) (by first | omega | (simp; done) | (simp; omega)))))) (fun _ => ?_))
            | ((with_reducible refine Ord.at_calm ?_); refine Ord.calm_call rfl (fun W => Try.call69 _ W) (HY.out _ (by first | exact hn62 | exact hm62) _) (fun K hK => ?_)) | ((with_reducible refine Ord.at_wild ?_); refine Ord.wild_call rfl (fun W => Try.call69 _ W) (fun W hW => HY.out _ (by first | exact hn62 | exact hm62) _) (fun K hK => ?_)))
          all_goals (refine ⟨⟨k + 1, q + 1, by omega, by omega, ?_, by go_num, by go_num, by (repeat (first | assumption | exact Below.refl _ _ | refine Below.drew ?_ | refine Below.alloc ?_ (by first | omega | (simp; done) | (simp; omega)) _ | refine Below.setCell ?_ (by first | omega | (simp; done) | (simp; omega)) _ | refine Below.trans ?_ (Below.mono (by assumption) (by first | omega | (simp; done) | (simp; omega)))))⟩, by simp [intOf]; omega⟩; show _ = _; rw [HTC.out, ← hq.out, HB.out]; simp)
        · have HB : Hid ((f n == f m) = false) := by show _ = _; simpa using hb
          have hb2 := HB.out
          clear hb
          go_wp2_with fail
          refine Ord.wp_region [(0, 0), (1, 0), (2, 0), (3, 0), (4, 0), (5, 0), (6, 0), (7, 0), (8, 0), (9, 0), (10, 0), (11, 0), (12, 0)] (fun _ => True) (by kernel_rfl) (by kernel_rfl) (fun c a d v w h => by cases d <;> exact h) trivial ?_
          go_wp2_with (first
            | ((with_reducible refine Ord.at_calm ?_); refine Ord.calm_skip rfl rfl (fun K hK => ?_)) | with_reducible refine Ord.walk_calm rfl rfl (fun K hK => ?_) | ((with_reducible refine Ord.at_wild ?_); refine Ord.wild_fieldAddr rfl rfl (fun W => by simp [go_sem]; rfl) (fun K hK => ?_)) | ((with_reducible refine Ord.at_wild ?_); refine Ord.wild_move rfl rfl (fun K hK => ?_)) | ((with_reducible refine Ord.at_wild ?_); refine Ord.wild_nilCheck rfl rfl (fun K hK => ?_)) | with_reducible refine Ord.walk_eff rfl (by first | (simp; done) | assumption | (go_simp; done) | (repeat (first | assumption | exact Below.refl _ _ | refine Below.drew ?_ | refine Below.alloc ?_ (by first | omega | (simp; done) | (simp; omega)) _ | refine Below.setCell ?_ (by first | omega | (simp; done) | (simp; omega)) _ | refine Below.trans ?_ (Below.mono (by assumption) (by first | omega | (simp; done) | (simp; omega)))))) (fun K hK => ?_) | with_reducible refine Ord.at_fork ?_ ?_ | with_reducible refine Ord.walk_nil ?_ | (with_reducible refine Ord.next_of (by first | (simp; done) | (go_simp; done) | (repeat (first | assumption | exact Below.refl _ _ | refine Below.drew ?_ | refine Below.alloc ?_ (by first | omega | (simp; done) | (simp; omega)) _ | refine Below.setCell ?_ (by first | omega | (simp; done) | (simp; omega)) _ | refine Below.trans ?_ (Below.mono (by assumption) (by first | omega | (simp; done) | (simp; omega)))))) (fun _ => ?_))
            | ((with_reducible refine Ord.at_calm ?_); refine Ord.calm_call rfl (fun W => Try.call69 _ W) (HY.out _ (by first | exact hn62 | exact hm62) _) (fun K hK => ?_)) | ((with_reducible refine Ord.at_wild ?_); refine Ord.wild_call rfl (fun W => Try.call69 _ W) (fun W hW => HY.out _ (by first | exact hn62 | exact hm62) _) (fun K hK => ?_)))
          all_goals (refine ⟨⟨k + 1, q, by omega, by omega, ?_, by go_num, by go_num, by (repeat (first | assumption | exact Below.refl _ _ | refine Below.drew ?_ | refine Below.alloc ?_ (by first | omega | (simp; done) | (simp; omega)) _ | refine Below.setCell ?_ (by first | omega | (simp; done) | (simp; omega)) _ | refine Below.trans ?_ (Below.mono (by assumption) (by first | omega | (simp; done) | (simp; omega)))))⟩, by simp [intOf]; omega⟩; show _ = _; rw [HTC.out, ← hq.out, HB.out]; simp)
      · have hcq : q = cn := by rw [HC.out, hq.out, List.take_of_length_le (by omega)]
        subst hcq
        clear hq HC
        go_wp2_with (first
          | (go_at_call 60; refine (HGr.out _).mono ?_; rintro e w2 ⟨rfl, rfl⟩))
        go_ret2
        refine ⟨rfl, ?_⟩
        (repeat (first | assumption | exact Below.refl _ _ | refine Below.drew ?_ | refine Below.alloc ?_ (by first | omega | (simp; done) | (simp; omega)) _ | refine Below.setCell ?_ (by first | omega | (simp; done) | (simp; omega)) _ | refine Below.trans ?_ (Below.mono (by assumption) (by first | omega | (simp; done) | (simp; omega)))))
  · rw [if_neg e0]
    have hne : (toldE b (voterB b n && voterB b m) == 0) = false := by simpa using e0
    have hl0 : toldL b (voterB b n && voterB b m) = [] := by simp [toldL, e0]
    rw [hl0] at HT
    clear hg hp hgl hpl e0 hl0
    have HV1 := fun w => HV.out n w
    cases h1 : voterB b n <;> simp only [h1, Bool.false_and, Bool.true_and] at HT HV1 hne ⊢ <;> have HW := Lib.hid HV1 <;> clear HV1 h1
    · generalize toldE b false = te at *; generalize voterB b = vB at *
      unfold bv at *
      go_enter Try.func23, Try.ntmps23
      go_wp2_with fail
      refine Ord.wp_region [(0, 1), (1, 0), (2, 0), (3, 2), (4, 0), (5, 0), (6, 0), (7, 2), (8, 0), (9, 2), (10, 0), (11, 0), (12, 0), (13, 0), (14, 0)] (fun W => Below (w.heap.size + 1) (w.alloc (.cells #[.int .i64 b.V, .int .i64 b.nd, .int .i64 b.lo, .int .i64 b.hi, .slice ga b.gs.length gc, .slice pa b.ps.length pc] 27)).drew W) (by kernel_rfl) (by kernel_rfl) (fun c a d v w h => by cases d <;> exact h) (Below.refl _ _) ?_
      go_wp2_with (first
        | ((with_reducible refine Ord.at_calm ?_); refine Ord.calm_skip rfl rfl (fun K hK => ?_)) | with_reducible refine Ord.walk_calm rfl rfl (fun K hK => ?_) | ((with_reducible refine Ord.at_wild ?_); refine Ord.wild_fieldAddr rfl rfl (fun W => by simp [go_sem]; rfl) (fun K hK => ?_)) | ((with_reducible refine Ord.at_wild ?_); refine Ord.wild_move rfl rfl (fun K hK => ?_)) | ((with_reducible refine Ord.at_wild ?_); refine Ord.wild_nilCheck rfl rfl (fun K hK => ?_)) | with_reducible refine Ord.walk_eff rfl (by first | (simp; done) | assumption | (go_simp; done) | (repeat (first | assumption | exact Below.refl _ _ | refine Below.drew ?_ | refine Below.alloc ?_ (by first | omega | (simp; done) | (simp; omega)) _ | refine Below.setCell ?_ (by first | omega | (simp; done) | (simp; omega)) _ | refine Below.trans ?_ (Below.mono (by assumption) (by first | omega | (simp; done) | (simp; omega)))))) (fun K hK => ?_) | with_reducible refine Ord.at_fork ?_ ?_ | with_reducible refine Ord.walk_nil ?_ | (with_reducible refine Ord.next_of (by first | (simp; done) | (go_simp; done) | (repeat (first | assumption | exact Below.refl _ _ | refine Below.drew ?_ | refine Below.alloc ?_ (by first | omega | (simp; done) | (simp; omega)) _ | refine Below.setCell ?_ (by first | omega | (simp; done) | (simp; omega)) _ | refine Below.trans ?_ (Below.mono (by assumption) (by first | omega | (simp; done) | (simp; omega)))))) (fun _ => ?_))
        | ((with_reducible refine Ord.at_wild ?_); refine Ord.wild_load (ad := ⟨w.heap.size, 0, none⟩) (.agg #[.int .i64 b.V, .int .i64 b.nd, .int .i64 b.lo, .int .i64 b.hi, .slice ga b.gs.length gc, .slice pa b.ps.length pc]) rfl rfl ?_ ?_; (focus (intro W hW; obtain ⟨cW, _, zW⟩ := below_rules hW rfl; simp [go_sem, cW, ↓IntWalk.iteOmega]; done)); intro K hK)
        | (go_at_call 59; refine (HW.out _).mono ?_; clear HW; rintro e w0 ⟨rfl, hb0⟩; obtain ⟨c0, f0, z0⟩ := after hb0 (by simp; rfl))
        | (go_at_call 49; refine (HT.out _ ?_).mono ?_; (focus (repeat (first | assumption | exact Below.refl _ _ | refine Below.drew ?_ | refine Below.alloc ?_ (by first | omega | (simp; done) | (simp; omega)) _ | refine Below.setCell ?_ (by first | omega | (simp; done) | (simp; omega)) _ | refine Below.trans ?_ (Below.mono (by assumption) (by first | omega | (simp; done) | (simp; omega)))))); rintro e w1 ⟨a, c, rfl, hI, hb1⟩; obtain ⟨c1, f1, z1⟩ := after hb1 rfl))
      go_ret2
      refine ⟨rfl, ?_⟩
      (repeat (first | assumption | exact Below.refl _ _ | refine Below.drew ?_ | refine Below.alloc ?_ (by first | omega | (simp; done) | (simp; omega)) _ | refine Below.setCell ?_ (by first | omega | (simp; done) | (simp; omega)) _ | refine Below.trans ?_ (Below.mono (by assumption) (by first | omega | (simp; done) | (simp; omega)))))
    · generalize toldE b (voterB b m) = te at *; generalize voterB b = vB at *
      unfold bv at *
      go_enter Try.func23, Try.ntmps23
      go_wp2_with fail
      refine Ord.wp_region [(0, 1), (1, 0), (2, 0), (3, 2), (4, 0), (5, 0), (6, 0), (7, 2), (8, 0), (9, 2), (10, 0), (11, 0), (12, 0), (13, 0), (14, 0)] (fun W => Below (w.heap.size + 1) (w.alloc (.cells #[.int .i64 b.V, .int .i64 b.nd, .int .i64 b.lo, .int .i64 b.hi, .slice ga b.gs.length gc, .slice pa b.ps.length pc] 27)).drew W) (by kernel_rfl) (by kernel_rfl) (fun c a d v w h => by cases d <;> exact h) (Below.refl _ _) ?_
      go_wp2_with (first
        | ((with_reducible refine Ord.at_calm ?_); refine Ord.calm_skip rfl rfl (fun K hK => ?_)) | with_reducible refine Ord.walk_calm rfl rfl (fun K hK => ?_) | ((with_reducible refine Ord.at_wild ?_); refine Ord.wild_fieldAddr rfl rfl (fun W => by simp [go_sem]; rfl) (fun K hK => ?_)) | ((with_reducible refine Ord.at_wild ?_); refine Ord.wild_move rfl rfl (fun K hK => ?_)) | ((with_reducible refine Ord.at_wild ?_); refine Ord.wild_nilCheck rfl rfl (fun K hK => ?_)) | with_reducible refine Ord.walk_eff rfl (by first | (simp; done) | assumption | (go_simp; done) | (repeat (first | assumption | exact Below.refl _ _ | refine Below.drew ?_ | refine Below.alloc ?_ (by first | omega | (simp; done) | (simp; omega)) _ | refine Below.setCell ?_ (by first | omega | (simp; done) | (simp; omega)) _ | refine Below.trans ?_ (Below.mono (by assumption) (by first | omega | (simp; done) | (simp; omega)))))) (fun K hK => ?_) | with_reducible refine Ord.at_fork ?_ ?_ | with_reducible refine Ord.walk_nil ?_ | (with_reducible refine Ord.next_of (by first | (simp; done) | (go_simp; done) | (repeat (first | assumption | exact Below.refl _ _ | refine Below.drew ?_ | refine Below.alloc ?_ (by first | omega | (simp; done) | (simp; omega)) _ | refine Below.setCell ?_ (by first | omega | (simp; done) | (simp; omega)) _ | refine Below.trans ?_ (Below.mono (by assumption) (by first | omega | (simp; done) | (simp; omega)))))) (fun _ => ?_))
        | ((with_reducible refine Ord.at_wild ?_); refine Ord.wild_load (ad := ⟨w.heap.size, 0, none⟩) (.agg #[.int .i64 b.V, .int .i64 b.nd, .int .i64 b.lo, .int .i64 b.hi, .slice ga b.gs.length gc, .slice pa b.ps.length pc]) rfl rfl ?_ ?_; (focus (intro W hW; obtain ⟨cW, _, zW⟩ := below_rules hW rfl; simp [go_sem, cW, ↓IntWalk.iteOmega]; done)); intro K hK)
        | (go_at_call 59; refine (HW.out _).mono ?_; clear HW; rintro e w0 ⟨rfl, hb0⟩; obtain ⟨c0, f0, z0⟩ := after hb0 (by simp; rfl))
        | (go_at_call 59; refine (HV.out _ _).mono ?_; rintro e w4 ⟨rfl, hb4⟩; obtain ⟨c4, f4, z4⟩ := after hb4 rfl)
        | (go_at_call 49; refine (HT.out _ ?_).mono ?_; (focus (repeat (first | assumption | exact Below.refl _ _ | refine Below.drew ?_ | refine Below.alloc ?_ (by first | omega | (simp; done) | (simp; omega)) _ | refine Below.setCell ?_ (by first | omega | (simp; done) | (simp; omega)) _ | refine Below.trans ?_ (Below.mono (by assumption) (by first | omega | (simp; done) | (simp; omega)))))); rintro e w1 ⟨a, c, rfl, hI, hb1⟩; obtain ⟨c1, f1, z1⟩ := after hb1 rfl))
      go_ret2
      refine ⟨rfl, ?_⟩
      (repeat (first | assumption | exact Below.refl _ _ | refine Below.drew ?_ | refine Below.alloc ?_ (by first | omega | (simp; done) | (simp; omega)) _ | refine Below.setCell ?_ (by first | omega | (simp; done) | (simp; omega)) _ | refine Below.trans ?_ (Below.mono (by assumption) (by first | omega | (simp; done) | (simp; omega)))))
end Go.Proofs.Ytjbjmoghloabpaa
