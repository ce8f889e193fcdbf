/- Parts of a proof: BnRefH. -/
import Derived.Test.YtjbjmoghloabpaaM04
/- Contracts of shearworksref03: Known, Count, White, Tell. -/
set_option linter.unusedVariables false
set_option linter.unusedSimpArgs false
namespace Go.Proofs.Ytjbjmoghloabpaa
open Go.RowKit Go.Proofs

theorem sz_lt (x : Nat) : sz x ≤ 62 := szN_le _ _
theorem TL_small {b : Bn} (hv : valid b = true) : Small (TL b) := by
  intro x hx
  have h1 := List.mem_range.1 (List.mem_filter.1 (show x ∈ (List.range (2 ^ b.V.toNat)).filter (okB b (2 ^ b.kn - 1)) from hx)).1
  have hV := valid_V hv
  have h2 : 2 ^ b.V.toNat ≤ 2 ^ 8 := Nat.pow_le_pow_right (by omega) (by omega)
  have h3 : (2:Nat) ^ 8 < 2 ^ 62 := by decide
  omega
theorem TL_len {b : Bn} (hv : valid b = true) : (TL b).length ≤ 256 := by
  have h1 : (TL b).length ≤ (List.range (2 ^ b.V.toNat)).length := List.length_filter_le _ _
  have hV := valid_V hv
  have h2 : 2 ^ b.V.toNat ≤ 2 ^ 8 := Nat.pow_le_pow_right (by omega) (by omega)
  rw [List.length_range] at h1
  have h3 : (2:Nat) ^ 8 = 256 := rfl
  omega
theorem toldE_zero {b : Bn} {vb : Bool} (h : toldE b vb = 0) : valid b = true ∧ vb = true ∧ TL b ≠ [] := by
  unfold toldE at h
  cases hv : valid b <;> cases vb <;> simp [hv] at h ⊢
  exact h
theorem toldL_zero {b : Bn} {vb : Bool} (h : toldE b vb = 0) : toldL b vb = TL b := by simp [toldL, h]
theorem chkE_zero {b : Bn} {vb : Bool} (h : chkE b vb = 0) : valid b = true ∧ vb = true := by
  unfold chkE at h
  cases hv : valid b <;> cases vb <;> simp [hv] at h ⊢
theorem Small.filter {l : List Nat} (h : Small l) (p : Nat → Bool) : Small (l.filter p) := fun x hx => h x (List.mem_filter.1 hx).1

set_option maxHeartbeats 4000000 in
set_option maxRecDepth 100000 in
theorem r_Known (b : Bn) (ga : Option Addr) (gc : Nat) (pa : Option Addr) (pc : Nat) (w : World) (hg : GsAt w ga b.gs) (hp : PsAt w pa b.ps)
    (hgl : b.gs.length ≤ 40) (hpl : b.ps.length ≤ 40) :
    Calls Try.prog 19 #[bv b ga gc pa pc] w
      (if toldE b true = 0 then Gives3 (.int .i64 (whiteM (TL b) b.V.toNat : Nat)) (.int .i64 (blackM (TL b) b.V.toNat : Nat)) (.int .i64 0) w else Gives3 (.int .i64 0) (.int .i64 0) (.int .i64 (toldE b true)) w) := by
  have HT : Hid (∀ w', Below w.heap.size w w' → Calls Try.prog 49 #[bv b ga gc pa pc, .bool true] w' (ToldAt (toldL b true) (toldE b true) w')) :=
    fun w' hb => r_told b ga gc pa pc w' (hg.below hb) (hp.below hb) hgl hpl true
  by_cases e0 : toldE b true = 0
  · rw [if_pos e0]
    obtain ⟨hv, -, -⟩ := toldE_zero e0
    rw [toldL_zero e0, e0] at HT
    have hV := valid_V hv
    have HS : Hid (∀ (w' : World) (a : Option Addr) (c : Nat), IntsAt w' a (TL b) → Calls Try.prog 64 #[bv b ga gc pa pc, .slice a (TL b).length c] w' (Gives2 (.int .i64 (whiteM (TL b) b.V.toNat : Nat)) (.int .i64 (blackM (TL b) b.V.toNat : Nat)) w')) :=
      fun w' a c hI => r_sure b ga gc pa pc (by omega) (TL b) (TL_small hv) a c (by have := TL_len hv; omega) w' hI
    unfold bv at *
    generalize whiteM (TL b) b.V.toNat = wm at *
    generalize blackM (TL b) b.V.toNat = bm at *
    generalize TL b = T at *
    clear hg hp hgl hpl e0 hv hV
    go_enter Try.func19, Try.ntmps19
    go_wp2_with (first
      | (go_at_call 49; refine (HT.out _ ?_).mono ?_; (focus (repeat (first | assumption | exact Below.refl _ _ | refine Below.drew ?_ | refine Below.alloc ?_ (by first | omega | (simp; done) | (simp; omega)) _ | refine Below.setCell ?_ (by first | omega | (simp; done) | (simp; omega)) _ | refine Below.trans ?_ (Below.mono (by assumption) (by first | omega | (simp; done) | (simp; omega)))))); rintro e w1 ⟨a, c, rfl, hI, hb1⟩; obtain ⟨c1, f1, z1⟩ := after hb1 (by simp; rfl))
      | (go_at_call 64; refine (HS.out _ _ _ hI).mono ?_; rintro e w2 ⟨rfl, hb2⟩))
    go_ret3
    refine ⟨rfl, ?_⟩
    (repeat (first | assumption | exact Below.refl _ _ | refine Below.drew ?_ | refine Below.alloc ?_ (by first | omega | (simp; done) | (simp; omega)) _ | refine Below.setCell ?_ (by first | omega | (simp; done) | (simp; omega)) _ | refine Below.trans ?_ (Below.mono (by assumption) (by first | omega | (simp; done) | (simp; omega)))))
  · rw [if_neg e0]
    have hne : (toldE b true == 0) = false := by simpa using e0
    have hl0 : toldL b true = [] := by simp [toldL, e0]
    rw [hl0] at HT
    unfold bv at *
    generalize toldE b true = te at *
    clear hg hp hgl hpl e0
    go_enter Try.func19, Try.ntmps19
    go_wp2_with (first
      | (go_at_call 49; refine (HT.out _ ?_).mono ?_; (focus (repeat (first | assumption | exact Below.refl _ _ | refine Below.drew ?_ | refine Below.alloc ?_ (by first | omega | (simp; done) | (simp; omega)) _ | refine Below.setCell ?_ (by first | omega | (simp; done) | (simp; omega)) _ | refine Below.trans ?_ (Below.mono (by assumption) (by first | omega | (simp; done) | (simp; omega)))))); rintro e w1 ⟨a, c, rfl, hI, hb1⟩; obtain ⟨c1, f1, z1⟩ := after hb1 (by simp; rfl)))
    go_ret3
    refine ⟨rfl, ?_⟩
    (repeat (first | assumption | exact Below.refl _ _ | refine Below.drew ?_ | refine Below.alloc ?_ (by first | omega | (simp; done) | (simp; omega)) _ | refine Below.setCell ?_ (by first | omega | (simp; done) | (simp; omega)) _ | refine Below.trans ?_ (Below.mono (by assumption) (by first | omega | (simp; done) | (simp; omega)))))

set_option maxHeartbeats 4000000 in
set_option maxRecDepth 100000 in
theorem r_Count (b : Bn) (ga : Option Addr) (gc : Nat) (pa : Option Addr) (pc : Nat) (w : World) (hg : GsAt w ga b.gs) (hp : PsAt w pa b.ps)
    (hgl : b.gs.length ≤ 40) (hpl : b.ps.length ≤ 40) :
    Calls Try.prog 25 #[bv b ga gc pa pc] w
      (if chkE b true = 0 then Gives2 (.int .i64 ((TL b).length : Nat)) (.int .i64 0) w else Gives2 (.int .i64 0) (.int .i64 (chkE b true)) w) := by
  have HT : Hid (∀ w', Below w.heap.size w w' → Calls Try.prog 71 #[bv b ga gc pa pc, .bool true] w' (Gives (.int .i64 (chkE b true)) w')) :=
    fun w' hb => r_check b ga gc pa pc w' (hg.below hb) (hp.below hb) hgl hpl true
  by_cases e0 : chkE b true = 0
  · rw [if_pos e0]
    obtain ⟨hv, -⟩ := chkE_zero e0
    rw [e0] at HT
    have HS : Hid (∀ (w' : World), Below w.heap.size w w' → Calls Try.prog 72 #[bv b ga gc pa pc] w' (GivesL (TL b) w')) :=
      fun w' hb => r_truthsAll b ga gc pa pc hv w' (hg.below hb) (hp.below hb)
    unfold bv at *
    generalize TL b = T at *
    clear hg hp hgl hpl e0 hv
    go_enter Try.func25, Try.ntmps25
    go_wp2_with (first
      | (go_at_call 71; refine (HT.out _ ?_).mono ?_; (focus (repeat (first | assumption | exact Below.refl _ _ | refine Below.drew ?_ | refine Below.alloc ?_ (by first | omega | (simp; done) | (simp; omega)) _ | refine Below.setCell ?_ (by first | omega | (simp; done) | (simp; omega)) _ | refine Below.trans ?_ (Below.mono (by assumption) (by first | omega | (simp; done) | (simp; omega)))))); rintro e w1 ⟨rfl, hb1⟩; obtain ⟨c1, f1, z1⟩ := after hb1 (by simp; rfl))
      | (go_at_call 72; refine (HS.out _ ?_).mono ?_; (focus (repeat (first | assumption | exact Below.refl _ _ | refine Below.drew ?_ | refine Below.alloc ?_ (by first | omega | (simp; done) | (simp; omega)) _ | refine Below.setCell ?_ (by first | omega | (simp; done) | (simp; omega)) _ | refine Below.trans ?_ (Below.mono (by assumption) (by first | omega | (simp; done) | (simp; omega)))))); rintro e w2 ⟨a, c, rfl, hI, hb2⟩))
    go_ret2
    refine ⟨rfl, ?_⟩
    (repeat (first | assumption | exact Below.refl _ _ | refine Below.drew ?_ | refine Below.alloc ?_ (by first | omega | (simp; done) | (simp; omega)) _ | refine Below.setCell ?_ (by first | omega | (simp; done) | (simp; omega)) _ | refine Below.trans ?_ (Below.mono (by assumption) (by first | omega | (simp; done) | (simp; omega)))))
  · rw [if_neg e0]
    have hne : (chkE b true == 0) = false := by simpa using e0
    unfold bv at *
    generalize chkE b true = te at *
    clear hg hp hgl hpl e0
    go_enter Try.func25, Try.ntmps25
    go_wp2_with (first
      | (go_at_call 71; refine (HT.out _ ?_).mono ?_; (focus (repeat (first | assumption | exact Below.refl _ _ | refine Below.drew ?_ | refine Below.alloc ?_ (by first | omega | (simp; done) | (simp; omega)) _ | refine Below.setCell ?_ (by first | omega | (simp; done) | (simp; omega)) _ | refine Below.trans ?_ (Below.mono (by assumption) (by first | omega | (simp; done) | (simp; omega)))))); rintro e w1 ⟨rfl, hb1⟩; obtain ⟨c1, f1, z1⟩ := after hb1 (by simp; rfl)))
    go_ret2
    refine ⟨rfl, ?_⟩
    (repeat (first | assumption | exact Below.refl _ _ | refine Below.drew ?_ | refine Below.alloc ?_ (by first | omega | (simp; done) | (simp; omega)) _ | refine Below.setCell ?_ (by first | omega | (simp; done) | (simp; omega)) _ | refine Below.trans ?_ (Below.mono (by assumption) (by first | omega | (simp; done) | (simp; omega)))))

/-- Is a number that of a voter, as the reference asks it? -/
def voterB (b : Bn) (n : Int) : Bool := inB n 0 (wrap64 (b.V - 1))
theorem voterB_of {b : Bn} (hv : valid b = true) (n : Int) : voterB b n = inB n 0 (b.V - 1) := by
  have := valid_V hv
  unfold voterB; rw [IntWalk.wrap64_in _ (by omega)]

set_option maxHeartbeats 4000000 in
set_option maxRecDepth 100000 in
theorem r_White (b : Bn) (ga : Option Addr) (gc : Nat) (pa : Option Addr) (pc : Nat) (w : World) (hg : GsAt w ga b.gs) (hp : PsAt w pa b.ps)
    (hgl : b.gs.length ≤ 40) (hpl : b.ps.length ≤ 40) (n : Int) :
    Calls Try.prog 17 #[bv b ga gc pa pc, .int .i64 n] w
      (if toldE b (voterB b n) = 0 then Gives2 (.int .i64 (gradedI (cntH (TL b) n.toNat) (TL b).length)) (.int .i64 0) w else Gives2 (.int .i64 0) (.int .i64 (toldE b (voterB b n))) w) := by
  have HT : Hid (∀ w', Below w.heap.size w w' → Calls Try.prog 49 #[bv b ga gc pa pc, .bool (voterB b n)] w' (ToldAt (toldL b (voterB b n)) (toldE b (voterB b n)) w')) :=
    fun w' hb => r_told b ga gc pa pc w' (hg.below hb) (hp.below hb) hgl hpl (voterB b n)
  have HV : Hid (∀ w, Calls Try.prog 59 #[bv b ga gc pa pc, .int .i64 n] w (Gives (.bool (voterB b n)) w)) := fun w => r_voter b ga gc pa pc n w
  by_cases e0 : toldE b (voterB b n) = 0
  · rw [if_pos e0]
    obtain ⟨hv, hvb, -⟩ := toldE_zero e0
    rw [toldL_zero e0, e0] at HT
    have hV := valid_V hv
    have hn := inB_of ((voterB_of hv n).symm.trans hvb)
    have HS : Hid (∀ (w' : World) (a : Option Addr) (c : Nat), IntsAt w' a (TL b) → Calls Try.prog 61 #[.slice a (TL b).length c, .int .i64 n] w' (Same (.int .i64 (cntH (TL b) n.toNat : Nat)) w')) :=
      fun w' a c hI => r_whites (TL b) (TL_small hv) a c n n.toNat (by omega) (by omega) (by have := TL_len hv; omega) w' hI
    have HGr := Lib.hid (r_graded ((cntH (TL b) n.toNat : Nat) : Int) ((TL b).length : Nat) (cntH (TL b) n.toNat) (TL b).length rfl rfl)
    unfold bv at *
    generalize gradedI (cntH (TL b) n.toNat) (TL b).length = gr at *
    generalize cntH (TL b) n.toNat = cn at *
    generalize voterB b n = vb at *
    generalize TL b = T at *
    clear hg hp hgl hpl e0 hv hV hn hvb
    go_enter Try.func17, Try.ntmps17
    go_wp2_with fail
    refine Ord.wp_region [(0, 1), (1, 0), (2, 0), (3, 2), (4, 2), (5, 0), (6, 0), (7, 0), (8, 0), (9, 0)] (fun W => Below (w.heap.size + 1) (w.alloc (.cells #[.int .i64 b.V, .int .i64 b.nd, .int .i64 b.lo, .int .i64 b.hi, .slice ga b.gs.length gc, .slice pa b.ps.length pc] 27)).drew W) (by kernel_rfl) (by kernel_rfl) (fun c a d v w h => by cases d <;> exact h) (Below.refl _ _) ?_
    go_wp2_with (first
      | ((with_reducible refine Ord.at_calm ?_); refine Ord.calm_skip rfl rfl (fun K hK => ?_)) | with_reducible refine Ord.walk_calm rfl rfl (fun K hK => ?_) | ((with_reducible refine Ord.at_wild ?_); refine Ord.wild_fieldAddr rfl rfl (fun W => by simp [go_sem]; rfl) (fun K hK => ?_)) | ((with_reducible refine Ord.at_wild ?_); refine Ord.wild_move rfl rfl (fun K hK => ?_)) | ((with_reducible refine Ord.at_wild ?_); refine Ord.wild_nilCheck rfl rfl (fun K hK => ?_)) | with_reducible refine Ord.walk_eff rfl (by first | (simp; done) | assumption | (go_simp; done) | (repeat (first | assumption | exact Below.refl _ _ | refine Below.drew ?_ | refine Below.alloc ?_ (by first | omega | (simp; done) | (simp; omega)) _ | refine Below.setCell ?_ (by first | omega | (simp; done) | (simp; omega)) _ | refine Below.trans ?_ (Below.mono (by assumption) (by first | omega | (simp; done) | (simp; omega)))))) (fun K hK => ?_) | with_reducible refine Ord.at_fork ?_ ?_ | with_reducible refine Ord.walk_nil ?_ | (with_reducible refine Ord.next_of (by first | (simp; done) | (go_simp; done) | (repeat (first | assumption | exact Below.refl _ _ | refine Below.drew ?_ | refine Below.alloc ?_ (by first | omega | (simp; done) | (simp; omega)) _ | refine Below.setCell ?_ (by first | omega | (simp; done) | (simp; omega)) _ | refine Below.trans ?_ (Below.mono (by assumption) (by first | omega | (simp; done) | (simp; omega)))))) (fun _ => ?_))
      | ((with_reducible refine Ord.at_wild ?_); refine Ord.wild_load (ad := ⟨w.heap.size, 0, none⟩) (.agg #[.int .i64 b.V, .int .i64 b.nd, .int .i64 b.lo, .int .i64 b.hi, .slice ga b.gs.length gc, .slice pa b.ps.length pc]) rfl rfl ?_ ?_; (focus (intro W hW; obtain ⟨cW, _, zW⟩ := below_rules hW rfl; simp [go_sem, cW, ↓IntWalk.iteOmega]; done)); intro K hK)
      | (go_at_call 59; refine (HV.out _).mono ?_; rintro e w0 ⟨rfl, hb0⟩; obtain ⟨c0, f0, z0⟩ := after hb0 (by simp; rfl))
      | (go_at_call 49; refine (HT.out _ ?_).mono ?_; (focus (repeat (first | assumption | exact Below.refl _ _ | refine Below.drew ?_ | refine Below.alloc ?_ (by first | omega | (simp; done) | (simp; omega)) _ | refine Below.setCell ?_ (by first | omega | (simp; done) | (simp; omega)) _ | refine Below.trans ?_ (Below.mono (by assumption) (by first | omega | (simp; done) | (simp; omega)))))); rintro e w1 ⟨a, c, rfl, hI, hb1⟩; obtain ⟨c1, f1, z1⟩ := after hb1 rfl)
      | (go_at_call 61; refine (HS.out _ _ _ hI).mono ?_; rintro e w2 ⟨rfl, rfl⟩)
      | (go_at_call 60; refine (HGr.out _).mono ?_; rintro e w2 ⟨rfl, rfl⟩))
    go_ret2
    refine ⟨rfl, ?_⟩
    (repeat (first | assumption | exact Below.refl _ _ | refine Below.drew ?_ | refine Below.alloc ?_ (by first | omega | (simp; done) | (simp; omega)) _ | refine Below.setCell ?_ (by first | omega | (simp; done) | (simp; omega)) _ | refine Below.trans ?_ (Below.mono (by assumption) (by first | omega | (simp; done) | (simp; omega)))))
  · rw [if_neg e0]
    have hne : (toldE b (voterB b n) == 0) = false := by simpa using e0
    have hl0 : toldL b (voterB b n) = [] := by simp [toldL, e0]
    rw [hl0] at HT
    unfold bv at *
    generalize toldE b (voterB b n) = te at *
    generalize voterB b n = vb at *
    clear hg hp hgl hpl e0
    go_enter Try.func17, Try.ntmps17
    go_wp2_with fail
    refine Ord.wp_region [(0, 1), (1, 0), (2, 0), (3, 2), (4, 2), (5, 0), (6, 0), (7, 0), (8, 0), (9, 0)] (fun W => Below (w.heap.size + 1) (w.alloc (.cells #[.int .i64 b.V, .int .i64 b.nd, .int .i64 b.lo, .int .i64 b.hi, .slice ga b.gs.length gc, .slice pa b.ps.length pc] 27)).drew W) (by kernel_rfl) (by kernel_rfl) (fun c a d v w h => by cases d <;> exact h) (Below.refl _ _) ?_
    go_wp2_with (first
      | ((with_reducible refine Ord.at_calm ?_); refine Ord.calm_skip rfl rfl (fun K hK => ?_)) | with_reducible refine Ord.walk_calm rfl rfl (fun K hK => ?_) | ((with_reducible refine Ord.at_wild ?_); refine Ord.wild_fieldAddr rfl rfl (fun W => by simp [go_sem]; rfl) (fun K hK => ?_)) | ((with_reducible refine Ord.at_wild ?_); refine Ord.wild_move rfl rfl (fun K hK => ?_)) | ((with_reducible refine Ord.at_wild ?_); refine Ord.wild_nilCheck rfl rfl (fun K hK => ?_)) | with_reducible refine Ord.walk_eff rfl (by first | (simp; done) | assumption | (go_simp; done) | (repeat (first | assumption | exact Below.refl _ _ | refine Below.drew ?_ | refine Below.alloc ?_ (by first | omega | (simp; done) | (simp; omega)) _ | refine Below.setCell ?_ (by first | omega | (simp; done) | (simp; omega)) _ | refine Below.trans ?_ (Below.mono (by assumption) (by first | omega | (simp; done) | (simp; omega)))))) (fun K hK => ?_) | with_reducible refine Ord.at_fork ?_ ?_ | with_reducible refine Ord.walk_nil ?_ | (with_reducible refine Ord.next_of (by first | (simp; done) | (go_simp; done) | (repeat (first | assumption | exact Below.refl _ _ | refine Below.drew ?_ | refine Below.alloc ?_ (by first | omega | (simp; done) | (simp; omega)) _ | refine Below.setCell ?_ (by first | omega | (simp; done) | (simp; omega)) _ | refine Below.trans ?_ (Below.mono (by assumption) (by first | omega | (simp; done) | (simp; omega)))))) (fun _ => ?_))
      | ((with_reducible refine Ord.at_wild ?_); refine Ord.wild_load (ad := ⟨w.heap.size, 0, none⟩) (.agg #[.int .i64 b.V, .int .i64 b.nd, .int .i64 b.lo, .int .i64 b.hi, .slice ga b.gs.length gc, .slice pa b.ps.length pc]) rfl rfl ?_ ?_; (focus (intro W hW; obtain ⟨cW, _, zW⟩ := below_rules hW rfl; simp [go_sem, cW, ↓IntWalk.iteOmega]; done)); intro K hK)
      | (go_at_call 59; refine (HV.out _).mono ?_; rintro e w0 ⟨rfl, hb0⟩; obtain ⟨c0, f0, z0⟩ := after hb0 (by simp; rfl))
      | (go_at_call 49; refine (HT.out _ ?_).mono ?_; (focus (repeat (first | assumption | exact Below.refl _ _ | refine Below.drew ?_ | refine Below.alloc ?_ (by first | omega | (simp; done) | (simp; omega)) _ | refine Below.setCell ?_ (by first | omega | (simp; done) | (simp; omega)) _ | refine Below.trans ?_ (Below.mono (by assumption) (by first | omega | (simp; done) | (simp; omega)))))); rintro e w1 ⟨a, c, rfl, hI, hb1⟩; obtain ⟨c1, f1, z1⟩ := after hb1 rfl))
    go_ret2
    refine ⟨rfl, ?_⟩
    (repeat (first | assumption | exact Below.refl _ _ | refine Below.drew ?_ | refine Below.alloc ?_ (by first | omega | (simp; done) | (simp; omega)) _ | refine Below.setCell ?_ (by first | omega | (simp; done) | (simp; omega)) _ | refine Below.trans ?_ (Below.mono (by assumption) (by first | omega | (simp; done) | (simp; omega)))))

set_option maxHeartbeats 4000000 in
set_option maxRecDepth 100000 in
theorem r_Tell (b : Bn) (ga : Option Addr) (gc : Nat) (pa : Option Addr) (pc : Nat) (w : World) (hg : GsAt w ga b.gs) (hp : PsAt w pa b.ps)
    (hgl : b.gs.length ≤ 40) (hpl : b.ps.length ≤ 40) (n : Int) :
    Calls Try.prog 27 #[bv b ga gc pa pc, .int .i64 n] w
      (if toldE b (inB n 0 b.V) = 0 then (if withL (TL b) n = [] then Gives3 (.int .i64 0) (.int .i64 0) (.int .i64 4) w else Gives3 (.int .i64 (whiteM (withL (TL b) n) b.V.toNat : Nat)) (.int .i64 (blackM (withL (TL b) n) b.V.toNat : Nat)) (.int .i64 0) w)
       else Gives3 (.int .i64 0) (.int .i64 0) (.int .i64 (toldE b (inB n 0 b.V))) w) := by
  have HT : Hid (∀ w', Below w.heap.size w w' → Calls Try.prog 49 #[bv b ga gc pa pc, .bool (inB n 0 b.V)] w' (ToldAt (toldL b (inB n 0 b.V)) (toldE b (inB n 0 b.V)) w')) :=
    fun w' hb => r_told b ga gc pa pc w' (hg.below hb) (hp.below hb) hgl hpl (inB n 0 b.V)
  have HV : Hid (∀ w, Calls Try.prog 78 #[bv b ga gc pa pc, .int .i64 n] w (Gives (.bool (inB n 0 b.V)) w)) := fun w => r_number b ga gc pa pc n w
  by_cases e0 : toldE b (inB n 0 b.V) = 0
  · rw [if_pos e0]
    obtain ⟨hv, hvb, -⟩ := toldE_zero e0
    rw [toldL_zero e0, e0] at HT
    have hV := valid_V hv
    have hll := TL_len hv
    have HS : Hid (∀ (w' : World) (a : Option Addr) (c : Nat), IntsAt w' a (TL b) → Calls Try.prog 79 #[.slice a (TL b).length c, .int .i64 n] w' (GivesL (withL (TL b) n) w')) :=
      fun w' a c hI => r_with (TL b) (TL_small hv) a c n (by have := TL_len hv; omega) w' hI
    have hwl : (withL (TL b) n).length ≤ 256 := Nat.le_trans (List.length_filter_le _ _) hll
    have HU : Hid (∀ (w' : World) (a : Option Addr) (c : Nat), IntsAt w' a (withL (TL b) n) → Calls Try.prog 64 #[bv b ga gc pa pc, .slice a (withL (TL b) n).length c] w' (Gives2 (.int .i64 (whiteM (withL (TL b) n) b.V.toNat : Nat)) (.int .i64 (blackM (withL (TL b) n) b.V.toNat : Nat)) w')) :=
      fun w' a c hI => r_sure b ga gc pa pc (by omega) (withL (TL b) n) ((TL_small hv).filter _) a c (by omega) w' hI
    have HW : Hid ((((withL (TL b) n).length : Nat) : Int) = 0 ↔ withL (TL b) n = []) := by
      show _ ↔ _
      rw [← List.length_eq_zero_iff]; omega
    unfold bv at *
    generalize whiteM (withL (TL b) n) b.V.toNat = wm at *
    generalize blackM (withL (TL b) n) b.V.toNat = bm at *
    generalize withL (TL b) n = wl at *
    generalize inB n 0 b.V = vb at *
    generalize TL b = T at *
    clear hg hp hgl hpl e0 hv hV hvb
    by_cases hw0 : wl = []
    · rw [if_pos hw0]
      subst hw0
      clear HW HU
      go_enter Try.func27, Try.ntmps27
      go_wp2_with fail
      refine Ord.wp_region [(0, 1), (1, 0), (2, 0), (3, 2), (4, 2), (5, 0), (6, 0), (7, 0), (8, 0), (9, 0)] (fun W => Below (w.heap.size + 1) (w.alloc (.cells #[.int .i64 b.V, .int .i64 b.nd, .int .i64 b.lo, .int .i64 b.hi, .slice ga b.gs.length gc, .slice pa b.ps.length pc] 27)).drew W) (by kernel_rfl) (by kernel_rfl) (fun c a d v w h => by cases d <;> exact h) (Below.refl _ _) ?_
      go_wp2_with (first
        | ((with_reducible refine Ord.at_calm ?_); refine Ord.calm_skip rfl rfl (fun K hK => ?_)) | with_reducible refine Ord.walk_calm rfl rfl (fun K hK => ?_) | ((with_reducible refine Ord.at_wild ?_); refine Ord.wild_fieldAddr rfl rfl (fun W => by simp [go_sem]; rfl) (fun K hK => ?_)) | ((with_reducible refine Ord.at_wild ?_); refine Ord.wild_move rfl rfl (fun K hK => ?_)) | ((with_reducible refine Ord.at_wild ?_); refine Ord.wild_nilCheck rfl rfl (fun K hK => ?_)) | with_reducible refine Ord.walk_eff rfl (by first | (simp; done) | assumption | (go_simp; done) | (repeat (first | assumption | exact Below.refl _ _ | refine Below.drew ?_ | refine Below.alloc ?_ (by first | omega | (simp; done) | (simp; omega)) _ | refine Below.setCell ?_ (by first | omega | (simp; done) | (simp; omega)) _ | refine Below.trans ?_ (Below.mono (by assumption) (by first | omega | (simp; done) | (simp; omega)))))) (fun K hK => ?_) | with_reducible refine Ord.at_fork ?_ ?_ | with_reducible refine Ord.walk_nil ?_ | (with_reducible refine Ord.next_of (by first | (simp; done) | (go_simp; done) | (repeat (first | assumption | exact Below.refl _ _ | refine Below.drew ?_ | refine Below.alloc ?_ (by first | omega | (simp; done) | (simp; omega)) _ | refine Below.setCell ?_ (by first | omega | (simp; done) | (simp; omega)) _ | refine Below.trans ?_ (Below.mono (by assumption) (by first | omega | (simp; done) | (simp; omega)))))) (fun _ => ?_))
        | ((with_reducible refine Ord.at_wild ?_); refine Ord.wild_load (ad := ⟨w.heap.size, 0, none⟩) (.agg #[.int .i64 b.V, .int .i64 b.nd, .int .i64 b.lo, .int .i64 b.hi, .slice ga b.gs.length gc, .slice pa b.ps.length pc]) rfl rfl ?_ ?_; (focus (intro W hW; obtain ⟨cW, _, zW⟩ := below_rules hW rfl; simp [go_sem, cW, ↓IntWalk.iteOmega]; done)); intro K hK)
        | (go_at_call 78; refine (HV.out _).mono ?_; rintro e w0 ⟨rfl, hb0⟩; obtain ⟨c0, f0, z0⟩ := after hb0 (by simp; rfl))
        | (go_at_call 49; refine (HT.out _ ?_).mono ?_; (focus (repeat (first | assumption | exact Below.refl _ _ | refine Below.drew ?_ | refine Below.alloc ?_ (by first | omega | (simp; done) | (simp; omega)) _ | refine Below.setCell ?_ (by first | omega | (simp; done) | (simp; omega)) _ | refine Below.trans ?_ (Below.mono (by assumption) (by first | omega | (simp; done) | (simp; omega)))))); rintro e w1 ⟨a, c, rfl, hI, hb1⟩; obtain ⟨c1, f1, z1⟩ := after hb1 rfl)
        | (go_at_call 79; refine (HS.out _ _ _ hI).mono ?_; rintro e w2 ⟨a2, cc2, rfl, hI2, hb2⟩; obtain ⟨c2, f2, z2⟩ := after hb2 rfl))
      go_ret3
      refine ⟨rfl, ?_⟩
      (repeat (first | assumption | exact Below.refl _ _ | refine Below.drew ?_ | refine Below.alloc ?_ (by first | omega | (simp; done) | (simp; omega)) _ | refine Below.setCell ?_ (by first | omega | (simp; done) | (simp; omega)) _ | refine Below.trans ?_ (Below.mono (by assumption) (by first | omega | (simp; done) | (simp; omega)))))
    · rw [if_neg hw0]
      have hw1 : (((wl.length : Nat) : Int) == 0) = false := by have := mt HW.out.1 hw0; simpa using this
      clear HW hw0
      go_enter Try.func27, Try.ntmps27
      go_wp2_with fail
      refine Ord.wp_region [(0, 1), (1, 0), (2, 0), (3, 2), (4, 2), (5, 0), (6, 0), (7, 0), (8, 0), (9, 0)] (fun W => Below (w.heap.size + 1) (w.alloc (.cells #[.int .i64 b.V, .int .i64 b.nd, .int .i64 b.lo, .int .i64 b.hi, .slice ga b.gs.length gc, .slice pa b.ps.length pc] 27)).drew W) (by kernel_rfl) (by kernel_rfl) (fun c a d v w h => by cases d <;> exact h) (Below.refl _ _) ?_
      go_wp2_with (first
        | ((with_reducible refine Ord.at_calm ?_); refine Ord.calm_skip rfl rfl (fun K hK => ?_)) | with_reducible refine Ord.walk_calm rfl rfl (fun K hK => ?_) | ((with_reducible refine Ord.at_wild ?_); refine Ord.wild_fieldAddr rfl rfl (fun W => by simp [go_sem]; rfl) (fun K hK => ?_)) | ((with_reducible refine Ord.at_wild ?_); refine Ord.wild_move rfl rfl (fun K hK => ?_)) | ((with_reducible refine Ord.at_wild ?_); refine Ord.wild_nilCheck rfl rfl (fun K hK => ?_)) | with_reducible refine Ord.walk_eff rfl (by first | (simp; done) | assumption | (go_simp; done) | (repeat (first | assumption | exact Below.refl _ _ | refine Below.drew ?_ | refine Below.alloc ?_ (by first | omega | (simp; done) | (simp; omega)) _ | refine Below.setCell ?_ (by first | omega | (simp; done) | (simp; omega)) _ | refine Below.trans ?_ (Below.mono (by assumption) (by first | omega | (simp; done) | (simp; omega)))))) (fun K hK => ?_) | with_reducible refine Ord.at_fork ?_ ?_ | with_reducible refine Ord.walk_nil ?_ | (with_reducible refine Ord.next_of (by first | (simp; done) | (go_simp; done) | (repeat (first | assumption | exact Below.refl _ _ | refine Below.drew ?_ | refine Below.alloc ?_ (by first | omega | (simp; done) | (simp; omega)) _ | refine Below.setCell ?_ (by first | omega | (simp; done) | (simp; omega)) _ | refine Below.trans ?_ (Below.mono (by assumption) (by first | omega | (simp; done) | (simp; omega)))))) (fun _ => ?_))
        | ((with_reducible refine Ord.at_wild ?_); refine Ord.wild_load (ad := ⟨w.heap.size, 0, none⟩) (.agg #[.int .i64 b.V, .int .i64 b.nd, .int .i64 b.lo, .int .i64 b.hi, .slice ga b.gs.length gc, .slice pa b.ps.length pc]) rfl rfl ?_ ?_; (focus (intro W hW; obtain ⟨cW, _, zW⟩ := below_rules hW rfl; simp [go_sem, cW, ↓IntWalk.iteOmega]; done)); intro K hK)
        | (go_at_call 78; refine (HV.out _).mono ?_; rintro e w0 ⟨rfl, hb0⟩; obtain ⟨c0, f0, z0⟩ := after hb0 (by simp; rfl))
        | (go_at_call 49; refine (HT.out _ ?_).mono ?_; (focus (repeat (first | assumption | exact Below.refl _ _ | refine Below.drew ?_ | refine Below.alloc ?_ (by first | omega | (simp; done) | (simp; omega)) _ | refine Below.setCell ?_ (by first | omega | (simp; done) | (simp; omega)) _ | refine Below.trans ?_ (Below.mono (by assumption) (by first | omega | (simp; done) | (simp; omega)))))); rintro e w1 ⟨a, c, rfl, hI, hb1⟩; obtain ⟨c1, f1, z1⟩ := after hb1 rfl)
        | (go_at_call 79; refine (HS.out _ _ _ hI).mono ?_; rintro e w2 ⟨a2, cc2, rfl, hI2, hb2⟩; obtain ⟨c2, f2, z2⟩ := after hb2 rfl)
        | (go_at_call 64; refine (HU.out _ _ _ hI2).mono ?_; rintro e w3 ⟨rfl, hb3⟩))
      go_ret3
      refine ⟨rfl, ?_⟩
      (repeat (first | assumption | exact Below.refl _ _ | refine Below.drew ?_ | refine Below.alloc ?_ (by first | omega | (simp; done) | (simp; omega)) _ | refine Below.setCell ?_ (by first | omega | (simp; done) | (simp; omega)) _ | refine Below.trans ?_ (Below.mono (by assumption) (by first | omega | (simp; done) | (simp; omega)))))
  · rw [if_neg e0]
    have hne : (toldE b (inB n 0 b.V) == 0) = false := by simpa using e0
    have hl0 : toldL b (inB n 0 b.V) = [] := by simp [toldL, e0]
    rw [hl0] at HT
    unfold bv at *
    generalize toldE b (inB n 0 b.V) = te at *
    generalize inB n 0 b.V = vb at *
    clear hg hp hgl hpl e0
    go_enter Try.func27, Try.ntmps27
    go_wp2_with fail
    refine Ord.wp_region [(0, 1), (1, 0), (2, 0), (3, 2), (4, 2), (5, 0), (6, 0), (7, 0), (8, 0), (9, 0)] (fun W => Below (w.heap.size + 1) (w.alloc (.cells #[.int .i64 b.V, .int .i64 b.nd, .int .i64 b.lo, .int .i64 b.hi, .slice ga b.gs.length gc, .slice pa b.ps.length pc] 27)).drew W) (by kernel_rfl) (by kernel_rfl) (fun c a d v w h => by cases d <;> exact h) (Below.refl _ _) ?_
    go_wp2_with (first
      | ((with_reducible refine Ord.at_calm ?_); refine Ord.calm_skip rfl rfl (fun K hK => ?_)) | with_reducible refine Ord.walk_calm rfl rfl (fun K hK => ?_) | ((with_reducible refine Ord.at_wild ?_); refine Ord.wild_fieldAddr rfl rfl (fun W => by simp [go_sem]; rfl) (fun K hK => ?_)) | ((with_reducible refine Ord.at_wild ?_); refine Ord.wild_move rfl rfl (fun K hK => ?_)) | ((with_reducible refine Ord.at_wild ?_); refine Ord.wild_nilCheck rfl rfl (fun K hK => ?_)) | with_reducible refine Ord.walk_eff rfl (by first | (simp; done) | assumption | (go_simp; done) | (repeat (first | assumption | exact Below.refl _ _ | refine Below.drew ?_ | refine Below.alloc ?_ (by first | omega | (simp; done) | (simp; omega)) _ | refine Below.setCell ?_ (by first | omega | (simp; done) | (simp; omega)) _ | refine Below.trans ?_ (Below.mono (by assumption) (by first | omega | (simp; done) | (simp; omega)))))) (fun K hK => ?_) | with_reducible refine Ord.at_fork ?_ ?_ | with_reducible refine Ord.walk_nil ?_ | (with_reducible refine Ord.next_of (by first | (simp; done) | (go_simp; done) | (repeat (first | assumption | exact Below.refl _ _ | refine Below.drew ?_ | refine Below.alloc ?_ (by first | omega | (simp; done) | (simp; omega)) _ | refine Below.setCell ?_ (by first | omega | (simp; done) | (simp; omega)) _ | refine Below.trans ?_ (Below.mono (by assumption) (by first | omega | (simp; done) | (simp; omega)))))) (fun _ => ?_))
      | ((with_reducible refine Ord.at_wild ?_); refine Ord.wild_load (ad := ⟨w.heap.size, 0, none⟩) (.agg #[.int .i64 b.V, .int .i64 b.nd, .int .i64 b.lo, .int .i64 b.hi, .slice ga b.gs.length gc, .slice pa b.ps.length pc]) rfl rfl ?_ ?_; (focus (intro W hW; obtain ⟨cW, _, zW⟩ := below_rules hW rfl; simp [go_sem, cW, ↓IntWalk.iteOmega]; done)); intro K hK)
      | (go_at_call 78; refine (HV.out _).mono ?_; rintro e w0 ⟨rfl, hb0⟩; obtain ⟨c0, f0, z0⟩ := after hb0 (by simp; rfl))
      | (go_at_call 49; refine (HT.out _ ?_).mono ?_; (focus (repeat (first | assumption | exact Below.refl _ _ | refine Below.drew ?_ | refine Below.alloc ?_ (by first | omega | (simp; done) | (simp; omega)) _ | refine Below.setCell ?_ (by first | omega | (simp; done) | (simp; omega)) _ | refine Below.trans ?_ (Below.mono (by assumption) (by first | omega | (simp; done) | (simp; omega)))))); rintro e w1 ⟨a, c, rfl, hI, hb1⟩; obtain ⟨c1, f1, z1⟩ := after hb1 rfl))
    go_ret3
    refine ⟨rfl, ?_⟩
    (repeat (first | assumption | exact Below.refl _ _ | refine Below.drew ?_ | refine Below.alloc ?_ (by first | omega | (simp; done) | (simp; omega)) _ | refine Below.setCell ?_ (by first | omega | (simp; done) | (simp; omega)) _ | refine Below.trans ?_ (Below.mono (by assumption) (by first | omega | (simp; done) | (simp; omega)))))
end Go.Proofs.Ytjbjmoghloabpaa
