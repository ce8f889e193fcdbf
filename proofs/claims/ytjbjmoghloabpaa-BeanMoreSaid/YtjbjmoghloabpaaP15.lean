/- Parts of a proof: BnV, BnW, BnX, BnZ, BnY, BnAA. -/
import Derived.Test.YtjbjmoghloabpaaP10
import Derived.Test.YtjbjmoghloabpaaP13
import Derived.Test.YtjbjmoghloabpaaP02
set_option linter.unusedVariables false
set_option linter.unusedSimpArgs false
namespace Go.Proofs.Ytjbjmoghloabpaa
open Go.RowKit Go.Proofs
attribute [local irreducible] Ord.walk

set_option maxHeartbeats 4000000 in
set_option maxRecDepth 100000 in
theorem b_told_no {w : World} {v : Nat} {b : Bn} {V : Nat} {ks : List Kn} {ga : Option Addr} {gc : Nat} {pa : Option Addr} {pc : Nat} {ka : Option Addr} {kc : Nat} (h : Vt w v b V ks ga gc pa pc ka kc) (hs : csum (countN V b.lo b.hi ks) = 0) :
    Calls Try.prog 47 #[.pointer (some ⟨v, 0, none⟩)] w (Stops 10 w) := by
  have hle := countN_sum V h.hV8 b.lo b.hi ks
  have HE := Lib.hid (fun w' (hb : Below w.heap.size w w') => (h.below hb).every)
  have HC := Lib.hid (fun w' (hb : Below w.heap.size w w') => (h.below hb).all)
  have HA := Lib.hid (b_all (countN V b.lo b.hi ks) (by omega))
  have HM := Lib.hid b_must_no
  have q1 := cv_size (countN V b.lo b.hi ks)
  have q2 := cv_ones (countN V b.lo b.hi ks)
  rw [hs] at HA
  have hcv : Hid (cv (countN V b.lo b.hi ks) = .agg (ocells (countN V b.lo b.hi ks))) := rfl
  clear hs hle
  generalize cv (countN V b.lo b.hi ks) = CV at *
  generalize ocells (countN V b.lo b.hi ks) = OC at *
  obtain rfl := hcv.out
  go_enter Try.func47, Try.ntmps47
  go_wp2_with (first
    | (go_at_call 57; refine (HE.out _ (by (repeat (first | assumption | exact Below.refl _ _ | refine Below.drew ?_ | refine Below.alloc ?_ (by first | omega | (simp; done) | (simp; omega)) _ | refine Below.setCell ?_ (by first | omega | (simp; done) | (simp; omega)) _ | refine Below.trans ?_ (Below.mono (by assumption) (by first | omega | (simp; done) | (simp; omega))))))).mono ?_; rintro e w' ⟨rfl, rfl⟩)
    | (go_at_call 56; refine (HC.out _ (by (repeat (first | assumption | exact Below.refl _ _ | refine Below.drew ?_ | refine Below.alloc ?_ (by first | omega | (simp; done) | (simp; omega)) _ | refine Below.setCell ?_ (by first | omega | (simp; done) | (simp; omega)) _ | refine Below.trans ?_ (Below.mono (by assumption) (by first | omega | (simp; done) | (simp; omega))))))).mono ?_; rintro e w1 ⟨rfl, hb1⟩)
    | (go_at_call 54; refine (HA.out _).mono ?_; rintro e w3 ⟨rfl, hb3⟩; have b3 := h2.blk.below hb3 h2.blk.lt; have b2 := h2.other (((Blk.new w (ocells fun _ => 0) 62).below hb1 (by simp)).alloc _) (by have := hb1.size; simp at this; omega); have b0 := b2.below hb3 b2.lt)
    | (go_at_call 76; refine at_stop ?_)
    | (refine wpList_store_blk 62 (.tmp 3) (.tmp 7) agg_counts rfl rfl rfl rfl (Blk.new _ _ _) rfl q1 q2 ?_; intro w2 h2)
    | (refine wpList_load_blk 62 (.tmp 3) agg_counts rfl rfl rfl b3 q1 ?_)
    | (refine wpList_load_blk 62 (.tmp 3) agg_counts rfl rfl rfl h2.blk q1 ?_))
  unfold Stop
  refine (HM.out _ _).mono ?_
  rintro e w' ⟨rfl, rfl⟩
  refine ⟨rfl, rfl, ?_⟩
  have hb4 : Below w.heap.size w w2 := h2.below ((((Below.refl _ _).alloc (Nat.le_refl _) _).trans (hb1.mono (by simp))).alloc (by have := hb1.size; simp at this; omega) _) (by have := hb1.size; simp at this; omega)
  exact hb4.trans (hb3.mono hb4.size)
end Go.Proofs.Ytjbjmoghloabpaa
set_option linter.unusedVariables false
set_option linter.unusedSimpArgs false
namespace Go.Proofs.Ytjbjmoghloabpaa
open Go.RowKit Go.Proofs
attribute [local irreducible] Ord.walk

def Opened (b : Bn) (ga : Option Addr) (gc : Nat) (pa : Option Addr) (pc : Nat) (w : World) (e : Ending) (w' : World) : Prop :=
  ∃ v ka kc, e = .returned (.pointer (some ⟨v, 0, none⟩)) ∧ Vt w' v b b.V.toNat (knOf b) ga gc pa pc ka kc ∧ Below w.heap.size w w' ∧ w.heap.size ≤ v
theorem opened {b : Bn} {ga : Option Addr} {gc : Nat} {pa : Option Addr} {pc : Nat} {w : World} (hv : valid b = true) {e : Ending} {w' : World} (h : OpenPost b true ga gc pa pc w e w') : Opened b ga gc pa pc w e w' := by
  unfold OpenPost at h
  rw [if_neg (by rw [hv]; simp), if_neg (by simp)] at h
  exact h
set_option maxHeartbeats 4000000 in
set_option maxRecDepth 100000 in
theorem b_Count_yes (b : Bn) (ga : Option Addr) (gc : Nat) (pa : Option Addr) (pc : Nat) (w : World) (hg : GsAt w ga b.gs) (hp : PsAt w pa b.ps) (hv : valid b = true) :
    Calls Try.prog 24 #[bv b ga gc pa pc] w (Gives2 (.int .i64 (csum (countN b.V.toNat b.lo b.hi (knOf b)) : Nat)) (.int .i64 0) w) := by
  have hmf : ∀ (fn : Fn) (first cap : Array Value) (w : World), (Instr.makeFunc fn first cap).run Try.prog w = .ok (.func fn first cap) w := fun _ _ _ _ => rfl
  have HO := Lib.hid (fun w' (hb : Below w.heap.size w w') => b_open_yes b ga gc pa pc 46 #[] true w' (hg.below hb) (hp.below hb) (valid_head hv) (fun args W => Try.call46 args W) (fun w2 v _ _ => b_always _ _) |>.mono fun _ _ h => opened hv h)
  have HC := Lib.hid catch_Count
  have HA := Lib.hid b_all
  unfold bv at *
  go_enter_defers Try.func24, Try.ntmps24
  go_wp2_with (first
    | (go_at_call 45; refine (HO.out _ (by (repeat (first | assumption | exact Below.refl _ _ | refine Below.drew ?_ | refine Below.alloc ?_ (by first | omega | (simp; done) | (simp; omega)) _ | refine Below.setCell ?_ (by first | omega | (simp; done) | (simp; omega)) _ | refine Below.trans ?_ (Below.mono (by assumption) (by first | omega | (simp; done) | (simp; omega))))))).mono ?_; rintro e w1 ⟨v, ka, kc, rfl, hvt, hb1, hle⟩; have HE := Lib.hid hvt.every; have HT := Lib.hid hvt.all; have b3 : Blk w1 (w.heap.size + 1) #[.int .i64 0] 30 := (Blk.new' _ _ _ _ (by simp)).below hb1 (by first | omega | (simp; done) | (simp; omega)))
    | (go_at_call 57; refine HE.out.mono ?_; rintro e w' ⟨rfl, rfl⟩)
    | (go_at_call 56; refine HT.out.mono ?_; rintro e w2 ⟨rfl, hb2⟩)
    | (go_at_call 54; refine (HA.out _ (by have := countN_sum b.V.toNat hvt.hV8 b.lo b.hi (knOf b); omega) _).mono ?_; rintro e w3 ⟨rfl, hb3⟩; have b4 := (b3.below hb2 b3.lt).below hb3 (b3.below hb2 b3.lt).lt; have r4 := b4.cell; have f4 := b4.free))
  refine leaves_cons (f := 70) (args := #[.pointer (some ⟨w.heap.size + 1, 0, none⟩)]) (by simp) (by simp [go_sem]) ?_
  refine ((HC.out).2 (w.heap.size + 1) _).mono ?_
  rintro e u' w4 ⟨rfl, rfl, rfl⟩
  have b5 := b4.set 0 (.int .i64 0)
  have r5 := b5.cell
  have hB : Below w.heap.size w w3 := ((((Below.refl _ _).alloc (Nat.le_refl _) _).alloc (by first | omega | (simp; done) | (simp; omega)) _).trans (hb1.mono (by first | omega | (simp; done) | (simp; omega)))).trans ((hb2.mono (by have := hb1.size; simp at this; omega)).trans (hb3.mono (by have := hb1.size; have := hb2.size; simp at *; omega)))
  simp only [settle, Leaves]
  simp [Leaves, settle, results, Try.results24, go_sem, r5]
  exact ⟨rfl, hB.setCell (by simp) _⟩
end Go.Proofs.Ytjbjmoghloabpaa
set_option linter.unusedVariables false
set_option linter.unusedSimpArgs false
namespace Go.Proofs.Ytjbjmoghloabpaa
open Go.RowKit Go.Proofs
attribute [local irreducible] Ord.walk

/-- open panics. -/
theorem b_open_stop (b : Bn) (ga : Option Addr) (gc : Nat) (pa : Option Addr) (pc : Nat) (F : FuncId) (cap : Array Value) (isB : Bool) (w : World) (hg : GsAt w ga b.gs) (hp : PsAt w pa b.ps)
    (hgl : b.gs.length ≤ 9223372036854775807) (hpl : b.ps.length ≤ 9223372036854775807) (hE : chkE b isB ≠ 0)
    (hcf : ∀ (args : Array Value) (W : World), (callFunc F args).run Try.prog W = .ok (.enter F args) W) (HIS0 : ∀ w' v, Below w.heap.size w w' → w'.cell? ⟨v, 0, none⟩ = some (.int .i64 b.V) → Calls Try.prog F (#[.pointer (some ⟨v, 0, none⟩)] ++ cap) w' (Same (.bool isB) w')) :
    Calls Try.prog 45 #[bv b ga gc pa pc, .func (.func F) #[] cap] w (Stops (chkE b isB) w) := by
  cases hh : headOk b
  · have hv : valid b = false := headOk_no hh
    have : chkE b isB = 1 := by unfold chkE; rw [if_pos hv]
    rw [this]
    exact b_open_no b ga gc pa pc F cap w hgl hpl hh
  · refine (b_open_yes b ga gc pa pc F cap isB w hg hp hh hcf HIS0).mono fun e w' h => ?_
    unfold OpenPost at h
    unfold chkE at *
    by_cases hv : valid b = false
    · rw [if_pos hv] at h ⊢; exact h
    · rw [if_neg hv] at h hE ⊢
      by_cases hb : isB = false
      · rw [if_pos hb] at h ⊢; exact h
      · rw [if_neg hb] at hE; exact absurd rfl hE
/-- open returns a vote that is looked at. -/
theorem b_open_ok (b : Bn) (ga : Option Addr) (gc : Nat) (pa : Option Addr) (pc : Nat) (F : FuncId) (cap : Array Value) (w : World) (hg : GsAt w ga b.gs) (hp : PsAt w pa b.ps) (hv : valid b = true)
    (hcf : ∀ (args : Array Value) (W : World), (callFunc F args).run Try.prog W = .ok (.enter F args) W) (HIS0 : ∀ w' v, Below w.heap.size w w' → w'.cell? ⟨v, 0, none⟩ = some (.int .i64 b.V) → Calls Try.prog F (#[.pointer (some ⟨v, 0, none⟩)] ++ cap) w' (Same (.bool true) w')) :
    Calls Try.prog 45 #[bv b ga gc pa pc, .func (.func F) #[] cap] w (Opened b ga gc pa pc w) :=
  (b_open_yes b ga gc pa pc F cap true w hg hp (valid_head hv) hcf HIS0).mono fun e w' h => opened hv h
end Go.Proofs.Ytjbjmoghloabpaa
set_option linter.unusedVariables false
set_option linter.unusedSimpArgs false
namespace Go.Proofs.Ytjbjmoghloabpaa
open Go.RowKit Go.Proofs
attribute [local irreducible] Ord.walk

theorem b_is_white (v p : Nat) (V n : Int) (w : World) (h : w.cell? ⟨v, 0, none⟩ = some (.int .i64 V)) (hp : w.cell? ⟨p, 0, none⟩ = some (.int .i64 n)) :
    Calls Try.prog 52 #[.pointer (some ⟨v, 0, none⟩), .pointer (some ⟨p, 0, none⟩)] w (Same (.bool (inB n 0 (wrap64 (V - 1)))) w) := by
  have HV := Lib.hid (b_isVoter v V n w h)
  go_enter Try.func52, Try.ntmps52
  go_wp2_with (go_at_call 53; refine HV.out.mono ?_; rintro e w' ⟨rfl, rfl⟩)
  go_ret
  exact ⟨rfl, rfl⟩
theorem b_is_tell (v p : Nat) (V n : Int) (w : World) (h : w.cell? ⟨v, 0, none⟩ = some (.int .i64 V)) (hp : w.cell? ⟨p, 0, none⟩ = some (.int .i64 n)) :
    Calls Try.prog 74 #[.pointer (some ⟨v, 0, none⟩), .pointer (some ⟨p, 0, none⟩)] w (Same (.bool (inB n 0 V)) w) := by
  have HV := Lib.hid (b_isNumber v V n w h)
  go_enter Try.func74, Try.ntmps74
  go_wp2_with (go_at_call 75; refine HV.out.mono ?_; rintro e w' ⟨rfl, rfl⟩)
  go_ret
  exact ⟨rfl, rfl⟩
theorem b_is_same (v p q : Nat) (V n m : Int) (w : World) (h : w.cell? ⟨v, 0, none⟩ = some (.int .i64 V)) (hp : w.cell? ⟨p, 0, none⟩ = some (.int .i64 n)) (hq : w.cell? ⟨q, 0, none⟩ = some (.int .i64 m)) :
    Calls Try.prog 68 #[.pointer (some ⟨v, 0, none⟩), .pointer (some ⟨p, 0, none⟩), .pointer (some ⟨q, 0, none⟩)] w (Same (.bool (inB n 0 (wrap64 (V - 1)) && inB m 0 (wrap64 (V - 1)))) w) := by
  have HV := Lib.hid (fun x => b_isVoter v V x w h)
  cases hc : inB n 0 (wrap64 (V - 1))
  all_goals go_enter Try.func68, Try.ntmps68
  all_goals go_wp2_with (go_at_call 53; refine (HV.out _).mono ?_; rintro e w' ⟨rfl, rfl⟩)
  all_goals go_ret
  all_goals exact ⟨rfl, rfl⟩
end Go.Proofs.Ytjbjmoghloabpaa
set_option linter.unusedVariables false
set_option linter.unusedSimpArgs false
namespace Go.Proofs.Ytjbjmoghloabpaa
open Go.RowKit Go.Proofs
attribute [local irreducible] Ord.walk

set_option maxHeartbeats 4000000 in
set_option maxRecDepth 100000 in
theorem b_Count_stop (b : Bn) (ga : Option Addr) (gc : Nat) (pa : Option Addr) (pc : Nat) (w : World) (hg : GsAt w ga b.gs) (hp : PsAt w pa b.ps) (hgl : b.gs.length ≤ 9223372036854775807) (hpl : b.ps.length ≤ 9223372036854775807) (hE : chkE b true ≠ 0) :
    Calls Try.prog 24 #[bv b ga gc pa pc] w fun e w' => e = .returned (.tuple #[.int .i64 0, .int .i64 (chkE b true)]) ∧ Below w.heap.size w w' := by
  have hmf : ∀ (fn : Fn) (first cap : Array Value) (w : World), (Instr.makeFunc fn first cap).run Try.prog w = .ok (.func fn first cap) w := fun _ _ _ _ => rfl
  have HO := Lib.hid (fun w' (hb : Below w.heap.size w w') => b_open_stop b ga gc pa pc 46 #[] true w' (hg.below hb) (hp.below hb) hgl hpl hE (fun args W => Try.call46 args W) (fun w2 v _ _ => b_always _ _))
  generalize chkE b true = E at *
  have HC := Lib.hid catch_Count
  unfold bv at *
  go_enter_defers Try.func24, Try.ntmps24
  go_wp2_with (first
    | (go_at_call 45; refine (HO.out _ (by (repeat (first | assumption | exact Below.refl _ _ | refine Below.drew ?_ | refine Below.alloc ?_ (by first | omega | (simp; done) | (simp; omega)) _ | refine Below.setCell ?_ (by first | omega | (simp; done) | (simp; omega)) _ | refine Below.trans ?_ (Below.mono (by assumption) (by first | omega | (simp; done) | (simp; omega))))))).mono ?_; rintro e w1 ⟨rfl, hb1⟩; refine at_stop ?_))
  unfold Stop
  have b3 : Blk w1 (w.heap.size + 1) #[.int .i64 0] 30 := (Blk.new' _ _ _ _ (by simp)).below hb1 (by first | omega | (simp; done) | (simp; omega))
  have hB : Below w.heap.size w w1 := by (repeat (first | assumption | exact Below.refl _ _ | refine Below.drew ?_ | refine Below.alloc ?_ (by first | omega | (simp; done) | (simp; omega)) _ | refine Below.setCell ?_ (by first | omega | (simp; done) | (simp; omega)) _ | refine Below.trans ?_ (Below.mono (by assumption) (by first | omega | (simp; done) | (simp; omega)))))
  refine leaves_cons (f := 70) (args := #[.pointer (some ⟨w.heap.size + 1, 0, none⟩)]) (by simp) (by simp [go_sem]) ?_
  refine ((HC.out).1 E (w.heap.size + 1) _ b3).mono ?_
  rintro e u' w2 ⟨rfl, rfl, ho, hb⟩
  have hB2 : Below w.heap.size w w2 := hB.trans (ho.below hB.size (by simp))
  have r2 := hb.cell
  simp only [settle, Leaves]
  simp [Leaves, settle, results, Try.results24, go_sem, r2]
  exact hB2

set_option maxHeartbeats 4000000 in
set_option maxRecDepth 100000 in
theorem b_Passed_stop (b : Bn) (ga : Option Addr) (gc : Nat) (pa : Option Addr) (pc : Nat) (w : World) (hg : GsAt w ga b.gs) (hp : PsAt w pa b.ps) (hgl : b.gs.length ≤ 9223372036854775807) (hpl : b.ps.length ≤ 9223372036854775807) (hE : chkE b true ≠ 0) :
    Calls Try.prog 20 #[bv b ga gc pa pc] w fun e w' => e = .returned (.tuple #[.int .i64 0, .int .i64 (chkE b true)]) ∧ Below w.heap.size w w' := by
  have hmf : ∀ (fn : Fn) (first cap : Array Value) (w : World), (Instr.makeFunc fn first cap).run Try.prog w = .ok (.func fn first cap) w := fun _ _ _ _ => rfl
  have HO := Lib.hid (fun w' (hb : Below w.heap.size w w') => b_open_stop b ga gc pa pc 46 #[] true w' (hg.below hb) (hp.below hb) hgl hpl hE (fun args W => Try.call46 args W) (fun w2 v _ _ => b_always _ _))
  generalize chkE b true = E at *
  have HC := Lib.hid catch_Passed
  unfold bv at *
  go_enter_defers Try.func20, Try.ntmps20
  go_wp2_with (first
    | (go_at_call 45; refine (HO.out _ (by (repeat (first | assumption | exact Below.refl _ _ | refine Below.drew ?_ | refine Below.alloc ?_ (by first | omega | (simp; done) | (simp; omega)) _ | refine Below.setCell ?_ (by first | omega | (simp; done) | (simp; omega)) _ | refine Below.trans ?_ (Below.mono (by assumption) (by first | omega | (simp; done) | (simp; omega))))))).mono ?_; rintro e w1 ⟨rfl, hb1⟩; refine at_stop ?_))
  unfold Stop
  have b3 : Blk w1 (w.heap.size + 1) #[.int .i64 0] 30 := (Blk.new' _ _ _ _ (by simp)).below hb1 (by first | omega | (simp; done) | (simp; omega))
  have hB : Below w.heap.size w w1 := by (repeat (first | assumption | exact Below.refl _ _ | refine Below.drew ?_ | refine Below.alloc ?_ (by first | omega | (simp; done) | (simp; omega)) _ | refine Below.setCell ?_ (by first | omega | (simp; done) | (simp; omega)) _ | refine Below.trans ?_ (Below.mono (by assumption) (by first | omega | (simp; done) | (simp; omega)))))
  refine leaves_cons (f := 65) (args := #[.pointer (some ⟨w.heap.size + 1, 0, none⟩)]) (by simp) (by simp [go_sem]) ?_
  refine ((HC.out).1 E (w.heap.size + 1) _ b3).mono ?_
  rintro e u' w2 ⟨rfl, rfl, ho, hb⟩
  have hB2 : Below w.heap.size w w2 := hB.trans (ho.below hB.size (by simp))
  have r2 := hb.cell
  simp only [settle, Leaves]
  simp [Leaves, settle, results, Try.results20, go_sem, r2]
  exact hB2

set_option maxHeartbeats 4000000 in
set_option maxRecDepth 100000 in
theorem b_Known_stop (b : Bn) (ga : Option Addr) (gc : Nat) (pa : Option Addr) (pc : Nat) (w : World) (hg : GsAt w ga b.gs) (hp : PsAt w pa b.ps) (hgl : b.gs.length ≤ 9223372036854775807) (hpl : b.ps.length ≤ 9223372036854775807) (hE : chkE b true ≠ 0) :
    Calls Try.prog 18 #[bv b ga gc pa pc] w fun e w' => e = .returned (.tuple #[.int .i64 0, .int .i64 0, .int .i64 (chkE b true)]) ∧ Below w.heap.size w w' := by
  have hmf : ∀ (fn : Fn) (first cap : Array Value) (w : World), (Instr.makeFunc fn first cap).run Try.prog w = .ok (.func fn first cap) w := fun _ _ _ _ => rfl
  have HO := Lib.hid (fun w' (hb : Below w.heap.size w w') => b_open_stop b ga gc pa pc 46 #[] true w' (hg.below hb) (hp.below hb) hgl hpl hE (fun args W => Try.call46 args W) (fun w2 v _ _ => b_always _ _))
  generalize chkE b true = E at *
  have HC := Lib.hid catch_Known
  unfold bv at *
  go_enter_defers Try.func18, Try.ntmps18
  go_wp2_with (first
    | (go_at_call 45; refine (HO.out _ (by (repeat (first | assumption | exact Below.refl _ _ | refine Below.drew ?_ | refine Below.alloc ?_ (by first | omega | (simp; done) | (simp; omega)) _ | refine Below.setCell ?_ (by first | omega | (simp; done) | (simp; omega)) _ | refine Below.trans ?_ (Below.mono (by assumption) (by first | omega | (simp; done) | (simp; omega))))))).mono ?_; rintro e w1 ⟨rfl, hb1⟩; refine at_stop ?_))
  unfold Stop
  have b3 : Blk w1 (w.heap.size + 1) #[.int .i64 0] 30 := (Blk.new' _ _ _ _ (by simp)).below hb1 (by first | omega | (simp; done) | (simp; omega))
  have hB : Below w.heap.size w w1 := by (repeat (first | assumption | exact Below.refl _ _ | refine Below.drew ?_ | refine Below.alloc ?_ (by first | omega | (simp; done) | (simp; omega)) _ | refine Below.setCell ?_ (by first | omega | (simp; done) | (simp; omega)) _ | refine Below.trans ?_ (Below.mono (by assumption) (by first | omega | (simp; done) | (simp; omega)))))
  refine leaves_cons (f := 62) (args := #[.pointer (some ⟨w.heap.size + 1, 0, none⟩)]) (by simp) (by simp [go_sem]) ?_
  refine ((HC.out).1 E (w.heap.size + 1) _ b3).mono ?_
  rintro e u' w2 ⟨rfl, rfl, ho, hb⟩
  have hB2 : Below w.heap.size w w2 := hB.trans (ho.below hB.size (by simp))
  have r2 := hb.cell
  simp only [settle, Leaves]
  simp [Leaves, settle, results, Try.results18, go_sem, r2]
  exact hB2

set_option maxHeartbeats 4000000 in
set_option maxRecDepth 100000 in
theorem b_Quiet_stop (b : Bn) (ga : Option Addr) (gc : Nat) (pa : Option Addr) (pc : Nat) (w : World) (hg : GsAt w ga b.gs) (hp : PsAt w pa b.ps) (hgl : b.gs.length ≤ 9223372036854775807) (hpl : b.ps.length ≤ 9223372036854775807) (hE : chkE b true ≠ 0) :
    Calls Try.prog 28 #[bv b ga gc pa pc] w fun e w' => e = .returned (.tuple #[.int .i64 0, .int .i64 (chkE b true)]) ∧ Below w.heap.size w w' := by
  have hmf : ∀ (fn : Fn) (first cap : Array Value) (w : World), (Instr.makeFunc fn first cap).run Try.prog w = .ok (.func fn first cap) w := fun _ _ _ _ => rfl
  have HO := Lib.hid (fun w' (hb : Below w.heap.size w w') => b_open_stop b ga gc pa pc 46 #[] true w' (hg.below hb) (hp.below hb) hgl hpl hE (fun args W => Try.call46 args W) (fun w2 v _ _ => b_always _ _))
  generalize chkE b true = E at *
  have HC := Lib.hid catch_Quiet
  unfold bv at *
  go_enter_defers Try.func28, Try.ntmps28
  go_wp2_with (first
    | (go_at_call 45; refine (HO.out _ (by (repeat (first | assumption | exact Below.refl _ _ | refine Below.drew ?_ | refine Below.alloc ?_ (by first | omega | (simp; done) | (simp; omega)) _ | refine Below.setCell ?_ (by first | omega | (simp; done) | (simp; omega)) _ | refine Below.trans ?_ (Below.mono (by assumption) (by first | omega | (simp; done) | (simp; omega))))))).mono ?_; rintro e w1 ⟨rfl, hb1⟩; refine at_stop ?_))
  unfold Stop
  have b3 : Blk w1 (w.heap.size + 1) #[.int .i64 0] 30 := (Blk.new' _ _ _ _ (by simp)).below hb1 (by first | omega | (simp; done) | (simp; omega))
  have hB : Below w.heap.size w w1 := by (repeat (first | assumption | exact Below.refl _ _ | refine Below.drew ?_ | refine Below.alloc ?_ (by first | omega | (simp; done) | (simp; omega)) _ | refine Below.setCell ?_ (by first | omega | (simp; done) | (simp; omega)) _ | refine Below.trans ?_ (Below.mono (by assumption) (by first | omega | (simp; done) | (simp; omega)))))
  refine leaves_cons (f := 80) (args := #[.pointer (some ⟨w.heap.size + 1, 0, none⟩)]) (by simp) (by simp [go_sem]) ?_
  refine ((HC.out).1 E (w.heap.size + 1) _ b3).mono ?_
  rintro e u' w2 ⟨rfl, rfl, ho, hb⟩
  have hB2 : Below w.heap.size w w2 := hB.trans (ho.below hB.size (by simp))
  have r2 := hb.cell
  simp only [settle, Leaves]
  simp [Leaves, settle, results, Try.results28, go_sem, r2]
  exact hB2

set_option maxHeartbeats 4000000 in
set_option maxRecDepth 100000 in
theorem b_Clash_stop (b : Bn) (ga : Option Addr) (gc : Nat) (pa : Option Addr) (pc : Nat) (w : World) (hg : GsAt w ga b.gs) (hp : PsAt w pa b.ps) (hgl : b.gs.length ≤ 9223372036854775807) (hpl : b.ps.length ≤ 9223372036854775807) (hE : chkE b true ≠ 0) :
    Calls Try.prog 30 #[bv b ga gc pa pc] w fun e w' => e = .returned (.tuple #[.int .i64 0, .int .i64 (chkE b true)]) ∧ Below w.heap.size w w' := by
  have hmf : ∀ (fn : Fn) (first cap : Array Value) (w : World), (Instr.makeFunc fn first cap).run Try.prog w = .ok (.func fn first cap) w := fun _ _ _ _ => rfl
  have HO := Lib.hid (fun w' (hb : Below w.heap.size w w') => b_open_stop b ga gc pa pc 46 #[] true w' (hg.below hb) (hp.below hb) hgl hpl hE (fun args W => Try.call46 args W) (fun w2 v _ _ => b_always _ _))
  generalize chkE b true = E at *
  have HC := Lib.hid catch_Clash
  unfold bv at *
  go_enter_defers Try.func30, Try.ntmps30
  go_wp2_with (first
    | (go_at_call 45; refine (HO.out _ (by (repeat (first | assumption | exact Below.refl _ _ | refine Below.drew ?_ | refine Below.alloc ?_ (by first | omega | (simp; done) | (simp; omega)) _ | refine Below.setCell ?_ (by first | omega | (simp; done) | (simp; omega)) _ | refine Below.trans ?_ (Below.mono (by assumption) (by first | omega | (simp; done) | (simp; omega))))))).mono ?_; rintro e w1 ⟨rfl, hb1⟩; refine at_stop ?_))
  unfold Stop
  have b3 : Blk w1 (w.heap.size + 1) #[.int .i64 0] 30 := (Blk.new' _ _ _ _ (by simp)).below hb1 (by first | omega | (simp; done) | (simp; omega))
  have hB : Below w.heap.size w w1 := by (repeat (first | assumption | exact Below.refl _ _ | refine Below.drew ?_ | refine Below.alloc ?_ (by first | omega | (simp; done) | (simp; omega)) _ | refine Below.setCell ?_ (by first | omega | (simp; done) | (simp; omega)) _ | refine Below.trans ?_ (Below.mono (by assumption) (by first | omega | (simp; done) | (simp; omega)))))
  refine leaves_cons (f := 83) (args := #[.pointer (some ⟨w.heap.size + 1, 0, none⟩)]) (by simp) (by simp [go_sem]) ?_
  refine ((HC.out).1 E (w.heap.size + 1) _ b3).mono ?_
  rintro e u' w2 ⟨rfl, rfl, ho, hb⟩
  have hB2 : Below w.heap.size w w2 := hB.trans (ho.below hB.size (by simp))
  have r2 := hb.cell
  simp only [settle, Leaves]
  simp [Leaves, settle, results, Try.results30, go_sem, r2]
  exact hB2

set_option maxHeartbeats 4000000 in
set_option maxRecDepth 100000 in
theorem b_Whites_stop (b : Bn) (ga : Option Addr) (gc : Nat) (pa : Option Addr) (pc : Nat) (w : World) (hg : GsAt w ga b.gs) (hp : PsAt w pa b.ps) (hgl : b.gs.length ≤ 9223372036854775807) (hpl : b.ps.length ≤ 9223372036854775807) (hE : chkE b true ≠ 0) :
    Calls Try.prog 14 #[bv b ga gc pa pc] w fun e w' => e = .returned (.tuple #[.agg #[.int .i64 0, .int .i64 0], .int .i64 (chkE b true)]) ∧ Below w.heap.size w w' := by
  have hmf : ∀ (fn : Fn) (first cap : Array Value) (w : World), (Instr.makeFunc fn first cap).run Try.prog w = .ok (.func fn first cap) w := fun _ _ _ _ => rfl
  have HO := Lib.hid (fun w' (hb : Below w.heap.size w w') => b_open_stop b ga gc pa pc 46 #[] true w' (hg.below hb) (hp.below hb) hgl hpl hE (fun args W => Try.call46 args W) (fun w2 v _ _ => b_always _ _))
  generalize chkE b true = E at *
  have HC := Lib.hid catch_Whites
  unfold bv at *
  go_enter_defers Try.func14, Try.ntmps14
  go_wp2_with (first
    | (go_at_call 45; refine (HO.out _ (by (repeat (first | assumption | exact Below.refl _ _ | refine Below.drew ?_ | refine Below.alloc ?_ (by first | omega | (simp; done) | (simp; omega)) _ | refine Below.setCell ?_ (by first | omega | (simp; done) | (simp; omega)) _ | refine Below.trans ?_ (Below.mono (by assumption) (by first | omega | (simp; done) | (simp; omega))))))).mono ?_; rintro e w1 ⟨rfl, hb1⟩; refine at_stop ?_))
  unfold Stop
  have b3 : Blk w1 (w.heap.size + 2) #[.int .i64 0] 30 := (Blk.new' _ _ _ _ (by simp)).below hb1 (by first | omega | (simp; done) | (simp; omega))
  have hB : Below w.heap.size w w1 := by (repeat (first | assumption | exact Below.refl _ _ | refine Below.drew ?_ | refine Below.alloc ?_ (by first | omega | (simp; done) | (simp; omega)) _ | refine Below.setCell ?_ (by first | omega | (simp; done) | (simp; omega)) _ | refine Below.trans ?_ (Below.mono (by assumption) (by first | omega | (simp; done) | (simp; omega)))))
  refine leaves_cons (f := 43) (args := #[.pointer (some ⟨w.heap.size + 2, 0, none⟩)]) (by simp) (by simp [go_sem]) ?_
  refine ((HC.out).1 E (w.heap.size + 2) _ b3).mono ?_
  rintro e u' w2 ⟨rfl, rfl, ho, hb⟩
  have hB2 : Below w.heap.size w w2 := hB.trans (ho.below hB.size (by simp))
  have r2 := hb.cell
  have b1 : Blk w1 (w.heap.size + 1) #[.int .i64 0, .int .i64 0] 23 := ((Blk.new' _ _ _ _ (by simp)).alloc _).below hb1 (by first | omega | (simp; done) | (simp; omega))
  have r3 := (ho.blk b1 b1.lt (by simp)).cell
  simp only [settle, Leaves]
  simp [Leaves, settle, results, Try.results14, go_sem, r2, r3]
  exact hB2
end Go.Proofs.Ytjbjmoghloabpaa
set_option linter.unusedVariables false
set_option linter.unusedSimpArgs false
namespace Go.Proofs.Ytjbjmoghloabpaa
open Go.RowKit Go.Proofs
attribute [local irreducible] Ord.walk

set_option maxHeartbeats 4000000 in
set_option maxRecDepth 100000 in
theorem b_White_stop (b : Bn) (ga : Option Addr) (gc : Nat) (pa : Option Addr) (pc : Nat) (n : Int) (w : World) (hg : GsAt w ga b.gs) (hp : PsAt w pa b.ps) (hgl : b.gs.length ≤ 9223372036854775807) (hpl : b.ps.length ≤ 9223372036854775807) (hE : chkE b (inB n 0 (wrap64 (b.V - 1))) ≠ 0) :
    Calls Try.prog 16 #[bv b ga gc pa pc, .int .i64 n] w fun e w' => e = .returned (.tuple #[.int .i64 0, .int .i64 (chkE b (inB n 0 (wrap64 (b.V - 1))))]) ∧ Below w.heap.size w w' := by
  have hmf : ∀ (fn : Fn) (first cap : Array Value) (w : World), (Instr.makeFunc fn first cap).run Try.prog w = .ok (.func fn first cap) w := fun _ _ _ _ => rfl
  have HO := Lib.hid (fun w' (hb : Below w.heap.size w w') (hc0 : w'.cell? ⟨w.heap.size + 1, 0, none⟩ = some (.int .i64 n)) => b_open_stop b ga gc pa pc 52 #[.pointer (some ⟨w.heap.size + 1, 0, none⟩)] (inB n 0 (wrap64 (b.V - 1))) w' (hg.below hb) (hp.below hb) hgl hpl hE (fun args W => Try.call52 args W) (fun w2 v hb2 h0 => b_is_white v _ b.V n w2 h0 (cell_later hb2 hc0)))
  generalize chkE b (inB n 0 (wrap64 (b.V - 1))) = E at *
  have HC := Lib.hid catch_White
  unfold bv at *
  go_enter_defers Try.func16, Try.ntmps16
  go_wp2_with (first
    | (go_at_call 45; refine (HO.out _ (by (repeat (first | assumption | exact Below.refl _ _ | refine Below.drew ?_ | refine Below.alloc ?_ (by first | omega | (simp; done) | (simp; omega)) _ | refine Below.setCell ?_ (by first | omega | (simp; done) | (simp; omega)) _ | refine Below.trans ?_ (Below.mono (by assumption) (by first | omega | (simp; done) | (simp; omega)))))) (by simp [go_sem]; done)).mono ?_; rintro e w1 ⟨rfl, hb1⟩; refine at_stop ?_))
  unfold Stop
  have b3 : Blk w1 (w.heap.size + 2) #[.int .i64 0] 30 := (Blk.new' _ _ _ _ (by simp)).below hb1 (by first | omega | (simp; done) | (simp; omega))
  have hB : Below w.heap.size w w1 := by (repeat (first | assumption | exact Below.refl _ _ | refine Below.drew ?_ | refine Below.alloc ?_ (by first | omega | (simp; done) | (simp; omega)) _ | refine Below.setCell ?_ (by first | omega | (simp; done) | (simp; omega)) _ | refine Below.trans ?_ (Below.mono (by assumption) (by first | omega | (simp; done) | (simp; omega)))))
  refine leaves_cons (f := 51) (args := #[.pointer (some ⟨w.heap.size + 2, 0, none⟩)]) (by simp) (by simp [go_sem]) ?_
  refine ((HC.out).1 E (w.heap.size + 2) _ b3).mono ?_
  rintro e u' w2 ⟨rfl, rfl, ho, hb⟩
  have hB2 : Below w.heap.size w w2 := hB.trans (ho.below hB.size (by simp))
  have r2 := hb.cell
  simp only [settle, Leaves]
  simp [Leaves, settle, results, Try.results16, go_sem, r2]
  exact hB2

set_option maxHeartbeats 4000000 in
set_option maxRecDepth 100000 in
theorem b_Tell_stop (b : Bn) (ga : Option Addr) (gc : Nat) (pa : Option Addr) (pc : Nat) (n : Int) (w : World) (hg : GsAt w ga b.gs) (hp : PsAt w pa b.ps) (hgl : b.gs.length ≤ 9223372036854775807) (hpl : b.ps.length ≤ 9223372036854775807) (hE : chkE b (inB n 0 b.V) ≠ 0) :
    Calls Try.prog 26 #[bv b ga gc pa pc, .int .i64 n] w fun e w' => e = .returned (.tuple #[.int .i64 0, .int .i64 0, .int .i64 (chkE b (inB n 0 b.V))]) ∧ Below w.heap.size w w' := by
  have hmf : ∀ (fn : Fn) (first cap : Array Value) (w : World), (Instr.makeFunc fn first cap).run Try.prog w = .ok (.func fn first cap) w := fun _ _ _ _ => rfl
  have HO := Lib.hid (fun w' (hb : Below w.heap.size w w') (hc0 : w'.cell? ⟨w.heap.size + 1, 0, none⟩ = some (.int .i64 n)) => b_open_stop b ga gc pa pc 74 #[.pointer (some ⟨w.heap.size + 1, 0, none⟩)] (inB n 0 b.V) w' (hg.below hb) (hp.below hb) hgl hpl hE (fun args W => Try.call74 args W) (fun w2 v hb2 h0 => b_is_tell v _ b.V n w2 h0 (cell_later hb2 hc0)))
  generalize chkE b (inB n 0 b.V) = E at *
  have HC := Lib.hid catch_Tell
  unfold bv at *
  go_enter_defers Try.func26, Try.ntmps26
  go_wp2_with (first
    | (go_at_call 45; refine (HO.out _ (by (repeat (first | assumption | exact Below.refl _ _ | refine Below.drew ?_ | refine Below.alloc ?_ (by first | omega | (simp; done) | (simp; omega)) _ | refine Below.setCell ?_ (by first | omega | (simp; done) | (simp; omega)) _ | refine Below.trans ?_ (Below.mono (by assumption) (by first | omega | (simp; done) | (simp; omega)))))) (by simp [go_sem]; done)).mono ?_; rintro e w1 ⟨rfl, hb1⟩; refine at_stop ?_))
  unfold Stop
  have b3 : Blk w1 (w.heap.size + 2) #[.int .i64 0] 30 := (Blk.new' _ _ _ _ (by simp)).below hb1 (by first | omega | (simp; done) | (simp; omega))
  have hB : Below w.heap.size w w1 := by (repeat (first | assumption | exact Below.refl _ _ | refine Below.drew ?_ | refine Below.alloc ?_ (by first | omega | (simp; done) | (simp; omega)) _ | refine Below.setCell ?_ (by first | omega | (simp; done) | (simp; omega)) _ | refine Below.trans ?_ (Below.mono (by assumption) (by first | omega | (simp; done) | (simp; omega)))))
  refine leaves_cons (f := 73) (args := #[.pointer (some ⟨w.heap.size + 2, 0, none⟩)]) (by simp) (by simp [go_sem]) ?_
  refine ((HC.out).1 E (w.heap.size + 2) _ b3).mono ?_
  rintro e u' w2 ⟨rfl, rfl, ho, hb⟩
  have hB2 : Below w.heap.size w w2 := hB.trans (ho.below hB.size (by simp))
  have r2 := hb.cell
  simp only [settle, Leaves]
  simp [Leaves, settle, results, Try.results26, go_sem, r2]
  exact hB2

set_option maxHeartbeats 4000000 in
set_option maxRecDepth 100000 in
theorem b_Same_stop (b : Bn) (ga : Option Addr) (gc : Nat) (pa : Option Addr) (pc : Nat) (n m : Int) (w : World) (hg : GsAt w ga b.gs) (hp : PsAt w pa b.ps) (hgl : b.gs.length ≤ 9223372036854775807) (hpl : b.ps.length ≤ 9223372036854775807) (hE : chkE b ((inB n 0 (wrap64 (b.V - 1)) && inB m 0 (wrap64 (b.V - 1)))) ≠ 0) :
    Calls Try.prog 22 #[bv b ga gc pa pc, .int .i64 n, .int .i64 m] w fun e w' => e = .returned (.tuple #[.int .i64 0, .int .i64 (chkE b (inB n 0 (wrap64 (b.V - 1)) && inB m 0 (wrap64 (b.V - 1))))]) ∧ Below w.heap.size w w' := by
  have hmf : ∀ (fn : Fn) (first cap : Array Value) (w : World), (Instr.makeFunc fn first cap).run Try.prog w = .ok (.func fn first cap) w := fun _ _ _ _ => rfl
  have HO := Lib.hid (fun w' (hb : Below w.heap.size w w') (hc0 : w'.cell? ⟨w.heap.size + 1, 0, none⟩ = some (.int .i64 n)) (hc1 : w'.cell? ⟨w.heap.size + 2, 0, none⟩ = some (.int .i64 m)) => b_open_stop b ga gc pa pc 68 #[.pointer (some ⟨w.heap.size + 1, 0, none⟩), .pointer (some ⟨w.heap.size + 2, 0, none⟩)] ((inB n 0 (wrap64 (b.V - 1)) && inB m 0 (wrap64 (b.V - 1)))) w' (hg.below hb) (hp.below hb) hgl hpl hE (fun args W => Try.call68 args W) (fun w2 v hb2 h0 => b_is_same v _ _ b.V n m w2 h0 (cell_later hb2 hc0) (cell_later hb2 hc1)))
  generalize chkE b ((inB n 0 (wrap64 (b.V - 1)) && inB m 0 (wrap64 (b.V - 1)))) = E at *
  have HC := Lib.hid catch_Same
  unfold bv at *
  go_enter_defers Try.func22, Try.ntmps22
  go_wp2_with (first
    | (go_at_call 45; refine (HO.out _ (by (repeat (first | assumption | exact Below.refl _ _ | refine Below.drew ?_ | refine Below.alloc ?_ (by first | omega | (simp; done) | (simp; omega)) _ | refine Below.setCell ?_ (by first | omega | (simp; done) | (simp; omega)) _ | refine Below.trans ?_ (Below.mono (by assumption) (by first | omega | (simp; done) | (simp; omega)))))) (by simp [go_sem]; done) (by simp [go_sem]; done)).mono ?_; rintro e w1 ⟨rfl, hb1⟩; refine at_stop ?_))
  unfold Stop
  have b3 : Blk w1 (w.heap.size + 3) #[.int .i64 0] 30 := (Blk.new' _ _ _ _ (by simp)).below hb1 (by first | omega | (simp; done) | (simp; omega))
  have hB : Below w.heap.size w w1 := by (repeat (first | assumption | exact Below.refl _ _ | refine Below.drew ?_ | refine Below.alloc ?_ (by first | omega | (simp; done) | (simp; omega)) _ | refine Below.setCell ?_ (by first | omega | (simp; done) | (simp; omega)) _ | refine Below.trans ?_ (Below.mono (by assumption) (by first | omega | (simp; done) | (simp; omega)))))
  refine leaves_cons (f := 67) (args := #[.pointer (some ⟨w.heap.size + 3, 0, none⟩)]) (by simp) (by simp [go_sem]) ?_
  refine ((HC.out).1 E (w.heap.size + 3) _ b3).mono ?_
  rintro e u' w2 ⟨rfl, rfl, ho, hb⟩
  have hB2 : Below w.heap.size w w2 := hB.trans (ho.below hB.size (by simp))
  have r2 := hb.cell
  simp only [settle, Leaves]
  simp [Leaves, settle, results, Try.results22, go_sem, r2]
  exact hB2
end Go.Proofs.Ytjbjmoghloabpaa
