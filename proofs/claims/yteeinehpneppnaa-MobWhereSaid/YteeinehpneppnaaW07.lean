/- Parts of a proof: MbJ, Rng. -/
import Derived.Test.YteeinehpneppnaaW06
import Derived.Test.YteeinehpneppnaaW03
import Derived.RangeFuncNested
/- shearworksref01: Every, Truths, check, known. -/
set_option linter.unusedVariables false
set_option linter.unusedSimpArgs false
namespace Go.Proofs.Yteeinehpneppnaa
open Go.RowKit Go.Proofs
attribute [local irreducible] Ord.walk
def everyN (m : Mb) : Nat := 2 ^ m.seen.length - 1
def TM (m : Mb) : List (List Int × List Int) := truthsM m (everyN m)
def chkM (m : Mb) (vb : Bool) : Int := if validM m = false then 1 else if vb = false then 2 else 0
def knownE (m : Mb) (vb : Bool) : Int := if validM m = false then 1 else if vb = false then 2 else if TM m = [] then 10 else 0
set_option maxHeartbeats 4000000 in
set_option maxRecDepth 100000 in
theorem r_every {m : Mb} {A : Ma} (h5 : m.seen.length ≤ 40) (w : World) : Calls Try.prog 71 #[mv m A] w (Gives (.int .i64 (everyN m : Nat)) w) := by
  have hs : (m.seen.length : Int) ≤ 40 := by omega
  have HP := Lib.hid (fun W => r_power0 m.seen.length (by omega) W)
  have HE : Hid ((everyN m : Nat) = 2 ^ m.seen.length - 1) := rfl
  have hp : 2 ^ m.seen.length ≤ 2 ^ 40 := Nat.pow_le_pow_right (by omega) h5
  have hp0 := Nat.two_pow_pos m.seen.length
  have e40 : (2 : Nat) ^ 40 = 1099511627776 := rfl
  generalize everyN m = E at *
  generalize 2 ^ m.seen.length = Z at *
  rcases A with ⟨pa, pc, la, lc, ha, hc, sa, sc⟩
  unfold mv mcells at *
  simp only at *
  go_enter Try.func71, Try.ntmps71
  go_wp2_with (first
    | (go_at_call 59; refine (HP.out _).mono ?_; rintro e w' ⟨rfl, rfl⟩))
  go_ret
  exact ⟨ret_int (by rw [HE.out]; omega), (Below.refl _ _).alloc (Nat.le_refl _) _⟩
set_option maxHeartbeats 4000000 in
set_option maxRecDepth 100000 in
theorem r_Truths {m : Mb} {A : Ma} {w : World} (hv : validM m = true) (hm : MbAt w m A) :
    Calls Try.prog 70 #[mv m A] w (fun e w' => ∃ v, e = .returned v ∧ TruthsAt w' v (TM m) ∧ Below w.heap.size w w') := by
  have hl := validM_len hv
  have HE := Lib.hid (fun W => r_every (A := A) (m := m) (by omega) W)
  have hlt : everyN m < 2 ^ 62 := by
    unfold everyN
    have h1 : 2 ^ m.seen.length ≤ 2 ^ 5 := Nat.pow_le_pow_right (by omega) (by omega)
    have : (2 : Nat) ^ 5 < 2 ^ 62 := by decide
    omega
  have HT := Lib.hid (fun W (hb : Below w.heap.size w W) => r_truths (everyN m) hv (hm.below hb) hlt)
  have HTM : Hid (TM m = truthsM m (everyN m)) := rfl
  generalize TM m = T at *
  generalize everyN m = E at *
  generalize truthsM m E = T2 at *
  clear hv hm
  rcases A with ⟨pa, pc, la, lc, ha, hc, sa, sc⟩
  unfold mv mcells at *
  simp only at *
  have hB0 : Below w.heap.size w (w.alloc (.cells #[.slice pa m.places.length pc, .slice la m.legs.length lc, .slice ha m.herds.length hc, .slice sa m.seen.length sc] 27)).drew := ((Below.refl _ _).alloc (Nat.le_refl _) _).drew
  go_enter Try.func70, Try.ntmps70
  go_wp2_with fail
  have b1 := Blk.new w #[.slice pa m.places.length pc, .slice la m.legs.length lc, .slice ha m.herds.length hc, .slice sa m.seen.length sc] 27
  refine Ord.wp_region [(0, 1), (1, 0), (2, 2), (3, 2), (4, 0)] (fun W' => Below (w.heap.size + 1) (w.alloc (.cells #[.slice pa m.places.length pc, .slice la m.legs.length lc, .slice ha m.herds.length hc, .slice sa m.seen.length sc] 27)) W') (by kernel_rfl) (by kernel_rfl) (fun c a d v w h => by cases d <;> exact h) (Below.refl _ _).drew ?_
  go_wp2_with (first
    | ((with_reducible refine Ord.at_wild ?_); refine Ord.wild_load (ad := ⟨w.heap.size, 0, none⟩) (.agg #[.slice pa m.places.length pc, .slice la m.legs.length lc, .slice ha m.herds.length hc, .slice sa m.seen.length sc]) rfl rfl ?_ ?_; (focus (intro W hW; exact loadVar_blk agg_mob (b1.below hW (by omega)) rfl)); intro K hK)
    | (go_at_call 71; refine (HE.out _).mono ?_; rintro e w2 ⟨rfl, hb2⟩; refine at_stop ?_)
    | ((with_reducible refine Ord.at_calm ?_); refine Ord.calm_skip rfl ?_ (fun K hK => ?_); (focus (simp [Region.wanted, yielded]; done))) | with_reducible refine Ord.walk_calm rfl rfl (fun K hK => ?_) | ((with_reducible refine Ord.at_wild ?_); refine Ord.wild_fieldAddr rfl rfl (fun W => by simp [go_sem]; rfl) (fun K hK => ?_)) | ((with_reducible refine Ord.at_wild ?_); refine Ord.wild_move rfl rfl (fun K hK => ?_)) | ((with_reducible refine Ord.at_wild ?_); refine Ord.wild_nilCheck rfl rfl (fun K hK => ?_)) | with_reducible refine Ord.walk_eff rfl (by first | (simp; done) | assumption | (go_simp; done) | (repeat (first | assumption | exact Below.refl _ _ | refine Below.drew ?_ | refine Below.alloc ?_ (by first | omega | (simp; done) | (simp; omega)) _ | refine Below.setCell ?_ (by first | omega | (simp; done) | (simp; omega)) _ | refine Below.trans ?_ (Below.mono (by assumption) (by first | omega | (simp; done) | (simp; omega)))))) (fun K hK => ?_) | with_reducible refine Ord.at_fork ?_ ?_ | with_reducible refine Ord.walk_nil ?_ | (with_reducible refine Ord.next_of (by first | (simp; done) | (go_simp; done) | (repeat (first | assumption | exact Below.refl _ _ | refine Below.drew ?_ | refine Below.alloc ?_ (by first | omega | (simp; done) | (simp; omega)) _ | refine Below.setCell ?_ (by first | omega | (simp; done) | (simp; omega)) _ | refine Below.trans ?_ (Below.mono (by assumption) (by first | omega | (simp; done) | (simp; omega)))))) (fun _ => ?_)))
  unfold Stop
  have hB2 : Below (w.heap.size + 1) (w.alloc (.cells #[.slice pa m.places.length pc, .slice la m.legs.length lc, .slice ha m.herds.length hc, .slice sa m.seen.length sc] 27)) w2 := (Below.refl _ _).drew.trans (hb2.mono (by simp))
  have hBw : Below w.heap.size w w2 := ((Below.refl _ _).alloc (Nat.le_refl _) _).trans (hB2.mono (by omega))
  go_wp2_with (first
    | (go_at_call 72; refine (HT.out _ hBw).mono ?_; rintro e w3 ⟨v3, rfl, ht3, hb3⟩; refine at_stop ?_)
    | ((with_reducible refine Ord.at_calm ?_); refine Ord.calm_skip rfl ?_ (fun K hK => ?_); (focus (simp [Region.wanted, yielded]; done))) | with_reducible refine Ord.walk_calm rfl rfl (fun K hK => ?_) | ((with_reducible refine Ord.at_wild ?_); refine Ord.wild_fieldAddr rfl rfl (fun W => by simp [go_sem]; rfl) (fun K hK => ?_)) | ((with_reducible refine Ord.at_wild ?_); refine Ord.wild_move rfl rfl (fun K hK => ?_)) | ((with_reducible refine Ord.at_wild ?_); refine Ord.wild_nilCheck rfl rfl (fun K hK => ?_)) | with_reducible refine Ord.walk_eff rfl (by first | (simp; done) | assumption | (go_simp; done) | (repeat (first | assumption | exact Below.refl _ _ | refine Below.drew ?_ | refine Below.alloc ?_ (by first | omega | (simp; done) | (simp; omega)) _ | refine Below.setCell ?_ (by first | omega | (simp; done) | (simp; omega)) _ | refine Below.trans ?_ (Below.mono (by assumption) (by first | omega | (simp; done) | (simp; omega)))))) (fun K hK => ?_) | with_reducible refine Ord.at_fork ?_ ?_ | with_reducible refine Ord.walk_nil ?_ | (with_reducible refine Ord.next_of (by first | (simp; done) | (go_simp; done) | (repeat (first | assumption | exact Below.refl _ _ | refine Below.drew ?_ | refine Below.alloc ?_ (by first | omega | (simp; done) | (simp; omega)) _ | refine Below.setCell ?_ (by first | omega | (simp; done) | (simp; omega)) _ | refine Below.trans ?_ (Below.mono (by assumption) (by first | omega | (simp; done) | (simp; omega)))))) (fun _ => ?_)))
  unfold Stop
  have hB3 := hB2.trans (hb3.mono (by have := hB2.size; simp at this; omega))
  go_wp2_with (first
    | ((with_reducible refine Ord.at_calm ?_); refine Ord.calm_skip rfl ?_ (fun K hK => ?_); (focus (simp [Region.wanted, yielded]; done))) | with_reducible refine Ord.walk_calm rfl rfl (fun K hK => ?_) | ((with_reducible refine Ord.at_wild ?_); refine Ord.wild_fieldAddr rfl rfl (fun W => by simp [go_sem]; rfl) (fun K hK => ?_)) | ((with_reducible refine Ord.at_wild ?_); refine Ord.wild_move rfl rfl (fun K hK => ?_)) | ((with_reducible refine Ord.at_wild ?_); refine Ord.wild_nilCheck rfl rfl (fun K hK => ?_)) | with_reducible refine Ord.walk_eff rfl (by first | (simp; done) | assumption | (go_simp; done) | (repeat (first | assumption | exact Below.refl _ _ | refine Below.drew ?_ | refine Below.alloc ?_ (by first | omega | (simp; done) | (simp; omega)) _ | refine Below.setCell ?_ (by first | omega | (simp; done) | (simp; omega)) _ | refine Below.trans ?_ (Below.mono (by assumption) (by first | omega | (simp; done) | (simp; omega)))))) (fun K hK => ?_) | with_reducible refine Ord.at_fork ?_ ?_ | with_reducible refine Ord.walk_nil ?_ | (with_reducible refine Ord.next_of (by first | (simp; done) | (go_simp; done) | (repeat (first | assumption | exact Below.refl _ _ | refine Below.drew ?_ | refine Below.alloc ?_ (by first | omega | (simp; done) | (simp; omega)) _ | refine Below.setCell ?_ (by first | omega | (simp; done) | (simp; omega)) _ | refine Below.trans ?_ (Below.mono (by assumption) (by first | omega | (simp; done) | (simp; omega)))))) (fun _ => ?_)))
  go_ret
  exact ⟨v3, rfl, by rw [HTM.out]; exact ht3, hBw.trans (hb3.mono hBw.size)⟩
set_option maxHeartbeats 4000000 in
set_option maxRecDepth 100000 in
theorem r_check {m : Mb} {A : Ma} {w : World} (vb : Bool) (hl : Mlen m) (hm : MbAt w m A) :
    Calls Try.prog 69 #[mv m A, .bool vb] w (Gives (.int .i64 (chkM m vb)) w) := by
  have HM := Lib.hid (fun W (hb : Below w.heap.size w W) => r_mob m A hl W (hm.below hb))
  have hB0 : Below w.heap.size w (w.alloc (.cells (mcells m A) 27)) := (Below.refl _ _).alloc (Nat.le_refl _) _
  have b1 := Blk.new w (mcells m A) 27
  have HR : Hid (chkM m vb = if validM m = false then 1 else if vb = false then 2 else 0) := rfl
  generalize chkM m vb = R at *
  clear hl hm
  rcases A with ⟨pa, pc, la, lc, ha, hc, sa, sc⟩
  unfold mv mcells at *
  simp only at *
  have r1 := b1.cell
  cases hv : validM m <;> rw [hv] at HM HR <;> cases vb
  all_goals go_enter Try.func69, Try.ntmps69
  all_goals go_wp2_with (first
    | (go_at_call 28; refine (HM.out _ hB0).mono ?_; rintro e w2 ⟨rfl, hb2⟩))
  all_goals go_ret
  all_goals exact ⟨ret_int (by rw [HR.out]; rfl), hB0.trans (hb2.mono (by first | omega | (simp; done) | (simp; omega)))⟩
def KnownPost (m : Mb) (vb : Bool) (w : World) (e : Ending) (w' : World) : Prop :=
  ∃ v, e = .returned (.tuple #[v, .int .i64 (knownE m vb)]) ∧ (if knownE m vb = 0 then TruthsAt w' v (TM m) else v = .slice none 0 0) ∧ Below w.heap.size w w'
set_option maxHeartbeats 4000000 in
set_option maxRecDepth 100000 in
theorem r_known {m : Mb} {A : Ma} {w : World} (vb : Bool) (hl : Mlen m) (hm : MbAt w m A) :
    Calls Try.prog 50 #[mv m A, .bool vb] w (KnownPost m vb w) := by
  have HC := Lib.hid (fun W (hb : Below w.heap.size w W) => r_check vb hl (hm.below hb))
  have hB0 : Below w.heap.size w (w.alloc (.cells (mcells m A) 27)) := (Below.refl _ _).alloc (Nat.le_refl _) _
  have b1 := Blk.new w (mcells m A) 27
  by_cases hc : chkM m vb = 0
  · have hv : validM m = true := by
      unfold chkM at hc
      cases h : validM m
      · rw [h] at hc; simp at hc
      · rfl
    have HT := Lib.hid (fun W (hb : Below w.heap.size w W) => r_Truths hv (hm.below hb))
    have hk : knownE m vb = if TM m = [] then 10 else 0 := by
      unfold chkM at hc
      unfold knownE
      rw [if_neg (by rw [hv]; simp)] at hc ⊢
      by_cases h : vb = false
      · rw [if_pos h] at hc; simp at hc
      · rw [if_neg h]
    rw [hc] at HC
    have HP : Hid (KnownPost m vb w = fun e w' => ∃ v, e = .returned (.tuple #[v, .int .i64 (if TM m = [] then 10 else 0)]) ∧ (if (if TM m = [] then (10 : Int) else 0) = 0 then TruthsAt w' v (TM m) else v = .slice none 0 0) ∧ Below w.heap.size w w') := by
      show _ = _
      unfold KnownPost; rw [hk]
    generalize hPP : KnownPost m vb w = PP at *
    clear hPP hl hm hk hc
    generalize TM m = T at *
    rcases A with ⟨pa, pc, la, lc, ha, hc, sa, sc⟩
    unfold mv mcells at *
    simp only at *
    have r1 := b1.cell
    go_enter Try.func50, Try.ntmps50
    go_wp2_with (first
      | (refine wpList_load_blk 27 (.tmp 2) agg_mob rfl rfl rfl b1 rfl ?_)
      | (go_at_call 69; refine (HC.out _ hB0).mono ?_; rintro e w2 ⟨rfl, hb2⟩; refine at_stop ?_))
    unfold Stop
    have hB2 := hB0.trans (hb2.mono (by simp))
    have b2 := b1.below hb2 (by simp)
    clear hb2 r1
    go_wp2_with (first
      | (refine wpList_load_blk 27 (.tmp 2) agg_mob rfl rfl rfl b2 rfl ?_)
      | (go_at_call 70; refine (HT.out _ hB2).mono ?_; rintro e w3 ⟨v3, rfl, ht3, hb3⟩; refine at_stop ?_))
    unfold Stop
    have hB3 := hB2.trans (hb3.mono hB2.size)
    obtain ⟨a3, c3, rfl, hrow⟩ := ht3
    have ht3 : TruthsAt w3 (.slice a3 T.length c3) T := ⟨a3, c3, rfl, hrow⟩
    clear hb3 hrow
    by_cases h0 : T = []
    · have h0l : T.length = 0 := by rw [h0]; rfl
      have HP2 : Hid (PP = fun e w' => ∃ v, e = .returned (.tuple #[v, .int .i64 10]) ∧ v = .slice none 0 0 ∧ Below w.heap.size w w') := by
        show _ = _
        rw [HP.out, if_pos h0]; rfl
      clear HP h0 ht3
      rw [h0l]
      go_wp2_with fail
      rw [HP2.out]
      exact ⟨_, rfl, rfl, hB3⟩
    · have h0l : ¬ (T.length : Int) = 0 := by have := List.length_pos_iff.2 h0; omega
      have HP2 : Hid (PP = fun e w' => ∃ v, e = .returned (.tuple #[v, .int .i64 0]) ∧ TruthsAt w' v T ∧ Below w.heap.size w w') := by
        show _ = _
        rw [HP.out, if_neg h0]; rfl
      clear HP h0
      go_wp2_with fail
      rw [HP2.out]
      exact ⟨_, rfl, ht3, hB3⟩
  · have hk : knownE m vb = chkM m vb := by
      unfold chkM at hc ⊢
      unfold knownE
      cases h : validM m
      · rfl
      · cases h2 : vb
        · rfl
        · rw [h, h2] at hc; simp at hc
    have HP : Hid (KnownPost m vb w = fun e w' => ∃ v, e = .returned (.tuple #[v, .int .i64 (chkM m vb)]) ∧ v = .slice none 0 0 ∧ Below w.heap.size w w') := by
      show _ = _
      unfold KnownPost; simp only [hk, if_neg hc]
    generalize KnownPost m vb w = PP at *
    generalize chkM m vb = E at *
    clear hl hm hk
    rcases A with ⟨pa, pc, la, lc, ha, hc', sa, sc⟩
    unfold mv mcells at *
    simp only at *
    have r1 := b1.cell
    go_enter Try.func50, Try.ntmps50
    go_wp2_with (first
      | (refine wpList_load_blk 27 (.tmp 2) agg_mob rfl rfl rfl b1 rfl ?_)
      | (go_at_call 69; refine (HC.out _ hB0).mono ?_; rintro e w2 ⟨rfl, hb2⟩))
    rw [HP.out]
    exact ⟨_, rfl, rfl, hB0.trans (hb2.mono (by simp))⟩
end Go.Proofs.Yteeinehpneppnaa
/- A range over a function, by an own law: what the iterator may turn, and what a round may. -/
set_option linter.unusedVariables false
set_option linter.unusedSimpArgs false
namespace Go
open Go.RowKit
theorem RowKit.Below.undrew {w w' : World} (h : Below w.drew.heap.size w.drew w') : Below w.heap.size w w' := (Below.refl _ w).drew.trans h
/-- Blocks that X does not name are as they were. -/
structure Lets (X : Nat → Option Obj → Prop) (w w' : World) : Prop where
  os : w'.os = w.os
  tape : w'.tape = w.tape
  output : w'.output = w.output
  size : w.heap.size ≤ w'.heap.size
  block : ∀ k, k < w.heap.size → ¬ X k w.heap[k]? → w'.heap[k]? = w.heap[k]?
namespace Lets
variable {X Y : Nat → Option Obj → Prop} {w w' w'' : World}
theorem refl (X : Nat → Option Obj → Prop) (w : World) : Lets X w w := ⟨rfl, rfl, rfl, Nat.le_refl _, fun _ _ _ => rfl⟩
theorem trans (h : Lets X w w') (k : Lets X w' w'') : Lets X w w'' :=
  ⟨k.os.trans h.os, k.tape.trans h.tape, k.output.trans h.output, Nat.le_trans h.size k.size, fun i hi hx => by
    have e := h.block i hi hx
    exact (k.block i (by have := h.size; omega) (by rw [e]; exact hx)).trans e⟩
theorem mono (h : Lets X w w') (hm : ∀ k, k < w.heap.size → X k w.heap[k]? → Y k w.heap[k]?) : Lets Y w w' :=
  ⟨h.os, h.tape, h.output, h.size, fun k hk hy => h.block k hk fun hx => hy (hm k hk hx)⟩
theorem of_below (h : Below w.heap.size w w') : Lets X w w' := ⟨h.os, h.tape, h.output, h.size, fun k hk _ => h.block k hk⟩
theorem none {w w' : World} (h : Lets (fun _ _ => False) w w') : Below w.heap.size w w' := ⟨h.os, h.tape, h.output, h.size, fun k hk => h.block k hk (fun e => e)⟩
theorem below {n : Nat} (h : Lets X w w') (hn : n ≤ w.heap.size) (hx : ∀ k, k < n → ¬ X k w.heap[k]?) : Below n w w' := ⟨h.os, h.tape, h.output, h.size, fun k hk => h.block k (by omega) (hx k hk)⟩
theorem alloc (h : Lets X w w') (o : Obj) : Lets X w (w'.alloc o) := h.trans (of_below ((Below.refl _ _).alloc (Nat.le_refl _) _))
theorem drew (h : Lets X w w') : Lets X w w'.drew := ⟨h.os, h.tape, h.output, h.size, h.block⟩
theorem setCell (h : Lets X w w') {p : Addr} (hp : X p.block w'.heap[p.block]?) (v : Value) : Lets X w (w'.setCell p v) :=
  h.trans ⟨rfl, rfl, rfl, by simp, fun k hk hx => Below.heap_setCell w' p v k (fun e => by subst e; exact hx hp)⟩
theorem putObj (h : Lets X w w') {p : Nat} (hp : X p w'.heap[p]?) (o : Obj) : Lets X w (w'.putObj p o) :=
  h.trans ⟨rfl, rfl, rfl, by simp, fun k hk hx => World.putObj_heap_other (fun e => by subst e; exact hx hp)⟩
theorem rowed {b : Nat} {B : Array Value} {t : TypeId} (h : Lets X w w') (hr : Rowed w' b B t w'') (hp : X b w'.heap[b]?) : Lets X w w'' := by
  have hb := hr.below (Below.refl b w') (Nat.le_refl _)
  refine h.trans ⟨hb.os, hb.tape, hb.output, by rw [hr.size]; exact Nat.le_refl _, fun k hk hx => ?_⟩
  exact hr.heap k (fun e => by subst e; exact hx hp)
theorem grown {row : Option Nat} (h : Lets X w w') (hg : w'.grownBy w'' row) (hr : ∀ k, row = some k → k < w'.heap.size → X k w'.heap[k]?) : Lets X w w'' :=
  h.trans ⟨hg.os, hg.tape, hg.output, hg.size, fun k hk hx => hg.block k hk (fun e => hx (hr k e.symm hk))⟩
theorem blk (h : Lets X w w') {b : Nat} {A : Array Value} {t : TypeId} (hb : Blk w b A t) (hx : ¬ X b w.heap[b]?) : Blk w' b A t := (h.block b hb.lt hx).trans hb
theorem cell (h : Lets X w w') {a : Addr} {v : Value} (hc : w.cell? a = some v) (hx : ¬ X a.block w.heap[a.block]?) : w'.cell? a = some v := (World.cell?_of_block (h.block _ (World.block_lt_of_cell? w _ hc) hx)).trans hc
theorem next (h : Lets X w w') (k : Lets Y w' w'') (hY : ∀ i, i < w.heap.size → ¬ X i w.heap[i]? → ¬ Y i w'.heap[i]?) : Lets X w w'' :=
  ⟨k.os.trans h.os, k.tape.trans h.tape, k.output.trans h.output, Nat.le_trans h.size k.size, fun i hi hx => (k.block i (by have := h.size; omega) (hY i hi hx)).trans (h.block i hi hx)⟩
end Lets

/-- The contract of an iterator at a call of it: it yields these; XI: what it may turn itself; XR: what a round may turn; Mid: what holds at each round's begin and end. -/
def SeqAt {α : Type} (P : Program) (gf : Nat) (lb : Array Value) (encs : α → Array Value) (xs : List α) (XI XR : Nat → Option Obj → Prop) (Mid : World → Prop) (l : Nat) (W : World) : Prop :=
  ∀ (J : Nat → World → Prop) (Jx : World → Prop),
    (∀ k A B, J k A → Lets XI A B → J k B) → (∀ A B, Jx A → Lets XI A B → Jx B) →
    (∀ k (h : k < xs.length) W1, J k W1 → Mid W1 → YieldAt Fence.wide 0 P l (encs xs[k]) W1 fun e W' =>
      Lets XR W1 W' ∧ Mid W' ∧ ((e = .returned (.bool true) ∧ J (k + 1) W') ∨ (e = .returned (.bool false) ∧ Jx W'))) →
    J 0 W → CallsIn Fence.wide 0 P gf (#[.func (.yield l) #[] #[]] ++ lb) W fun e W' => (∃ v, e = .returned v) ∧ Mid W' ∧ (J xs.length W' ∨ Jx W')

/-- How a round's body may be left. -/
def rngPost (XB : Nat → Option Obj → Prop) (Mid : World → Prop) (I : World → Prop) (Ix : Code → World → Prop) (W : World) : Exit → Act → World → Prop
  | .normal, _, W' => Lets XB W W' ∧ Mid W' ∧ I W'
  | .ret, _, W' => Lets XB W W' ∧ Mid W' ∧ Ix .ret W'
  | .exit id, _, W' => Lets XB W W' ∧ Mid W' ∧ Ix (.exit id) W'
  | .goto t, _, W' => Lets XB W W' ∧ Mid W' ∧ Ix (.goto t) W'
  | .panic _, _, _ => False
  | .outgrown, _, _ => False
theorem rngPost_inside {XB : Nat → Option Obj → Prop} {Mid : World → Prop} {I : World → Prop} {Ix : Code → World → Prop} {W : World} : ¬ LetsOut (rngPost XB Mid I Ix W) := fun ⟨_, _, h⟩ => h

theorem below_lets {n : Nat} {X : Nat → Option Obj → Prop} {w A B : World} (h : RowKit.Below n w A) (hl : Lets X A B) (hn : n ≤ w.heap.size) (hx : ∀ k o, k < n → ¬ X k o) : RowKit.Below n w B :=
  h.trans ⟨hl.os, hl.tape, hl.output, hl.size, fun k hk => hl.block k (by have := h.size; omega) (hx k _ hk)⟩
theorem blk_lets {X : Nat → Option Obj → Prop} {A B : World} {b : Nat} {c : Array Value} {t : TypeId} (h : Blk A b c t) (hl : Lets X A B) (hx : ∀ o, ¬ X b o) : Blk B b c t := hl.blk h (hx _)
/-- Leaving with one mark. -/
theorem post_ret1 {P : Program} {fn : Func} {v : Value} {a : Act} {w : World} {R : Ending → World → Prop} {D : Nat} (hd : a.defers = [{ target := .collected D, args := #[] }]) (hD : w.heap[D]? = some (.deferred (some [])))
    (h : ∀ w', Lets (fun k _ => k = D) w w' → w'.heap.size = w.heap.size → (results fn a.tmps).run P w' = .ok v w' ∧ R (.returned v) w') : bodyPostM Fence.wide 0 P fn R .ret a w := by
  show LeavesInM _ _ _ _ _ _ a.defers _ _
  rw [hd]
  refine ⟨by simp, .inl ⟨D, w.putObj D (.deferred none), rfl, run_takeDeferred hD, ?_⟩⟩
  have := h (w.putObj D (.deferred none)) ((Lets.refl _ _).putObj rfl _) (by simp)
  exact ⟨v, this.1, this.2⟩
theorem post_ret0 {P : Program} {fn : Func} {v : Value} {a : Act} {w : World} {R : Ending → World → Prop} (hd : a.defers = []) (h : (results fn a.tmps).run P w = .ok v w) (hr : R (.returned v) w) : bodyPostM Fence.wide 0 P fn R .ret a w := by
  show LeavesInM _ _ _ _ _ _ a.defers _ _
  rw [hd]
  exact ⟨v, h, hr⟩
variable {P : Program}
/-- What is asked of a round: assignment, body. -/
def RoundOk (P : Program) (L : Nat) (XB : Nat → Option Obj → Prop) (Mid : World → Prop) (I0 I1 : World → Prop) (Ix : Code → World → Prop) (assign body : Code) (tmps : Array Value) (W : World) : Prop :=
  assign.wpIn (Fence.wide.inRound L) 0 P (Exit.then (fun a₁ W₁ => Lets (fun _ _ => False) W W₁ ∧ ∀ W₂, Lets (fun j _ => j = L) W₁ W₂ → W₂.heap.size = W₁.heap.size → I0 W₂ → Mid W₂ →
    body.wpIn (Fence.wide.inRound L) 0 P (rngPost XB Mid I1 Ix W₂) a₁ W₂) (fun _ _ _ => False)) { tmps, defers := [] } W

theorem range_core {α : Type} {gf : Nat} {lb : Array Value} {encs : α → Array Value} {xs : List α} {XI XB : Nat → Option Obj → Prop} {Mid : World → Prop} {I : Nat → World → Prop} {Ix : Code → World → Prop} {L D : Nat} {W1 : World}
    {fn : FuncId} {tmps : Array Value} {ps : Array Tmp} {assign body : Code}
    (hL : W1.heap[L]? = some (.loop { state := .ready, pending := none, fn, tmps, params := ps, assign, body, defers := D }))
    (hps : ∀ x, (encs x).size = ps.size)
    (hseq : SeqAt P gf lb encs xs XI (fun j o => XB j o ∨ j = L) Mid L W1)
    (hXI : ∀ o, ¬ XI L o) (hXB : ∀ o, ¬ XB L o)
    (hI : ∀ k A B, I k A → Lets XI A B → I k B) (hIx : ∀ c A B, Ix c A → Lets XI A B → Ix c B)
    (hI2 : ∀ k A B, I k A → Lets (fun j _ => j = L) A B → I k B) (hIx2 : ∀ c A B, Ix c A → Lets (fun j _ => j = L) A B → Ix c B) (hM2 : ∀ A B, Mid A → Lets (fun j _ => j = L) A B → Mid B)
    (h0 : I 0 W1)
    (hround : ∀ k (h : k < xs.length) W, I k W → Mid W → (∃ r, W.heap[L]? = some (.loop r) ∧ r.defers = D) → RoundOk P L XB Mid (I k) (I (k + 1)) Ix assign body ((ps.zip (encs xs[k])).foldl (fun t (p, v) => t.setIfInBounds p v) tmps) W) :
    CallsIn Fence.wide 0 P gf (#[.func (.yield L) #[] #[]] ++ lb) W1 fun e W2 => (∃ v, e = .returned v) ∧
      ((∃ W', (Instr.endLoop L).run P W2 = .ok none W' ∧ I xs.length W' ∧ Mid W') ∨ (∃ c W', (Instr.endLoop L).run P W2 = .ok (some c) W' ∧ Ix c W' ∧ Mid W')) := by
  obtain ⟨rec, hrec⟩ : ∃ rec : LoopState → Option Code → Loop, rec = fun st pe => { state := st, pending := pe, fn, tmps, params := ps, assign, body, defers := D } := ⟨_, rfl⟩
  have hL1 : W1.heap[L]? = some (.loop (rec .ready none)) := by rw [hrec]; exact hL
  clear hL
  have hturn : ∀ (A : World) (o : Obj), Lets (fun j _ => j = L) A (A.putObj L o) := fun A o => (Lets.refl _ _).putObj rfl _
  refine (hseq (fun k W => I k W ∧ W.heap[L]? = some (.loop (rec .ready none))) (fun W => ∃ c, Ix c W ∧ W.heap[L]? = some (.loop (rec .done (some c))))
    (fun k A B h hl => ⟨hI k A B h.1 hl, (hl.block L (Array.getElem?_eq_some_iff.1 h.2).1 (hXI _)).trans h.2⟩)
    (fun A B h hl => by obtain ⟨c, h1, h2⟩ := h; exact ⟨c, hIx c A B h1 hl, (hl.block L (Array.getElem?_eq_some_iff.1 h2).1 (hXI _)).trans h2⟩)
    ?_ ⟨h0, hL1⟩).mono ?_
  · rintro k hk W ⟨hi, hl⟩ hmid
    have hlt : L < W.heap.size := (Array.getElem?_eq_some_iff.1 hl).1
    have hy := run_yield (P := P) (args := encs xs[k]) hl (by rw [hrec]; exact hps _)
    rw [hrec] at hy
    refine ⟨fn, _, assign, body, hy, roundIn_of_wpIn trivial (wpIn_mono (hround k hk W hi hmid ⟨_, hl, by rw [hrec]⟩) ?_)⟩
    clear hy
    rintro e a₁ Wa ha
    cases e with
    | normal =>
      obtain ⟨hWa, hbody⟩ := ha
      have hla : Wa.heap[L]? = some (.loop (rec .ready none)) := (hWa.block L hlt (fun e => e)).trans hl
      have hlta : L < Wa.heap.size := (Array.getElem?_eq_some_iff.1 hla).1
      refine ⟨_, run_beginRound hla (by rw [hrec]), ?_⟩
      obtain ⟨W₂, hW₂⟩ : ∃ W₂, Wa.putObj L (.loop { rec .ready none with state := .busy }) = W₂ := ⟨_, rfl⟩
      rw [hW₂]
      have h2 : Lets (fun j _ => j = L) Wa W₂ := by rw [← hW₂]; exact hturn _ _
      have hl2 : W₂.heap[L]? = some (.loop { rec .ready none with state := .busy }) := by rw [← hW₂]; exact World.putObj_heap_same hlta
      have hs2 : W₂.heap.size = Wa.heap.size := by rw [← hW₂]; simp
      have hWa' : Lets (fun j _ => j = L) W Wa := hWa.mono (fun _ _ e => e.elim)
      refine wpIn_mono (hbody W₂ h2 hs2 (hI2 k _ _ hi (hWa'.trans h2)) (hM2 _ _ hmid (hWa'.trans h2))) ?_
      have fin : ∀ (jump : Option Code) (W3 : World), Lets XB W₂ W3 →
          (Instr.endRound L jump).run P W3 = .ok (.bool jump.isNone) (W3.putObj L (.loop (rec (if jump.isNone then .ready else .done) jump))) ∧
          (W3.putObj L (.loop (rec (if jump.isNone then .ready else .done) jump))).heap[L]? = some (.loop (rec (if jump.isNone then .ready else .done) jump)) ∧
          Lets (fun j o => XB j o ∨ j = L) W (W3.putObj L (.loop (rec (if jump.isNone then .ready else .done) jump))) := fun jump W3 h3 => by
        have hl3 := (h3.block L (Array.getElem?_eq_some_iff.1 hl2).1 (hXB _)).trans hl2
        have := run_endRound (P := P) jump hl3
        rw [hrec] at this ⊢
        refine ⟨this, World.putObj_heap_same (Array.getElem?_eq_some_iff.1 hl3).1, ?_⟩
        exact ((((hWa'.trans h2).mono (fun _ _ e => .inr e)) : Lets (fun j o => XB j o ∨ j = L) W W₂).trans (h3.mono (fun _ _ e => .inl e))).putObj (.inr rfl) _
      rintro e a3 W3 hp
      cases e with
      | normal =>
        obtain ⟨h3, hm3, hi3⟩ := hp
        obtain ⟨hr, hl4, h4⟩ := fin none W3 h3
        exact ⟨_, _, hr, h4, hM2 _ _ hm3 (hturn _ _), .inl ⟨rfl, hI2 _ _ _ hi3 (hturn _ _), hl4⟩⟩
      | ret =>
        obtain ⟨h3, hm3, hi3⟩ := hp
        obtain ⟨hr, hl4, h4⟩ := fin (some .ret) W3 h3
        exact ⟨_, _, hr, h4, hM2 _ _ hm3 (hturn _ _), .inr ⟨rfl, .ret, hIx2 _ _ _ hi3 (hturn _ _), hl4⟩⟩
      | exit id =>
        obtain ⟨h3, hm3, hi3⟩ := hp
        obtain ⟨hr, hl4, h4⟩ := fin (some (.exit id)) W3 h3
        exact ⟨_, _, hr, h4, hM2 _ _ hm3 (hturn _ _), .inr ⟨rfl, .exit id, hIx2 _ _ _ hi3 (hturn _ _), hl4⟩⟩
      | goto t =>
        obtain ⟨h3, hm3, hi3⟩ := hp
        obtain ⟨hr, hl4, h4⟩ := fin (some (.goto t)) W3 h3
        exact ⟨_, _, hr, h4, hM2 _ _ hm3 (hturn _ _), .inr ⟨rfl, .goto t, hIx2 _ _ _ hi3 (hturn _ _), hl4⟩⟩
      | panic ch => exact hp.elim
      | outgrown => exact hp.elim
    | ret => exact ha.elim
    | exit id => exact ha.elim
    | goto t => exact ha.elim
    | panic ch => exact ha.elim
    | outgrown => exact ha.elim
  · rintro e W2 ⟨hv, hm, (⟨hi, hl⟩ | ⟨c, hi, hl⟩)⟩
    · refine ⟨hv, .inl ⟨W2.putObj L (.loop (rec .exhausted none)), ?_, hI2 _ _ _ hi (hturn _ _), hM2 _ _ hm (hturn _ _)⟩⟩
      exact (by have := run_endLoop (P := P) hl (by rw [hrec]; simp); rw [hrec] at this ⊢; exact this)
    · refine ⟨hv, .inr ⟨c, W2.putObj L (.loop (rec .exhausted (some c))), ?_, hIx2 _ _ _ hi (hturn _ _), hM2 _ _ hm (hturn _ _)⟩⟩
      exact (by have := run_endLoop (P := P) hl (by rw [hrec]; simp); rw [hrec] at this ⊢; exact this)

/-- An outermost loop. -/
theorem wp_range {α : Type} {g : Operand} {ps : Array Tmp} {assign body : Code} {Q : Exit → Act → World → Prop} {a : Act} {w : World} {gf : Nat} {lb : Array Value}
    {encs : α → Array Value} {xs : List α} {XI XB : Nat → Option Obj → Prop} {Mid : World → Prop} (I : Nat → World → Prop) (Ix : Code → World → Prop)
    (hg : a.eval g = .func (.func gf) #[] lb) (eg : ∀ args w, (callFunc gf args).run P w = .ok (.enter gf args) w) (hps : ∀ x, (encs x).size = ps.size)
    (hseq : ∀ W1, Below w.heap.size w W1 → W1.heap.size = w.heap.size + 2 → SeqAt P gf lb encs xs XI (fun j o => XB j o ∨ j = w.heap.size + 1) Mid (w.heap.size + 1) W1)
    (hXI : ∀ j o, w.heap.size ≤ j → j ≤ w.heap.size + 1 → ¬ XI j o) (hXB : ∀ j o, w.heap.size ≤ j → j ≤ w.heap.size + 1 → ¬ XB j o)
    (hI : ∀ k A B, I k A → Lets XI A B → I k B) (hIx : ∀ c A B, Ix c A → Lets XI A B → Ix c B)
    (hI2 : ∀ k A B, I k A → Lets (fun j _ => w.heap.size ≤ j ∧ j ≤ w.heap.size + 1) A B → I k B) (hIx2 : ∀ c A B, Ix c A → Lets (fun j _ => w.heap.size ≤ j ∧ j ≤ w.heap.size + 1) A B → Ix c B) (hM2 : ∀ A B, Mid A → Lets (fun j _ => w.heap.size ≤ j ∧ j ≤ w.heap.size + 1) A B → Mid B)
    (h0 : I 0 w)
    (hround : ∀ k (h : k < xs.length) W, I k W → Mid W → w.heap.size + 2 ≤ W.heap.size → (∃ r, W.heap[w.heap.size + 1]? = some (.loop r)) → RoundOk P (w.heap.size + 1) XB Mid (I k) (I (k + 1)) Ix assign body ((ps.zip (encs xs[k])).foldl (fun t (p, v) => t.setIfInBounds p v) a.tmps) W)
    (hdone : ∀ W, I xs.length W → Mid W → W.heap[w.heap.size]? = some (.deferred (some [])) → Q .normal { a with defers := { target := .collected w.heap.size, args := #[] } :: a.defers } W)
    (hstop : ∀ c W, Ix c W → Mid W → W.heap[w.heap.size]? = some (.deferred (some [])) → c.wpIn Fence.wide 0 P Q { a with defers := { target := .collected w.heap.size, args := #[] } :: a.defers } W) :
    (Code.rangeFunc g ps assign body).wpIn Fence.wide 0 P Q a w := by
  refine wpIn_rangeFunc ?_
  intro fn _
  obtain ⟨W1, hW1⟩ : ∃ W1, (w.alloc (.deferred (some []))).alloc (.loop { state := .ready, pending := none, fn, tmps := a.tmps, params := ps, assign, body, defers := w.heap.size }) = W1 := ⟨_, rfl⟩
  have hL1 : W1.heap[w.heap.size + 1]? = some (.loop { state := .ready, pending := none, fn, tmps := a.tmps, params := ps, assign, body, defers := w.heap.size }) := by
    rw [← hW1]; have := World.alloc_heap_new (w.alloc (.deferred (some []))) (.loop { state := .ready, pending := none, fn, tmps := a.tmps, params := ps, assign, body, defers := w.heap.size }); rwa [World.size_alloc] at this
  have hK1 : W1.heap[w.heap.size]? = some (.deferred (some [])) := by
    rw [← hW1]; exact (Below.heap_alloc _ _ _ (by simp)).trans (World.alloc_heap_new w _)
  have hb1 : Below w.heap.size w W1 := by rw [← hW1]; exact ((Below.refl _ w).alloc (Nat.le_refl _) _).alloc (by simp) _
  have hs1 : W1.heap.size = w.heap.size + 2 := by rw [← hW1]; simp
  have hn1 : ∀ Y, Lets Y w W1 := fun Y => Lets.of_below hb1
  have hLD : ∀ {A B : World}, Lets (fun j _ => j = w.heap.size + 1) A B → Lets (fun j _ => w.heap.size ≤ j ∧ j ≤ w.heap.size + 1) A B := fun h => h.mono (fun k _ e => by omega)
  have hkeep : ∀ {A B : World} {Y : Nat → Option Obj → Prop}, Lets Y A B → ¬ Y w.heap.size A.heap[w.heap.size]? → A.heap[w.heap.size]? = some (.deferred (some [])) → B.heap[w.heap.size]? = some (.deferred (some [])) := fun h hy hd => (h.block _ (Array.getElem?_eq_some_iff.1 hd).1 hy).trans hd
  refine ⟨w.heap.size + 1, [{ target := .collected w.heap.size, args := #[] }], W1, { target := .fn (.func gf) lb, args := #[.func (.yield (w.heap.size + 1)) #[] #[]] }, W1, gf,
    #[.func (.yield (w.heap.size + 1)) #[] #[]] ++ lb, W1, ?_, ?_, fun _ _ => trivial, ?_, fun h => by simp [Fence.wide] at h, ?_⟩
  · rw [← hW1]; exact run_enterLoop_outer _ _ _ _ _
  · simp only [resolve, hg]
    simp [go_sem]
  · simp [invoke, go_sem, eg]
  · refine (range_core (I := fun k W => I k W ∧ W.heap[w.heap.size]? = some (.deferred (some [])) ∧ w.heap.size + 2 ≤ W.heap.size) (Ix := fun c W => Ix c W ∧ W.heap[w.heap.size]? = some (.deferred (some []))) hL1 hps (hseq W1 hb1 hs1) (fun o => hXI _ o (by omega) (by omega)) (fun o => hXB _ o (by omega) (by omega))
      (fun k A B h hl => ⟨hI k A B h.1 hl, hkeep hl (hXI _ _ (Nat.le_refl _) (by omega)) h.2.1, by have := hl.size; omega⟩) (fun c A B h hl => ⟨hIx c A B h.1 hl, hkeep hl (hXI _ _ (Nat.le_refl _) (by omega)) h.2⟩)
      (fun k A B h hl => ⟨hI2 k A B h.1 (hLD hl), hkeep hl (by omega) h.2.1, by have := hl.size; omega⟩) (fun c A B h hl => ⟨hIx2 c A B h.1 (hLD hl), hkeep hl (by omega) h.2⟩)
      (fun A B h hl => hM2 A B h (hLD hl)) ⟨hI2 0 _ _ h0 (hn1 _), hK1, by omega⟩ ?_).mono ?_
    · rintro k hk W ⟨hi, hd, hsz⟩ hm ⟨r, hr, -⟩
      have h := hround k hk W hi hm hsz ⟨r, hr⟩
      unfold RoundOk at h ⊢
      refine wpIn_mono h ?_
      rintro e a₁ Wa ha
      cases e with
      | normal =>
        obtain ⟨h1, h2⟩ := ha
        refine ⟨h1, fun W₂ hl hs hi2 hm2 => wpIn_mono (h2 W₂ hl hs hi2.1 hm2) ?_⟩
        have hsz2 : w.heap.size + 2 ≤ W₂.heap.size := by have := h1.size; omega
        rintro e a3 W3 hp
        cases e with
        | normal => exact ⟨hp.1, hp.2.1, hp.2.2, hkeep hp.1 (hXB _ _ (Nat.le_refl _) (by omega)) hi2.2.1, by have := hp.1.size; omega⟩
        | ret => exact ⟨hp.1, hp.2.1, hp.2.2, hkeep hp.1 (hXB _ _ (Nat.le_refl _) (by omega)) hi2.2.1⟩
        | exit id => exact ⟨hp.1, hp.2.1, hp.2.2, hkeep hp.1 (hXB _ _ (Nat.le_refl _) (by omega)) hi2.2.1⟩
        | goto t => exact ⟨hp.1, hp.2.1, hp.2.2, hkeep hp.1 (hXB _ _ (Nat.le_refl _) (by omega)) hi2.2.1⟩
        | panic ch => exact hp.elim
        | outgrown => exact hp.elim
      | ret => exact ha.elim
      | exit id => exact ha.elim
      | goto t => exact ha.elim
      | panic ch => exact ha.elim
      | outgrown => exact ha.elim
    · rintro e W2 ⟨⟨v, rfl⟩, (⟨W', he, hi, hm⟩ | ⟨c, W', he, hi, hm⟩)⟩
      · exact ⟨none, W', he, hdone W' hi.1 hm hi.2.1⟩
      · exact ⟨some c, W', he, hstop c W' hi.1 hm hi.2⟩

/-- A loop within a round. -/
theorem wp_rangeN {α : Type} {g : Operand} {ps : Array Tmp} {assign body : Code} {Q : Exit → Act → World → Prop} {a : Act} {w : World} {gf : Nat} {lb : Array Value} {l₀ : Nat}
    {encs : α → Array Value} {xs : List α} {XI XB : Nat → Option Obj → Prop} {Mid : World → Prop} (I : Nat → World → Prop) (Ix : Code → World → Prop)
    (hl₀ : ∃ r, w.heap[l₀]? = some (.loop r))
    (hg : a.eval g = .func (.func gf) #[] lb) (eg : ∀ args w, (callFunc gf args).run P w = .ok (.enter gf args) w) (hps : ∀ x, (encs x).size = ps.size)
    (hseq : ∀ W1, Below w.heap.size w W1 → W1.heap.size = w.heap.size + 1 → SeqAt P gf lb encs xs XI (fun j o => XB j o ∨ j = w.heap.size) Mid w.heap.size W1)
    (hXI : ∀ o, ¬ XI w.heap.size o) (hXB : ∀ o, ¬ XB w.heap.size o)
    (hI : ∀ k A B, I k A → Lets XI A B → I k B) (hIx : ∀ c A B, Ix c A → Lets XI A B → Ix c B)
    (hI2 : ∀ k A B, I k A → Lets (fun j _ => j = w.heap.size) A B → I k B) (hIx2 : ∀ c A B, Ix c A → Lets (fun j _ => j = w.heap.size) A B → Ix c B) (hM2 : ∀ A B, Mid A → Lets (fun j _ => j = w.heap.size) A B → Mid B)
    (h0 : I 0 w)
    (hround : ∀ k (h : k < xs.length) W, I k W → Mid W → (∃ r, W.heap[w.heap.size]? = some (.loop r)) → RoundOk P w.heap.size XB Mid (I k) (I (k + 1)) Ix assign body ((ps.zip (encs xs[k])).foldl (fun t (p, v) => t.setIfInBounds p v) a.tmps) W)
    (hdone : ∀ W, I xs.length W → Mid W → Q .normal a W)
    (hstop : ∀ c W, Ix c W → Mid W → c.wpIn (Fence.wide.inRound l₀) 0 P Q a W) :
    (Code.rangeFunc g ps assign body).wpIn (Fence.wide.inRound l₀) 0 P Q a w := by
  obtain ⟨r₀, hr₀⟩ := hl₀
  refine wpIn_rangeFunc ?_
  intro fn _
  obtain ⟨W1, hW1⟩ : ∃ W1, w.alloc (.loop { state := .ready, pending := none, fn, tmps := a.tmps, params := ps, assign, body, defers := r₀.defers }) = W1 := ⟨_, rfl⟩
  have hL1 : W1.heap[w.heap.size]? = some (.loop { state := .ready, pending := none, fn, tmps := a.tmps, params := ps, assign, body, defers := r₀.defers }) := by rw [← hW1]; exact World.alloc_heap_new w _
  have hb1 : Below w.heap.size w W1 := by rw [← hW1]; exact (Below.refl _ w).alloc (Nat.le_refl _) _
  have hs1 : W1.heap.size = w.heap.size + 1 := by rw [← hW1]; simp
  refine ⟨w.heap.size, [], W1, { target := .fn (.func gf) lb, args := #[.func (.yield w.heap.size) #[] #[]] }, W1, gf,
    #[.func (.yield w.heap.size) #[] #[]] ++ lb, W1, ?_, ?_, fun _ _ => trivial, ?_, fun h => by simp [Fence.wide, Fence.inRound] at h, ?_⟩
  · rw [← hW1]; exact run_enterLoop_inner hr₀ _ _ _ _ _
  · simp only [resolve, hg]
    simp [go_sem]
  · simp [invoke, go_sem, eg]
  · refine CallsIn.inRound l₀ ((range_core (I := I) (Ix := Ix) hL1 hps (hseq W1 hb1 hs1) hXI hXB hI hIx hI2 hIx2 hM2 (hI2 0 _ _ h0 (Lets.of_below hb1)) (fun k hk W hi hm ⟨r, hr, _⟩ => hround k hk W hi hm ⟨r, hr⟩)).mono ?_)
    rintro e W2 ⟨⟨v, rfl⟩, (⟨W', he, hi, hm⟩ | ⟨c, W', he, hi, hm⟩)⟩
    · exact ⟨none, W', he, hdone W' hi hm⟩
    · exact ⟨some c, W', he, hstop c W' hi hm⟩
end Go
