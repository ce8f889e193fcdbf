/- Parts of a proof: BnAK, BnAL, BnAN, BnAF. -/
import Derived.Test.YtjbjmoghloabpaaP21
import Derived.Test.YtjbjmoghloabpaaP11
import Derived.Test.YtjbjmoghloabpaaP13
import Derived.Test.YtjbjmoghloabpaaP15
import Derived.Test.YtjbjmoghloabpaaP19
import Derived.Test.YtjbjmoghloabpaaP17
set_option linter.unusedVariables false
set_option linter.unusedSimpArgs false
namespace Go.Proofs.Ytjbjmoghloabpaa
open Go.RowKit Go.Proofs
attribute [local irreducible] Ord.walk
open Go.Sort Go.Shelf Go.Lib
set_option maxHeartbeats 4000000 in
set_option maxRecDepth 100000 in
theorem b_clash3 {w : World} {v : Nat} {b : Bn} {V : Nat} {ks : List Kn} {ga : Option Addr} {gc : Nat} {pa : Option Addr} {pc : Nat} {ka : Option Addr} {kc : Nat} (h : Vt w v b V ks ga gc pa pc ka kc) (p : Nat) (hp : w.cell? ⟨p, 0, none⟩ = some (.pointer (some ⟨v, 0, none⟩))) (x : Nat) (hx : x < 256) :
    Calls Try.prog 88 #[.int .u64 (x : Nat), .pointer (some ⟨p, 0, none⟩)] w (Gives (.bool (decide (csum (countN V b.lo b.hi (sel ks x [])) = 0))) w) := by
  have HC := Lib.hid (fun w' (hb : Below w.heap.size w w') => (h.below hb).counts [] none 0 x (by omega) (by intro i hi; simp at hi) (by simp) (by simp) (fun _ => rfl))
  have hle := countN_sum V h.hV8 b.lo b.hi (sel ks x [])
  have HA := Lib.hid (b_all (countN V b.lo b.hi (sel ks x [])) (by omega))
  generalize csum (countN V b.lo b.hi (sel ks x [])) = S at *
  generalize cv (countN V b.lo b.hi (sel ks x [])) = CV at *
  go_enter Try.func88, Try.ntmps88
  go_wp2_with (first
    | (go_at_call 56; refine (HC.out _ (by (repeat (first | assumption | exact Below.refl _ _ | refine Below.drew ?_ | refine Below.alloc ?_ (by first | omega | (simp; done) | (simp; omega)) _ | refine Below.setCell ?_ (by first | omega | (simp; done) | (simp; omega)) _ | refine Below.trans ?_ (Below.mono (by assumption) (by first | omega | (simp; done) | (simp; omega))))))).mono ?_; rintro e w1 ⟨rfl, hb1⟩)
    | (go_at_call 54; refine (HA.out _).mono ?_; rintro e w3 ⟨rfl, hb3⟩))
  go_ret
  refine ⟨ret_bool ?_, ?_⟩
  · rw [Bool.eq_iff_iff]; simp
  · exact hb1.trans (hb3.mono hb1.size)
set_option maxHeartbeats 4000000 in
set_option maxRecDepth 100000 in
theorem b_first_yes (F : FuncId) (cb : Array Value) (p : Nat → Bool) (l : List Nat) (g cap n : Nat) (w : World) (hl : l.length ≤ 256) (hx : ∀ x ∈ l, x < 256) (hn : n < l.length) (hlo : ∀ j, (h : j < n) → p (l[j]'(by omega)) = false) (hhi : p l[n] = true)
    (hcf : ∀ (args : Array Value) (W : World), (callFunc F args).run Try.prog W = .ok (.enter F args) W) (hU : USl w g l) (hg : g < w.heap.size)
    (HP : ∀ w' x, Below w.heap.size w w' → x < 256 → Calls Try.prog F (#[.int .u64 (x : Nat)] ++ cb) w' (Gives (.bool (p x)) w')) :
    Calls Try.prog 87 #[.slice (some ⟨g, 0, none⟩) l.length cap, .agg #[.func (.func F) #[] cb]] w (Gives (.int .u64 (l[n] : Nat)) w) := by
  have HI := Lib.hid (fun w' (hb : Below w.heap.size w w') => b_idx F cb p l g cap n (n : Int) w' hl hx (by omega) hlo (fun _ => hhi) (fun _ => rfl) (by omega) hcf (hU.below hb hg) (by have := hb.size; omega) (fun w2 x hb2 hx2 => HP w2 x (hb.trans (hb2.mono hb.size)) hx2))
  have HM := Lib.hid b_must_yes
  have hlti : (n : Int) < (l.length : Int) := by omega
  have hU2 := Lib.hid (fun w' (hb : Below w.heap.size w w') => (hU.below hb hg) n hn)
  generalize l[n] = y at *
  clear hlo hhi hx HP hU hcf
  go_enter Try.func87, Try.ntmps87
  go_wp2_with (first
    | (go_at_call 104; refine (HI.out _ (by (repeat (first | assumption | exact Below.refl _ _ | refine Below.drew ?_ | refine Below.alloc ?_ (by first | omega | (simp; done) | (simp; omega)) _ | refine Below.setCell ?_ (by first | omega | (simp; done) | (simp; omega)) _ | refine Below.trans ?_ (Below.mono (by assumption) (by first | omega | (simp; done) | (simp; omega))))))).mono ?_; rintro e w1 ⟨rfl, hb1⟩; have cu := hU2.out w1 (by (repeat (first | assumption | exact Below.refl _ _ | refine Below.drew ?_ | refine Below.alloc ?_ (by first | omega | (simp; done) | (simp; omega)) _ | refine Below.setCell ?_ (by first | omega | (simp; done) | (simp; omega)) _ | refine Below.trans ?_ (Below.mono (by assumption) (by first | omega | (simp; done) | (simp; omega)))))))
    | (go_at_call 76; refine (HM.out _ _).mono ?_; rintro e w' ⟨rfl, rfl⟩))
  go_ret
  refine ⟨rfl, ?_⟩
  (repeat (first | assumption | exact Below.refl _ _ | refine Below.drew ?_ | refine Below.alloc ?_ (by first | omega | (simp; done) | (simp; omega)) _ | refine Below.setCell ?_ (by first | omega | (simp; done) | (simp; omega)) _ | refine Below.trans ?_ (Below.mono (by assumption) (by first | omega | (simp; done) | (simp; omega)))))
theorem b_first_no (F : FuncId) (cb : Array Value) (p : Nat → Bool) (l : List Nat) (g cap : Nat) (w : World) (hl : l.length ≤ 256) (hx : ∀ x ∈ l, x < 256) (hlo : ∀ j, (h : j < l.length) → p l[j] = false)
    (hcf : ∀ (args : Array Value) (W : World), (callFunc F args).run Try.prog W = .ok (.enter F args) W) (hU : USl w g l) (hg : g < w.heap.size)
    (HP : ∀ w' x, Below w.heap.size w w' → x < 256 → Calls Try.prog F (#[.int .u64 (x : Nat)] ++ cb) w' (Gives (.bool (p x)) w')) :
    Calls Try.prog 87 #[.slice (some ⟨g, 0, none⟩) l.length cap, .agg #[.func (.func F) #[] cb]] w (Stops 4 w) := by
  have HI := Lib.hid (fun w' (hb : Below w.heap.size w w') => b_idx F cb p l g cap l.length (-1) w' hl hx (by omega) hlo (fun h => absurd h (by omega)) (fun h => absurd h (by omega)) (fun _ => rfl) hcf (hU.below hb hg) (by have := hb.size; omega) (fun w2 x hb2 hx2 => HP w2 x (hb.trans (hb2.mono hb.size)) hx2))
  have HM := Lib.hid b_must_no
  clear hlo hx HP hU hcf
  go_enter Try.func87, Try.ntmps87
  go_wp2_with (first
    | (go_at_call 104; refine (HI.out _ (by (repeat (first | assumption | exact Below.refl _ _ | refine Below.drew ?_ | refine Below.alloc ?_ (by first | omega | (simp; done) | (simp; omega)) _ | refine Below.setCell ?_ (by first | omega | (simp; done) | (simp; omega)) _ | refine Below.trans ?_ (Below.mono (by assumption) (by first | omega | (simp; done) | (simp; omega))))))).mono ?_; rintro e w1 ⟨rfl, hb1⟩)
    | (go_at_call 76; refine (HM.out _ _).mono ?_; rintro e w' ⟨rfl, rfl⟩))
  refine ⟨rfl, rfl, ?_⟩
  (repeat (first | assumption | exact Below.refl _ _ | refine Below.drew ?_ | refine Below.alloc ?_ (by first | omega | (simp; done) | (simp; omega)) _ | refine Below.setCell ?_ (by first | omega | (simp; done) | (simp; omega)) _ | refine Below.trans ?_ (Below.mono (by assumption) (by first | omega | (simp; done) | (simp; omega)))))
end Go.Proofs.Ytjbjmoghloabpaa
set_option linter.unusedVariables false
set_option linter.unusedSimpArgs false
namespace Go.Proofs.Ytjbjmoghloabpaa
open Go.RowKit Go.Proofs
attribute [local irreducible] Ord.walk
open Go.Sort Go.Shelf Go.Lib
/-- Is there no truth by what of a set is known? -/
def noneB (b : Bn) (x : Nat) : Bool := decide (csum (countN b.V.toNat b.lo b.hi (sel (knOf b) x [])) = 0)
def ClashPost (r : Option Nat) (w : World) (e : Ending) (w' : World) : Prop :=
  (match r with | some x => e = .returned (.tuple #[.int .i64 (x : Nat), .int .i64 0]) | none => e = .returned (.tuple #[.int .i64 0, .int .i64 4])) ∧ Go.RowKit.Below w.heap.size w w'
theorem Try.info73 : (Try.prog.info? 73).map (fun i => (i.zero, i.size, i.bytes)) = some (some (.int .u64 0), 1, 8) := by kernel_rfl

set_option maxHeartbeats 4000000 in
set_option maxRecDepth 100000 in
theorem b_Clash_valid (b : Bn) (ga : Option Addr) (gc : Nat) (pa : Option Addr) (pc : Nat) (w : World) (hg : GsAt w ga b.gs) (hp : PsAt w pa b.ps) (hv : valid b = true) :
    Calls Try.prog 30 #[bv b ga gc pa pc] w (ClashPost ((Stab.bySize (knOf b).length).find? (noneB b)) w) := by
  have hmf : ∀ (fn : Fn) (first cap : Array Value) (w : World), (Instr.makeFunc fn first cap).run Try.prog w = .ok (.func fn first cap) w := fun _ _ _ _ => rfl
  have HO := Lib.hid (fun w' (hb : Go.RowKit.Below w.heap.size w w') => b_open_ok b ga gc pa pc 46 #[] w' (hg.below hb) (hp.below hb) hv (fun args W => Try.call46 args W) (fun w2 v _ _ => b_always _ _))
  have HC := Lib.hid catch_Clash
  have HS := Lib.hid (b_sortAll)
  obtain ⟨K, hK⟩ : ∃ K, (knOf b).length = K := ⟨_, rfl⟩
  obtain ⟨E, hE⟩ : ∃ E : Nat, 2 ^ K = E + 1 := ⟨2 ^ K - 1, by have := Nat.two_pow_pos K; omega⟩
  have HE := Lib.hid hE
  have hE1 : 2 ^ K - 1 = E := by omega
  have hE2 : 2 ^ (knOf b).length - 1 = E := by rw [hK]; exact hE1
  have HE2 := Lib.hid hE2
  have HK := Lib.hid hK
  clear hE hE1 hE2 hK
  unfold bv at *
  go_enter_defers Try.func30, Try.ntmps30
  go_wp2_with (first
    | (go_at_call 45; refine (HO.out _ (by (repeat (first | assumption | exact Below.refl _ _ | refine Below.drew ?_ | refine Below.alloc ?_ (by first | omega | (simp; done) | (simp; omega)) _ | refine Below.setCell ?_ (by first | omega | (simp; done) | (simp; omega)) _ | refine Below.trans ?_ (Below.mono (by assumption) (by first | omega | (simp; done) | (simp; omega))))))).mono ?_; rintro e w1 ⟨v, ka, kc, rfl, hvt, hb1, hle⟩))
  obtain ⟨w2, hw2⟩ : ∃ w2, w2 = w1.alloc (.cells #[.pointer (some ⟨v, 0, none⟩)] 63) := ⟨_, rfl⟩
  have hsz1 : w.heap.size + 2 ≤ w1.heap.size := by have := hb1.size; simpa using this
  have hB12 : Go.RowKit.Below w1.heap.size w1 w2 := by rw [hw2]; exact (Go.RowKit.Below.refl _ _).alloc (Nat.le_refl _) _
  have hB1 : Go.RowKit.Below w.heap.size w w1 := ((((Go.RowKit.Below.refl _ _).alloc (Nat.le_refl _) _).alloc (by first | omega | (simp; done) | (simp; omega)) _).trans (hb1.mono (by first | omega | (simp; done) | (simp; omega))))
  have hB2 : Go.RowKit.Below w.heap.size w w2 := hB1.trans (hB12.mono hB1.size)
  have b3 : Blk w2 (w.heap.size + 1) #[.int .i64 0] 30 := (((Blk.new' _ _ _ _ (by simp)).below hb1 (by first | omega | (simp; done) | (simp; omega))).below hB12 (by omega))
  have b4 : Blk w2 w1.heap.size #[.pointer (some ⟨v, 0, none⟩)] 63 := by rw [hw2]; exact Blk.new _ _ _
  have hvt2 := hvt.below hB12
  have hk8 := hvt.hkl
  rw [HK.out] at hk8
  have hE8 : E ≤ 255 := by
    have h1 := HE.out
    have h2 := Nat.pow_le_pow_right (show 0 < 2 by omega) hk8
    have e8 : (2 : Nat) ^ 8 = 256 := rfl
    omega
  have HEv : Hid (∀ w', Go.RowKit.Below w2.heap.size w2 w' → Calls Try.prog 57 #[.pointer (some ⟨v, 0, none⟩)] w' (Same (.int .u64 (E : Nat)) w')) := by
    intro w' hb
    have := (hvt2.below hb).every
    rwa [HE2.out] at this
  obtain ⟨p1, hp1⟩ : ∃ p1, w1.heap.size = p1 := ⟨_, rfl⟩
  rw [← hw2]
  rw [hp1] at b4
  simp only [hp1]
  have hz2 : w2.heap.size = p1 + 1 := by rw [hw2]; simp [hp1]
  have hz2' := Lib.hid hz2
  clear hw2 hp1 hb1 hvt hsz1 hB12 hB1 hle hz2
  with_reducible refine (HEv.out _ (Go.RowKit.Below.refl _ _)).mono ?_
  rintro e w' ⟨rfl, rfl⟩
  obtain ⟨i0, hi, hz0, hz1, hz2⟩ := info_parts Try.info73
  go_wp2_with fail
  go_loopw [5, 13] (fun a i wr => ∃ k : Nat, k ≤ E + 1 ∧ i = .int .u64 k ∧ Go.RowKit.Below w2.heap.size w2 wr ∧ wr.ownsRow w2.heap.size 73 1 a k ((List.range k).map u64V)) (fun _ i _ => E + 1 - (intOf i).toNat)
  case atStart => exact ⟨0, by omega, rfl, Go.RowKit.Below.refl _ _, World.ownsRow_nil _ _ _ _⟩
  case round =>
    obtain ⟨k, hk, rfl, hB, hown⟩ := hrel
    by_cases hlt : k < E + 1
    · have hlti : (k : Int) < (E : Int) + 1 := by omega
      have hBs := hB.size
      go_wp2_with (first
        | (at_builtin; refine at_stop ?_))
      unfold Stop
      refine wpList_append_own _ rfl _ _ 95 rfl w2.heap.size 73 i0 (.int .u64 0) 1 8 Try.underlying95 hi hz0 hz1 hz2 rfl (by decide) _ _ _ rfl (hown.alloc _) ⟨wr.heap.size, 0, none⟩ 1 1 [.int .u64 k] rfl rfl (cell_one_new _ _ _) (by simp [Value.oneCell']) (by unfold maxLen; omega) (by omega) (by simp; omega) ?_
      intro v' w3 hown' hgrow _
      go_wp2_with fail
      have hBC := (hB.alloc hB.size (.cells #[.int .u64 k] 73)).grown hgrow (by simp; omega) (fun j e => (hown.lt j e).1)
      refine ⟨⟨k + 1, by omega, by go_num, hBC, ?_⟩, by simp [intOf]; omega⟩
      rw [List.range_succ, List.map_append]
      exact hown'
    · have hlti : ¬ (k : Int) < (E : Int) + 1 := by omega
      obtain rfl : k = E + 1 := by omega
      obtain ⟨g, cap, rfl, hg2, hcall⟩ := HS.out wr w2.heap.size u5 K hk8 (by rw [HE.out]; exact hown)
      have hz2 := hz2'.out
      have hHS := Lib.hid hcall
      obtain ⟨-, hlen, hall⟩ := Stab.bySize_all K hk8
      have hall2 : ∀ x ∈ Stab.bySize K, x < 256 := by
        intro x hx
        have := List.all_eq_true.1 hall x hx
        rw [Nat.blt_eq] at this
        have h1 := HE.out
        omega
      rw [HK.out]
      have hlen2 := Lib.hid hlen
      clear hcall hown hall hlen HS
      go_wp2_with (first
        | (go_at_call 84; refine hHS.out.mono ?_; rintro e w5 ⟨rfl, hB5, hU, hgl⟩; refine at_stop ?_))
      unfold Stop
      have hB25 : Go.RowKit.Below w2.heap.size w2 w5 := hB.trans hB5
      have hvt5 := hvt2.below hB25
      have b5 := b3.below hB25 b3.lt
      have c5 := (b4.below hB25 b4.lt).cell 0
      have hBw5 : Go.RowKit.Below w.heap.size w w5 := hB2.trans (hB25.mono hB2.size)
      have HP := Lib.hid (fun w' x (hb : Go.RowKit.Below w5.heap.size w5 w') (hx : x < 256) => b_clash3 (hvt5.below hb) p1 ((hb.cell (p := ⟨p1, 0, none⟩) (b4.below hB25 b4.lt).lt).trans c5) x hx)
      clear hB5 hHS hB
      go_wp2_with (first
        | (go_at_call 87; refine at_stop ?_))
      unfold Stop
      rw [← hlen2.out]
      have hl256 : (Stab.bySize K).length ≤ 256 := by rw [hlen2.out, HE.out]; omega
      have hcf : ∀ (args : Array Value) (W : World), (callFunc 88 args).run Try.prog W = .ok (.enter 88 args) W := fun args W => Try.call88 args W
      cases hf : (Stab.bySize K).find? (noneB b) with
      | none =>
        have hno := List.find?_eq_none.1 hf
        refine (b_first_no 88 #[.pointer (some ⟨p1, 0, none⟩)] (noneB b) (Stab.bySize K) g cap w5 hl256 hall2 (fun j h => by simpa using hno _ (List.getElem_mem h)) hcf hU hgl (fun w' x hb hx => HP.out w' x hb hx)).mono ?_
        rintro e w6 ⟨rfl, hb6⟩
        have b6 := b5.below hb6 b5.lt
        have hB6 : Go.RowKit.Below w.heap.size w w6 := hBw5.trans (hb6.mono hBw5.size)
        refine leaves_cons (f := 83) (args := #[.pointer (some ⟨w.heap.size + 1, 0, none⟩)]) (by simp) (by simp [go_sem]) ?_
        refine ((HC.out).1 4 (w.heap.size + 1) _ b6).mono ?_
        rintro e u' w7 ⟨rfl, rfl, ho, hb⟩
        have hB7 : Go.RowKit.Below w.heap.size w w7 := hB6.trans (ho.below hB6.size (by simp))
        have r2 := hb.cell
        simp only [settle, Leaves]
        simp [Leaves, settle, results, Try.results30, go_sem, r2]
        exact ⟨by rw [HK.out, hf], hB7⟩
      | some y =>
        obtain ⟨hy, n, hn, hny, hlo⟩ := List.find?_eq_some_iff_getElem.1 hf
        refine (b_first_yes 88 #[.pointer (some ⟨p1, 0, none⟩)] (noneB b) (Stab.bySize K) g cap n w5 hl256 hall2 hn (fun j h => by simpa using hlo j h) (by rw [hny]; exact hy) hcf hU hgl (fun w' x hb hx => HP.out w' x hb hx)).mono ?_
        rw [hny]
        rintro e w6 ⟨rfl, hb6⟩
        have b6 := b5.below hb6 b5.lt
        have hB6 : Go.RowKit.Below w.heap.size w w6 := hBw5.trans (hb6.mono hBw5.size)
        have hyi : y < 256 := by rw [← hny]; exact hall2 _ (List.getElem_mem hn)
        have r6 := b6.cell
        have f6 := b6.free
        go_wp2_with fail
        refine leaves_cons (f := 83) (args := #[.pointer (some ⟨w.heap.size + 1, 0, none⟩)]) (by simp) (by simp [go_sem]) ?_
        refine ((HC.out).2 (w.heap.size + 1) _).mono ?_
        rintro e u' w7 ⟨rfl, rfl, rfl⟩
        have r7 := (b6.set 0 (.int .i64 0)).cell
        simp only [settle, Leaves]
        simp [Leaves, settle, results, Try.results30, go_sem, r7]
        exact ⟨by rw [HK.out, hf], hB6.setCell (by first | omega | (simp; done) | (simp; omega)) _⟩
end Go.Proofs.Ytjbjmoghloabpaa
set_option linter.unusedVariables false
set_option linter.unusedSimpArgs false
namespace Go.Proofs.Ytjbjmoghloabpaa
open Go.RowKit Go.Proofs
attribute [local irreducible] Ord.walk
theorem noneB_eq {b : Bn} (hv : valid b = true) (x : Nat) : noneB b x = (truthsL b x).isEmpty := by
  unfold noneB
  rw [csum_set hv, Bool.eq_iff_iff]
  simp [List.isEmpty_iff, List.length_eq_zero_iff]
theorem kn_len {b : Bn} : (knOf b).length = b.kn := by rw [knOf_len]
theorem kn_8 {b : Bn} (hv : valid b = true) : b.kn ≤ 8 := by
  have := valid_len hv; unfold Bn.kn; omega
theorem clash_yes {b : Bn} (hv : valid b = true) (ht : TL b = []) : (Stab.bySize (knOf b).length).find? (noneB b) = some (clashB b) := by
  have e : noneB b = fun s => (truthsL b s).isEmpty := funext fun x => noneB_eq hv x
  rw [e, kn_len]
  exact clash_find _ b.kn (kn_8 hv) (by show (truthsL b (2 ^ b.kn - 1)).isEmpty = true; rw [show truthsL b (2 ^ b.kn - 1) = TL b from rfl, ht]; rfl)
/-- What is right by all that is known is right by a part of it. -/
theorem okTo_sub (b : Bn) (s t w : Nat) (h : ∀ i, i < b.kn → hasB s i = true → hasB t i = true) : ∀ k, k ≤ b.kn → okTo b t w k = true → okTo b s w k = true
  | 0, _, h0 => h0
  | k + 1, hk, h0 => by
    simp only [okTo, Bool.and_eq_true, Bool.or_eq_true, Bool.not_eq_true'] at h0 ⊢
    refine ⟨okTo_sub b s t w h k (by omega) h0.1, ?_⟩
    rcases h0.2 with h1 | h1
    · left
      cases h2 : hasB s k
      · rfl
      · rw [h k (by omega) h2] at h1; exact absurd h1 (by simp)
    · exact .inr h1
theorem truthsL_sub {b : Bn} (s : Nat) (hs : s < 2 ^ b.kn) {x : Nat} (hx : x ∈ TL b) : x ∈ truthsL b s := by
  have h := List.mem_filter.1 (show x ∈ (List.range (2 ^ b.V.toNat)).filter (okB b (2 ^ b.kn - 1)) from hx)
  refine List.mem_filter.2 ⟨h.1, ?_⟩
  exact okTo_sub b s (2 ^ b.kn - 1) x (fun i hi _ => hasB_all b.kn i hi) b.kn (Nat.le_refl _) h.2
theorem clash_no {b : Bn} (hv : valid b = true) (ht : TL b ≠ []) : (Stab.bySize (knOf b).length).find? (noneB b) = none := by
  rw [List.find?_eq_none]
  intro x hx
  rw [kn_len] at hx
  have hx2 := (mem_bySize (kn_8 hv)).1 hx
  rw [noneB_eq hv]
  obtain ⟨y, hy⟩ := List.exists_mem_of_ne_nil _ ht
  have := truthsL_sub x hx2 hy
  cases h : truthsL b x with
  | nil => rw [h] at this; simp at this
  | cons => simp
/-- Grades. -/
theorem gr_eq (n all : Nat) : grI (n : Int) (all : Int) = gradedI n all := by
  unfold grI gradedI
  by_cases h1 : n = all
  · subst h1; simp
  · rw [if_neg (by omega), if_neg h1]
    by_cases h0 : n = 0
    · subst h0; simp
    · rw [if_neg (by omega), if_neg h0]
theorem drop_count (l : List Nat) (hl : ∀ w ∈ l, sz w ≤ 8) (m : Nat) (hm : m ≤ 9) : ((cl (fun n => l.countP fun w => sz w == n)).drop m).sum = l.countP fun w => decide (m ≤ sz w) := by
  induction l with
  | nil =>
    rcases (show m = 0 ∨ m = 1 ∨ m = 2 ∨ m = 3 ∨ m = 4 ∨ m = 5 ∨ m = 6 ∨ m = 7 ∨ m = 8 ∨ m = 9 by omega) with rfl | rfl | rfl | rfl | rfl | rfl | rfl | rfl | rfl | rfl <;> simp [cl]
  | cons a l ih =>
    have ih := ih (fun w hw => hl w (List.mem_cons_of_mem _ hw))
    have ha := hl a List.mem_cons_self
    rw [List.countP_cons, ← ih]
    clear ih
    generalize hs : sz a = s at *
    have key : ∀ f : Nat → Nat, ((cl (fun n => f n + if s == n then 1 else 0)).drop m).sum = ((cl f).drop m).sum + if decide (m ≤ s) = true then 1 else 0 := by
      intro f
      rcases (show m = 0 ∨ m = 1 ∨ m = 2 ∨ m = 3 ∨ m = 4 ∨ m = 5 ∨ m = 6 ∨ m = 7 ∨ m = 8 ∨ m = 9 by omega) with rfl | rfl | rfl | rfl | rfl | rfl | rfl | rfl | rfl | rfl <;>
      rcases (show s = 0 ∨ s = 1 ∨ s = 2 ∨ s = 3 ∨ s = 4 ∨ s = 5 ∨ s = 6 ∨ s = 7 ∨ s = 8 by omega) with rfl | rfl | rfl | rfl | rfl | rfl | rfl | rfl | rfl <;> simp [cl] <;> omega
    exact (congrArg (fun f : Nat → Nat => ((cl f).drop m).sum) (funext fun n => by rw [List.countP_cons, hs])).trans (key _)
theorem TL_lt {b : Bn} (hv : valid b = true) {w : Nat} (h : w ∈ TL b) : w < 256 := truthsL_lt hv h
theorem TL_sz {b : Bn} (hv : valid b = true) : ∀ w ∈ TL b, sz w ≤ 8 := fun _ h => sz_le (TL_lt hv h)
theorem passed_eq {b : Bn} (hv : valid b = true) : ((cl (countN b.V.toNat b.lo b.hi (knOf b))).drop b.nd.toNat).sum = passN (TL b) b.nd := by
  have hnd := valid_nd hv
  have hV := valid_V hv
  have e : countN b.V.toNat b.lo b.hi (knOf b) = fun n => (TL b).countP fun w => sz w == n := funext fun n => countN_TL hv n
  rw [e, drop_count _ (TL_sz hv) _ (by omega)]
  unfold passN
  apply List.countP_congr
  intro w _
  simp only [decide_eq_true_eq]
  omega
/-- Ends. -/
theorem lo_fold (l : List Nat) (x0 : Nat) : (∀ x ∈ l, l.foldl (fun m x => min m (sz x)) x0 ≤ sz x) ∧ l.foldl (fun m x => min m (sz x)) x0 ≤ x0 ∧ (l.foldl (fun m x => min m (sz x)) x0 = x0 ∨ ∃ x ∈ l, l.foldl (fun m x => min m (sz x)) x0 = sz x) := by
  induction l generalizing x0 with
  | nil => simp
  | cons a l ih =>
    obtain ⟨h1, h2, h3⟩ := ih (min x0 (sz a))
    rw [List.foldl_cons]
    refine ⟨fun x hx => ?_, by omega, ?_⟩
    · rcases List.mem_cons.1 hx with rfl | hx
      · omega
      · exact h1 x hx
    · rcases h3 with h | ⟨x, hx, h⟩
      · rcases Nat.le_total x0 (sz a) with h4 | h4
        · left; omega
        · right; exact ⟨a, List.mem_cons_self, by omega⟩
      · right; exact ⟨x, List.mem_cons_of_mem _ hx, h⟩
theorem hi_fold (l : List Nat) (x0 : Nat) : (∀ x ∈ l, sz x ≤ l.foldl (fun m x => max m (sz x)) x0) ∧ x0 ≤ l.foldl (fun m x => max m (sz x)) x0 ∧ (l.foldl (fun m x => max m (sz x)) x0 = x0 ∨ ∃ x ∈ l, l.foldl (fun m x => max m (sz x)) x0 = sz x) := by
  induction l generalizing x0 with
  | nil => simp
  | cons a l ih =>
    obtain ⟨h1, h2, h3⟩ := ih (max x0 (sz a))
    rw [List.foldl_cons]
    refine ⟨fun x hx => ?_, by omega, ?_⟩
    · rcases List.mem_cons.1 hx with rfl | hx
      · omega
      · exact h1 x hx
    · rcases h3 with h | ⟨x, hx, h⟩
      · rcases Nat.le_total x0 (sz a) with h4 | h4
        · right; exact ⟨a, List.mem_cons_self, by omega⟩
        · left; omega
      · right; exact ⟨x, List.mem_cons_of_mem _ hx, h⟩
theorem head_mem {l : List Nat} (h : l ≠ []) : l.headD 0 ∈ l := by cases l with | nil => exact absurd rfl h | cons a l => simp
theorem loL_prop {l : List Nat} (h : l ≠ []) : (∀ x ∈ l, loL l ≤ sz x) ∧ ∃ x ∈ l, loL l = sz x := by
  obtain ⟨h1, h2, h3⟩ := lo_fold l (sz (l.headD 0))
  refine ⟨h1, ?_⟩
  rcases h3 with h4 | h4
  · exact ⟨_, head_mem h, h4⟩
  · exact h4
theorem hiL_prop {l : List Nat} (h : l ≠ []) : (∀ x ∈ l, sz x ≤ hiL l) ∧ ∃ x ∈ l, hiL l = sz x := by
  obtain ⟨h1, h2, h3⟩ := hi_fold l (sz (l.headD 0))
  refine ⟨h1, ?_⟩
  rcases h3 with h4 | h4
  · exact ⟨_, head_mem h, h4⟩
  · exact h4
theorem countN_pos {b : Bn} (hv : valid b = true) (n : Nat) : 0 < countN b.V.toNat b.lo b.hi (knOf b) n ↔ ∃ x ∈ TL b, sz x = n := by
  rw [countN_TL hv, List.countP_pos_iff]
  simp
theorem countN_none {b : Bn} (hv : valid b = true) (n : Nat) (h : ∀ x ∈ TL b, sz x ≠ n) : countN b.V.toNat b.lo b.hi (knOf b) n = 0 := by
  have := mt (countN_pos hv n).1 (by rintro ⟨x, hx, e⟩; exact h x hx e)
  omega
theorem sz_V {b : Bn} (hv : valid b = true) {x : Nat} (hx : x ∈ TL b) : sz x ≤ b.V.toNat := by
  have h := List.mem_range.1 (List.mem_filter.1 (show x ∈ (List.range (2 ^ b.V.toNat)).filter (okB b (2 ^ b.kn - 1)) from hx)).1
  have hV := valid_V hv
  rw [sz_pop _ (TL_lt hv hx)]
  exact pop_le_k (by omega) h
/-- Quiet numbers. -/
theorem quiet_eq {b : Bn} (hv : valid b = true) (ht : TL b ≠ []) : ∀ k, quietTo (countN b.V.toNat b.lo b.hi (knOf b)) b.V.toNat b.lo b.hi (knOf b) k = quietM (TL b) b.V.toNat k
  | 0 => rfl
  | k + 1 => by
    have hp : 0 < (TL b).length := List.length_pos_iff.2 ht
    unfold quietM
    rw [maskTo_succ, quietTo, quiet_eq hv ht k, with_len hv, sure_all hv hp]
    by_cases h : 0 < (withL (TL b) k).length
    · rw [sure_at hv k h]
      unfold quietM quietB
      rw [decide_eq_true h]
      by_cases h1 : whiteM (withL (TL b) k) b.V.toNat = whiteM (TL b) b.V.toNat <;> by_cases h2 : blackM (withL (TL b) k) b.V.toNat = blackM (TL b) b.V.toNat <;> simp [h, h1, h2]
    · unfold quietM quietB
      rw [decide_eq_false h, if_neg (fun x => h x.1)]
      simp
end Go.Proofs.Ytjbjmoghloabpaa
set_option linter.unusedVariables false
set_option linter.unusedSimpArgs false
namespace Go.Proofs.Ytjbjmoghloabpaa
open Go.RowKit Go.Proofs
attribute [local irreducible] Ord.walk
/-- What a panic within the third region of Tell leaves. -/
def TellStops (n : Nat) (x : Int) (w1 : World) (e : Exit) (a : Act) (w : World) : Prop :=
  e = .panic [{ v := stopV x, recovered := false }] ∧ a.defers = [{ target := Target.fn (Fn.func 73) #[Value.pointer (some { block := n + 1 + 1, off := 0 })], args := #[] }] ∧
  a.tmps.getD 4 undef = .int .i64 0 ∧ a.tmps.getD 5 undef = .int .i64 0 ∧ a.tmps.getD 6 undef = .pointer (some ⟨n + 1 + 1, 0, none⟩) ∧ Below w1.heap.size w1 w

set_option maxHeartbeats 1000000 in
set_option maxRecDepth 100000 in
theorem b_Tell_none (b : Bn) (ga : Option Addr) (gc : Nat) (pa : Option Addr) (pc : Nat) (n : Nat) (w : World) (hg : GsAt w ga b.gs) (hp : PsAt w pa b.ps) (hv : valid b = true) (hi : (inB n 0 b.V) = true) (hs : 0 < csum (countN b.V.toNat b.lo b.hi (knOf b))) (hn : countN b.V.toNat b.lo b.hi (knOf b) n = 0) :
    Calls Try.prog 26 #[bv b ga gc pa pc, .int .i64 n] w (Gives3 (.int .i64 0) (.int .i64 0) (.int .i64 4) w) := by
  have hmf : ∀ (fn : Fn) (first cap : Array Value) (w : World), (Instr.makeFunc fn first cap).run Try.prog w = .ok (.func fn first cap) w := fun _ _ _ _ => rfl
  have HO := Lib.hid (fun w' (hb : Below w.heap.size w w') (hc0 : w'.cell? ⟨w.heap.size + 1, 0, none⟩ = some (.int .i64 n)) => b_open_ok b ga gc pa pc 74 #[.pointer (some ⟨w.heap.size + 1, 0, none⟩)] w' (hg.below hb) (hp.below hb) hv (fun args W => Try.call74 args W) (fun w2 v hb2 h0 => by have := b_is_tell v _ b.V n w2 h0 (cell_later hb2 hc0); rwa [hi] at this))
  have HC := Lib.hid catch_Tell
  have HS := Lib.hid hs
  have HT := Lib.hid (fun w1 v ka kc (hvt : Vt w1 v b b.V.toNat (knOf b) ga gc pa pc ka kc) => b_told_yes hvt HS.out)
  have hle := countN_sum b.V.toNat (by have := valid_V hv; omega) b.lo b.hi (knOf b)
  have q1 := cv_size (countN b.V.toNat b.lo b.hi (knOf b))
  have q2 := cv_ones (countN b.V.toNat b.lo b.hi (knOf b))
  have hcv : Hid (cv (countN b.V.toNat b.lo b.hi (knOf b)) = .agg (ocells (countN b.V.toNat b.lo b.hi (knOf b)))) := rfl
  have hb := inB_of hi
  have hV := valid_V hv
  have hn9 : n < 9 := by omega
  have HM := Lib.hid (b_some (countN b.V.toNat b.lo b.hi (knOf b)) (n : Int) n rfl hn9)
  have hsm : decide (0 < countN b.V.toNat b.lo b.hi (knOf b) n) = false := by simpa using hn
  rw [hsm] at HM
  clear hs q1 q2 hcv hle hn hi hsm hb hV
  generalize cv (countN b.V.toNat b.lo b.hi (knOf b)) = CV at *
  unfold bv at *
  go_enter_defers Try.func26, Try.ntmps26
  go_wp2_with fail
  with_reducible refine (HO.out _ (by (repeat (first | assumption | exact Below.refl _ _ | refine Below.drew ?_ | refine Below.alloc ?_ (by first | omega | (simp; done) | (simp; omega)) _ | refine Below.setCell ?_ (by first | omega | (simp; done) | (simp; omega)) _ | refine Below.trans ?_ (Below.mono (by assumption) (by first | omega | (simp; done) | (simp; omega)))))) (by simp [go_sem]; done)).mono ?_
  rintro e w1 ⟨v, ka, kc, rfl, hvt, hb1, hle⟩
  go_wp2_with fail
  have HT1 := Lib.hid (fun w2 (hb : Below w1.heap.size w1 w2) => HT.out w2 v ka kc (hvt.below hb))
  have ht3 : w1.cell? ⟨w.heap.size + 1, 0, none⟩ = some (.int .i64 n) := by rw [hb1.cell (p := ⟨w.heap.size + 1, 0, none⟩) (by first | omega | (simp; done) | (simp; omega))]; simp [go_sem]
  have hz1 : w.heap.size + 3 ≤ w1.heap.size := by have := hb1.size; simpa using this
  have b1 : Blk w1 (w.heap.size + 2) #[.int .i64 0] 30 := (Blk.new' _ _ _ _ (by simp)).below hb1 (by first | omega | (simp; done) | (simp; omega))
  have hB1 : Below w.heap.size w w1 := (((((Below.refl _ _).alloc (Nat.le_refl _) _).alloc (by first | omega | (simp; done) | (simp; omega)) _).alloc (by first | omega | (simp; done) | (simp; omega)) _).trans (hb1.mono (by first | omega | (simp; done) | (simp; omega))))
  refine wp_mono (Q := TellStops w.heap.size 4 w1) ?_ ?_
  · refine Ord.wp_regionD [(0, 0), (2, 1), (1, 2), (3, 2), (4, 2)] (fun W => Below w1.heap.size w1 W) (by kernel_rfl) (by kernel_rfl) ?_ (Below.refl _ _).drew ?_
    · rintro c ⟨tm, ds⟩ d v u ⟨o, ho, rfl⟩ h
      have hd : o.dst = some 13 ∨ o.dst = some 14 ∨ o.dst = some 15 ∨ o.dst = some 16 ∨ o.dst = some 17 := by
        simp only [List.mem_toArray, List.mem_cons, List.not_mem_nil, or_false] at ho
        rcases ho with rfl | rfl | rfl | rfl | rfl <;> simp
      unfold TellStops at *
      rcases hd with e | e | e | e | e <;> rw [e] at h <;> simpa [Act.put, Array.getD_eq_getD_getElem?] using h
    · go_wp2_with (first
        | (go_at_call 47; refine (HT1.out _ (by (repeat (first | assumption | exact Below.refl _ _ | refine Below.drew ?_ | refine Below.alloc ?_ (by first | omega | (simp; done) | (simp; omega)) _ | refine Below.setCell ?_ (by first | omega | (simp; done) | (simp; omega)) _ | refine Below.trans ?_ (Below.mono (by assumption) (by first | omega | (simp; done) | (simp; omega))))))).mono ?_; rintro e w3 ⟨rfl, hb3⟩; refine at_stop ?_)
        | ((with_reducible refine Ord.at_wild ?_); refine Ord.wild_load (ad := ⟨w.heap.size + 1, 0, none⟩) (.int .i64 n) rfl rfl ?_ ?_; (focus (intro W hW; obtain ⟨cW, _, zW⟩ := below_rules hW rfl; simp [go_sem, cW, ↓IntWalk.iteOmega, ht3]; done)); intro K hK)
        | ((with_reducible refine Ord.at_calm ?_); refine Ord.calm_skip rfl ?_ (fun K hK => ?_); (focus (simp [Region.wanted, yielded]; done))) | with_reducible refine Ord.walk_calm rfl rfl (fun K hK => ?_) | ((with_reducible refine Ord.at_wild ?_); refine Ord.wild_fieldAddr rfl rfl (fun W => by simp [go_sem]; rfl) (fun K hK => ?_)) | ((with_reducible refine Ord.at_wild ?_); refine Ord.wild_move rfl rfl (fun K hK => ?_)) | ((with_reducible refine Ord.at_wild ?_); refine Ord.wild_nilCheck rfl rfl (fun K hK => ?_)) | with_reducible refine Ord.walk_eff rfl (by first | (simp; done) | assumption | (go_simp; done) | (repeat (first | assumption | exact Below.refl _ _ | refine Below.drew ?_ | refine Below.alloc ?_ (by first | omega | (simp; done) | (simp; omega)) _ | refine Below.setCell ?_ (by first | omega | (simp; done) | (simp; omega)) _ | refine Below.trans ?_ (Below.mono (by assumption) (by first | omega | (simp; done) | (simp; omega)))))) (fun K hK => ?_) | with_reducible refine Ord.at_fork ?_ ?_ | with_reducible refine Ord.walk_nil ?_ | (with_reducible refine Ord.next_of (by first | (simp; done) | (go_simp; done) | (repeat (first | assumption | exact Below.refl _ _ | refine Below.drew ?_ | refine Below.alloc ?_ (by first | omega | (simp; done) | (simp; omega)) _ | refine Below.setCell ?_ (by first | omega | (simp; done) | (simp; omega)) _ | refine Below.trans ?_ (Below.mono (by assumption) (by first | omega | (simp; done) | (simp; omega)))))) (fun _ => ?_)))
      unfold Stop
      have hB3 : Below w1.heap.size w1 w3 := (Below.refl _ _).drew.trans (hb3.mono (by simp))
      have z3 := hB3.size
      go_wp2_with (first
        | (go_at_call 48; refine (HM.out _).mono ?_; rintro e w4 ⟨rfl, hb4⟩; refine at_stop ?_)
        | ((with_reducible refine Ord.at_calm ?_); refine Ord.calm_skip rfl ?_ (fun K hK => ?_); (focus (simp [Region.wanted, yielded]; done))) | with_reducible refine Ord.walk_calm rfl rfl (fun K hK => ?_) | ((with_reducible refine Ord.at_wild ?_); refine Ord.wild_fieldAddr rfl rfl (fun W => by simp [go_sem]; rfl) (fun K hK => ?_)) | ((with_reducible refine Ord.at_wild ?_); refine Ord.wild_move rfl rfl (fun K hK => ?_)) | ((with_reducible refine Ord.at_wild ?_); refine Ord.wild_nilCheck rfl rfl (fun K hK => ?_)) | with_reducible refine Ord.walk_eff rfl (by first | (simp; done) | assumption | (go_simp; done) | (repeat (first | assumption | exact Below.refl _ _ | refine Below.drew ?_ | refine Below.alloc ?_ (by first | omega | (simp; done) | (simp; omega)) _ | refine Below.setCell ?_ (by first | omega | (simp; done) | (simp; omega)) _ | refine Below.trans ?_ (Below.mono (by assumption) (by first | omega | (simp; done) | (simp; omega)))))) (fun K hK => ?_) | with_reducible refine Ord.at_fork ?_ ?_ | with_reducible refine Ord.walk_nil ?_ | (with_reducible refine Ord.next_of (by first | (simp; done) | (go_simp; done) | (repeat (first | assumption | exact Below.refl _ _ | refine Below.drew ?_ | refine Below.alloc ?_ (by first | omega | (simp; done) | (simp; omega)) _ | refine Below.setCell ?_ (by first | omega | (simp; done) | (simp; omega)) _ | refine Below.trans ?_ (Below.mono (by assumption) (by first | omega | (simp; done) | (simp; omega)))))) (fun _ => ?_)))
      unfold Stop
      have hB4 : Below w1.heap.size w1 w4 := hB3.trans (hb4.mono z3)
      go_wp2_with (first
        | (go_at_call 76; refine (b_must_no _ _).mono ?_; rintro e w' ⟨rfl, rfl⟩)
        | ((with_reducible refine Ord.at_calm ?_); refine Ord.calm_skip rfl ?_ (fun K hK => ?_); (focus (simp [Region.wanted, yielded]; done))) | with_reducible refine Ord.walk_calm rfl rfl (fun K hK => ?_) | ((with_reducible refine Ord.at_wild ?_); refine Ord.wild_fieldAddr rfl rfl (fun W => by simp [go_sem]; rfl) (fun K hK => ?_)) | ((with_reducible refine Ord.at_wild ?_); refine Ord.wild_move rfl rfl (fun K hK => ?_)) | ((with_reducible refine Ord.at_wild ?_); refine Ord.wild_nilCheck rfl rfl (fun K hK => ?_)) | with_reducible refine Ord.walk_eff rfl (by first | (simp; done) | assumption | (go_simp; done) | (repeat (first | assumption | exact Below.refl _ _ | refine Below.drew ?_ | refine Below.alloc ?_ (by first | omega | (simp; done) | (simp; omega)) _ | refine Below.setCell ?_ (by first | omega | (simp; done) | (simp; omega)) _ | refine Below.trans ?_ (Below.mono (by assumption) (by first | omega | (simp; done) | (simp; omega)))))) (fun K hK => ?_) | with_reducible refine Ord.at_fork ?_ ?_ | with_reducible refine Ord.walk_nil ?_ | (with_reducible refine Ord.next_of (by first | (simp; done) | (go_simp; done) | (repeat (first | assumption | exact Below.refl _ _ | refine Below.drew ?_ | refine Below.alloc ?_ (by first | omega | (simp; done) | (simp; omega)) _ | refine Below.setCell ?_ (by first | omega | (simp; done) | (simp; omega)) _ | refine Below.trans ?_ (Below.mono (by assumption) (by first | omega | (simp; done) | (simp; omega)))))) (fun _ => ?_)))
      exact ⟨rfl, rfl, rfl, rfl, rfl, hB4⟩
  rintro e ⟨tm, ds⟩ w3 ⟨rfl, rfl, h4, h5, h6, hb3⟩
  simp only [Array.getD_eq_getD_getElem?] at h4 h5 h6
  have b3 := b1.below hb3 b1.lt
  have hB : Below w.heap.size w w3 := hB1.trans (hb3.mono hB1.size)
  refine leaves_cons (f := 73) (args := #[.pointer (some ⟨w.heap.size + 2, 0, none⟩)]) (by simp) (by simp [go_sem]) ?_
  refine ((HC.out).1 4 (w.heap.size + 2) _ b3).mono ?_
  rintro e u' w4 ⟨rfl, rfl, ho, hb⟩
  have hB2 : Below w.heap.size w w4 := hB.trans (ho.below hB.size (by simp))
  have r2 := hb.cell
  simp only [settle, Leaves]
  simp [Leaves, settle, results, Try.results26, go_sem, r2, h4, h5, h6]
  exact ⟨rfl, hB2⟩

set_option maxHeartbeats 1000000 in
set_option maxRecDepth 100000 in
theorem b_Tell_ok (b : Bn) (ga : Option Addr) (gc : Nat) (pa : Option Addr) (pc : Nat) (n : Nat) (w : World) (hg : GsAt w ga b.gs) (hp : PsAt w pa b.ps) (hv : valid b = true) (hi : (inB n 0 b.V) = true) (hs : 0 < csum (countN b.V.toNat b.lo b.hi (knOf b))) (hn : 0 < countN b.V.toNat b.lo b.hi (knOf b) n) :
    Calls Try.prog 26 #[bv b ga gc pa pc, .int .i64 n] w (Gives3 (.int .i64 (sureTo (atN n) b.V.toNat b.lo b.hi (knOf b) b.V.toNat).1) (.int .i64 (sureTo (atN n) b.V.toNat b.lo b.hi (knOf b) b.V.toNat).2) (.int .i64 0) w) := by
  have hmf : ∀ (fn : Fn) (first cap : Array Value) (w : World), (Instr.makeFunc fn first cap).run Try.prog w = .ok (.func fn first cap) w := fun _ _ _ _ => rfl
  have HO := Lib.hid (fun w' (hb : Below w.heap.size w w') (hc0 : w'.cell? ⟨w.heap.size + 1, 0, none⟩ = some (.int .i64 n)) => b_open_ok b ga gc pa pc 74 #[.pointer (some ⟨w.heap.size + 1, 0, none⟩)] w' (hg.below hb) (hp.below hb) hv (fun args W => Try.call74 args W) (fun w2 v hb2 h0 => by have := b_is_tell v _ b.V n w2 h0 (cell_later hb2 hc0); rwa [hi] at this))
  have HC := Lib.hid catch_Tell
  have HS := Lib.hid hs
  have HT := Lib.hid (fun w1 v ka kc (hvt : Vt w1 v b b.V.toNat (knOf b) ga gc pa pc ka kc) => b_told_yes hvt HS.out)
  have hle := countN_sum b.V.toNat (by have := valid_V hv; omega) b.lo b.hi (knOf b)
  have q1 := cv_size (countN b.V.toNat b.lo b.hi (knOf b))
  have q2 := cv_ones (countN b.V.toNat b.lo b.hi (knOf b))
  have hcv : Hid (cv (countN b.V.toNat b.lo b.hi (knOf b)) = .agg (ocells (countN b.V.toNat b.lo b.hi (knOf b)))) := rfl
  have hb := inB_of hi
  have hV := valid_V hv
  have hn9 : n < 9 := by omega
  have HM := Lib.hid (b_some (countN b.V.toNat b.lo b.hi (knOf b)) (n : Int) n rfl hn9)
  have hsm : decide (0 < countN b.V.toNat b.lo b.hi (knOf b) n) = true := by simpa using hn
  rw [hsm] at HM
  have HU := Lib.hid (fun w1 v ka kc (hvt : Vt w1 v b b.V.toNat (knOf b) ga gc pa pc ka kc) pb (hp : w1.cell? ⟨pb, 0, none⟩ = some (.int .i64 n)) => b_sure_tell hvt pb n hn9 hp)
  clear hs q1 q2 hcv hle hn hi hsm hb hV
  generalize sureTo (atN n) b.V.toNat b.lo b.hi (knOf b) b.V.toNat = SU at *
  generalize cv (countN b.V.toNat b.lo b.hi (knOf b)) = CV at *
  unfold bv at *
  go_enter_defers Try.func26, Try.ntmps26
  refine wp_noPanic ?_
  go_wp2_with fail
  with_reducible refine (HO.out _ (by (repeat (first | assumption | exact Below.refl _ _ | refine Below.drew ?_ | refine Below.alloc ?_ (by first | omega | (simp; done) | (simp; omega)) _ | refine Below.setCell ?_ (by first | omega | (simp; done) | (simp; omega)) _ | refine Below.trans ?_ (Below.mono (by assumption) (by first | omega | (simp; done) | (simp; omega)))))) (by simp [go_sem]; done)).mono ?_
  rintro e w1 ⟨v, ka, kc, rfl, hvt, hb1, hle⟩
  go_wp2_with fail
  have HT1 := Lib.hid (fun w2 (hb : Below w1.heap.size w1 w2) => HT.out w2 v ka kc (hvt.below hb))
  have ht3 : w1.cell? ⟨w.heap.size + 1, 0, none⟩ = some (.int .i64 n) := by rw [hb1.cell (p := ⟨w.heap.size + 1, 0, none⟩) (by first | omega | (simp; done) | (simp; omega))]; simp [go_sem]
  have hz1 : w.heap.size + 3 ≤ w1.heap.size := by have := hb1.size; simpa using this
  have b1 : Blk w1 (w.heap.size + 2) #[.int .i64 0] 30 := (Blk.new' _ _ _ _ (by simp)).below hb1 (by first | omega | (simp; done) | (simp; omega))
  have hB1 : Below w.heap.size w w1 := (((((Below.refl _ _).alloc (Nat.le_refl _) _).alloc (by first | omega | (simp; done) | (simp; omega)) _).alloc (by first | omega | (simp; done) | (simp; omega)) _).trans (hb1.mono (by first | omega | (simp; done) | (simp; omega))))
  refine Ord.wp_region [(0, 0), (2, 1), (1, 2), (3, 2), (4, 2)] (fun W => Below w1.heap.size w1 W) (by kernel_rfl) (by kernel_rfl) (fun c a d v w h => by cases d <;> exact h) (Below.refl _ _).drew ?_
  go_wp2_with (first
    | (go_at_call 47; refine (HT1.out _ (by (repeat (first | assumption | exact Below.refl _ _ | refine Below.drew ?_ | refine Below.alloc ?_ (by first | omega | (simp; done) | (simp; omega)) _ | refine Below.setCell ?_ (by first | omega | (simp; done) | (simp; omega)) _ | refine Below.trans ?_ (Below.mono (by assumption) (by first | omega | (simp; done) | (simp; omega))))))).mono ?_; rintro e w3 ⟨rfl, hb3⟩; refine at_stop ?_)
    | ((with_reducible refine Ord.at_wild ?_); refine Ord.wild_load (ad := ⟨w.heap.size + 1, 0, none⟩) (.int .i64 n) rfl rfl ?_ ?_; (focus (intro W hW; obtain ⟨cW, _, zW⟩ := below_rules hW rfl; simp [go_sem, cW, ↓IntWalk.iteOmega, ht3]; done)); intro K hK)
    | ((with_reducible refine Ord.at_calm ?_); refine Ord.calm_skip rfl ?_ (fun K hK => ?_); (focus (simp [Region.wanted, yielded]; done))) | with_reducible refine Ord.walk_calm rfl rfl (fun K hK => ?_) | ((with_reducible refine Ord.at_wild ?_); refine Ord.wild_fieldAddr rfl rfl (fun W => by simp [go_sem]; rfl) (fun K hK => ?_)) | ((with_reducible refine Ord.at_wild ?_); refine Ord.wild_move rfl rfl (fun K hK => ?_)) | ((with_reducible refine Ord.at_wild ?_); refine Ord.wild_nilCheck rfl rfl (fun K hK => ?_)) | with_reducible refine Ord.walk_eff rfl (by first | (simp; done) | assumption | (go_simp; done) | (repeat (first | assumption | exact Below.refl _ _ | refine Below.drew ?_ | refine Below.alloc ?_ (by first | omega | (simp; done) | (simp; omega)) _ | refine Below.setCell ?_ (by first | omega | (simp; done) | (simp; omega)) _ | refine Below.trans ?_ (Below.mono (by assumption) (by first | omega | (simp; done) | (simp; omega)))))) (fun K hK => ?_) | with_reducible refine Ord.at_fork ?_ ?_ | with_reducible refine Ord.walk_nil ?_ | (with_reducible refine Ord.next_of (by first | (simp; done) | (go_simp; done) | (repeat (first | assumption | exact Below.refl _ _ | refine Below.drew ?_ | refine Below.alloc ?_ (by first | omega | (simp; done) | (simp; omega)) _ | refine Below.setCell ?_ (by first | omega | (simp; done) | (simp; omega)) _ | refine Below.trans ?_ (Below.mono (by assumption) (by first | omega | (simp; done) | (simp; omega)))))) (fun _ => ?_)))
  unfold Stop
  have hB3 : Below w1.heap.size w1 w3 := (Below.refl _ _).drew.trans (hb3.mono (by simp))
  have z3 := hB3.size
  go_wp2_with (first
    | (go_at_call 48; refine (HM.out _).mono ?_; rintro e w4 ⟨rfl, hb4⟩; refine at_stop ?_)
    | ((with_reducible refine Ord.at_calm ?_); refine Ord.calm_skip rfl ?_ (fun K hK => ?_); (focus (simp [Region.wanted, yielded]; done))) | with_reducible refine Ord.walk_calm rfl rfl (fun K hK => ?_) | ((with_reducible refine Ord.at_wild ?_); refine Ord.wild_fieldAddr rfl rfl (fun W => by simp [go_sem]; rfl) (fun K hK => ?_)) | ((with_reducible refine Ord.at_wild ?_); refine Ord.wild_move rfl rfl (fun K hK => ?_)) | ((with_reducible refine Ord.at_wild ?_); refine Ord.wild_nilCheck rfl rfl (fun K hK => ?_)) | with_reducible refine Ord.walk_eff rfl (by first | (simp; done) | assumption | (go_simp; done) | (repeat (first | assumption | exact Below.refl _ _ | refine Below.drew ?_ | refine Below.alloc ?_ (by first | omega | (simp; done) | (simp; omega)) _ | refine Below.setCell ?_ (by first | omega | (simp; done) | (simp; omega)) _ | refine Below.trans ?_ (Below.mono (by assumption) (by first | omega | (simp; done) | (simp; omega)))))) (fun K hK => ?_) | with_reducible refine Ord.at_fork ?_ ?_ | with_reducible refine Ord.walk_nil ?_ | (with_reducible refine Ord.next_of (by first | (simp; done) | (go_simp; done) | (repeat (first | assumption | exact Below.refl _ _ | refine Below.drew ?_ | refine Below.alloc ?_ (by first | omega | (simp; done) | (simp; omega)) _ | refine Below.setCell ?_ (by first | omega | (simp; done) | (simp; omega)) _ | refine Below.trans ?_ (Below.mono (by assumption) (by first | omega | (simp; done) | (simp; omega)))))) (fun _ => ?_)))
  unfold Stop
  have hB4 : Below w1.heap.size w1 w4 := hB3.trans (hb4.mono z3)
  go_wp2_with (first
    | (go_at_call 76; refine (b_must_yes _ _).mono ?_; rintro e w' ⟨rfl, rfl⟩)
    | ((with_reducible refine Ord.at_calm ?_); refine Ord.calm_skip rfl ?_ (fun K hK => ?_); (focus (simp [Region.wanted, yielded]; done))) | with_reducible refine Ord.walk_calm rfl rfl (fun K hK => ?_) | ((with_reducible refine Ord.at_wild ?_); refine Ord.wild_fieldAddr rfl rfl (fun W => by simp [go_sem]; rfl) (fun K hK => ?_)) | ((with_reducible refine Ord.at_wild ?_); refine Ord.wild_move rfl rfl (fun K hK => ?_)) | ((with_reducible refine Ord.at_wild ?_); refine Ord.wild_nilCheck rfl rfl (fun K hK => ?_)) | with_reducible refine Ord.walk_eff rfl (by first | (simp; done) | assumption | (go_simp; done) | (repeat (first | assumption | exact Below.refl _ _ | refine Below.drew ?_ | refine Below.alloc ?_ (by first | omega | (simp; done) | (simp; omega)) _ | refine Below.setCell ?_ (by first | omega | (simp; done) | (simp; omega)) _ | refine Below.trans ?_ (Below.mono (by assumption) (by first | omega | (simp; done) | (simp; omega)))))) (fun K hK => ?_) | with_reducible refine Ord.at_fork ?_ ?_ | with_reducible refine Ord.walk_nil ?_ | (with_reducible refine Ord.next_of (by first | (simp; done) | (go_simp; done) | (repeat (first | assumption | exact Below.refl _ _ | refine Below.drew ?_ | refine Below.alloc ?_ (by first | omega | (simp; done) | (simp; omega)) _ | refine Below.setCell ?_ (by first | omega | (simp; done) | (simp; omega)) _ | refine Below.trans ?_ (Below.mono (by assumption) (by first | omega | (simp; done) | (simp; omega)))))) (fun _ => ?_)))
  have z4 := hB4.size
  have hvt4 := hvt.below hB4
  have ht4 := cell_later hB4 ht3
  refine (HU.out _ _ _ _ hvt4 _ ht4).mono ?_
  rintro e w5 ⟨rfl, hb5⟩
  have hB5 : Below w1.heap.size w1 w5 := hB4.trans (hb5.mono z4)
  have b3 := b1.below hB5 b1.lt
  have hB3 : Below w.heap.size w w5 := hB1.trans (hB5.mono hB1.size)
  clear hb3 hb4 hb5 hB4 
  go_wp2_with (first
    | (refine wpList_store_blk 80 (.tmp 8) (.tmp 20) agg_sets rfl rfl rfl rfl (Blk.new _ _ _) rfl rfl (by simp [Value.oneCell']) ?_; intro w6 h6))
  have b4 := h6.blk
  have r4 := b4.cell
  have b5 := h6.other (b3.alloc _) (by have := b3.lt; omega)
  have hB5 : Below w.heap.size w w6 := h6.below (hB3.alloc hB3.size _) hB3.size
  have r5 := b5.cell
  have f5 := b5.free
  refine Ord.wp_region [(0, 0), (1, 0), (2, 0), (3, 0), (4, 0), (5, 0), (6, 2)] (fun _ => True) (by kernel_rfl) (by kernel_rfl) (fun c a d v w h => by cases d <;> exact h) trivial ?_
  go_wp2_with (first
    | ((with_reducible refine Ord.at_calm ?_); refine Ord.calm_skip rfl ?_ (fun K hK => ?_); (focus (simp [Region.wanted, yielded]; done))) | with_reducible refine Ord.walk_calm rfl rfl (fun K hK => ?_) | ((with_reducible refine Ord.at_wild ?_); refine Ord.wild_fieldAddr rfl rfl (fun W => by simp [go_sem]; rfl) (fun K hK => ?_)) | ((with_reducible refine Ord.at_wild ?_); refine Ord.wild_move rfl rfl (fun K hK => ?_)) | ((with_reducible refine Ord.at_wild ?_); refine Ord.wild_nilCheck rfl rfl (fun K hK => ?_)) | with_reducible refine Ord.walk_eff rfl (by first | (simp; done) | assumption | (go_simp; done) | (repeat (first | assumption | exact Below.refl _ _ | refine Below.drew ?_ | refine Below.alloc ?_ (by first | omega | (simp; done) | (simp; omega)) _ | refine Below.setCell ?_ (by first | omega | (simp; done) | (simp; omega)) _ | refine Below.trans ?_ (Below.mono (by assumption) (by first | omega | (simp; done) | (simp; omega)))))) (fun K hK => ?_) | with_reducible refine Ord.at_fork ?_ ?_ | with_reducible refine Ord.walk_nil ?_ | (with_reducible refine Ord.next_of (by first | (simp; done) | (go_simp; done) | (repeat (first | assumption | exact Below.refl _ _ | refine Below.drew ?_ | refine Below.alloc ?_ (by first | omega | (simp; done) | (simp; omega)) _ | refine Below.setCell ?_ (by first | omega | (simp; done) | (simp; omega)) _ | refine Below.trans ?_ (Below.mono (by assumption) (by first | omega | (simp; done) | (simp; omega)))))) (fun _ => ?_)))
  refine noPanic_ret ?_
  refine leaves_cons (f := 73) (args := #[.pointer (some ⟨w.heap.size + 2, 0, none⟩)]) (by simp) (by simp [go_sem]) ?_
  refine ((HC.out).2 (w.heap.size + 2) _).mono ?_
  rintro e u' w7 ⟨rfl, rfl, rfl⟩
  have r6 := (b5.set 0 (.int .i64 0)).drew.cell
  simp only [settle, Leaves]
  simp [Leaves, settle, results, Try.results26, go_sem, r6]
  exact ⟨rfl, (hB5.setCell (by first | omega | (simp; done) | (simp; omega)) _).drew⟩
end Go.Proofs.Ytjbjmoghloabpaa
