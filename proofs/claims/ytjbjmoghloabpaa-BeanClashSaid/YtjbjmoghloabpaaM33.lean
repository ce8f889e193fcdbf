/- Parts of a proof: BnAN, BnAF. -/
import Derived.Test.YtjbjmoghloabpaaM29
import Derived.Test.YtjbjmoghloabpaaM32
import Derived.Test.YtjbjmoghloabpaaM25
/- Plain laws of package bean: spans, grades, numbers, in the words of the reference. -/
set_option linter.unusedVariables false
set_option linter.unusedSimpArgs false
namespace Go.Proofs.Ytjbjmoghloabpaa
open Go.RowKit Go.Proofs
attribute [local irreducible] Ord.walk
theorem noneB_eq {b : Bn} (hv : valid b = true) (x : Nat) : noneB b x = (truthsL b x).isEmpty := by
  unfold noneB
  rw [csum_set hv, Bool.eq_iff_iff]
  simp [List.isEmpty_iff, List.length_eq_zero_iff]
theorem kn_len {b : Bn} : (knOf b).length = b.kn := by rw [knOf_len]
theorem kn_8 {b : Bn} (hv : valid b = true) : b.kn ≤ 8 := by
  have := valid_len hv; unfold Bn.kn; omega
theorem clash_yes {b : Bn} (hv : valid b = true) (ht : TL b = []) : (Stab.bySize (knOf b).length).find? (noneB b) = some (clashB b) := by
  have e : noneB b = fun s => (truthsL b s).isEmpty := funext fun x => noneB_eq hv x
  rw [e, kn_len]
  exact clash_find _ b.kn (kn_8 hv) (by show (truthsL b (2 ^ b.kn - 1)).isEmpty = true; rw [show truthsL b (2 ^ b.kn - 1) = TL b from rfl, ht]; rfl)
/-- What is right by all that is known is right by a part of it. -/
theorem okTo_sub (b : Bn) (s t w : Nat) (h : ∀ i, i < b.kn → hasB s i = true → hasB t i = true) : ∀ k, k ≤ b.kn → okTo b t w k = true → okTo b s w k = true
  | 0, _, h0 => h0
  | k + 1, hk, h0 => by
    simp only [okTo, Bool.and_eq_true, Bool.or_eq_true, Bool.not_eq_true'] at h0 ⊢
    refine ⟨okTo_sub b s t w h k (by omega) h0.1, ?_⟩
    rcases h0.2 with h1 | h1
    · left
      cases h2 : hasB s k
      · rfl
      · rw [h k (by omega) h2] at h1; exact absurd h1 (by simp)
    · exact .inr h1
theorem truthsL_sub {b : Bn} (s : Nat) (hs : s < 2 ^ b.kn) {x : Nat} (hx : x ∈ TL b) : x ∈ truthsL b s := by
  have h := List.mem_filter.1 (show x ∈ (List.range (2 ^ b.V.toNat)).filter (okB b (2 ^ b.kn - 1)) from hx)
  refine List.mem_filter.2 ⟨h.1, ?_⟩
  exact okTo_sub b s (2 ^ b.kn - 1) x (fun i hi _ => hasB_all b.kn i hi) b.kn (Nat.le_refl _) h.2
theorem clash_no {b : Bn} (hv : valid b = true) (ht : TL b ≠ []) : (Stab.bySize (knOf b).length).find? (noneB b) = none := by
  rw [List.find?_eq_none]
  intro x hx
  rw [kn_len] at hx
  have hx2 := (mem_bySize (kn_8 hv)).1 hx
  rw [noneB_eq hv]
  obtain ⟨y, hy⟩ := List.exists_mem_of_ne_nil _ ht
  have := truthsL_sub x hx2 hy
  cases h : truthsL b x with
  | nil => rw [h] at this; simp at this
  | cons => simp
/-- Grades. -/
theorem gr_eq (n all : Nat) : grI (n : Int) (all : Int) = gradedI n all := by
  unfold grI gradedI
  by_cases h1 : n = all
  · subst h1; simp
  · rw [if_neg (by omega), if_neg h1]
    by_cases h0 : n = 0
    · subst h0; simp
    · rw [if_neg (by omega), if_neg h0]
theorem drop_count (l : List Nat) (hl : ∀ w ∈ l, sz w ≤ 8) (m : Nat) (hm : m ≤ 9) : ((cl (fun n => l.countP fun w => sz w == n)).drop m).sum = l.countP fun w => decide (m ≤ sz w) := by
  induction l with
  | nil =>
    rcases (show m = 0 ∨ m = 1 ∨ m = 2 ∨ m = 3 ∨ m = 4 ∨ m = 5 ∨ m = 6 ∨ m = 7 ∨ m = 8 ∨ m = 9 by omega) with rfl | rfl | rfl | rfl | rfl | rfl | rfl | rfl | rfl | rfl <;> simp [cl]
  | cons a l ih =>
    have ih := ih (fun w hw => hl w (List.mem_cons_of_mem _ hw))
    have ha := hl a List.mem_cons_self
    rw [List.countP_cons, ← ih]
    clear ih
    generalize hs : sz a = s at *
    have key : ∀ f : Nat → Nat, ((cl (fun n => f n + if s == n then 1 else 0)).drop m).sum = ((cl f).drop m).sum + if decide (m ≤ s) = true then 1 else 0 := by
      intro f
      rcases (show m = 0 ∨ m = 1 ∨ m = 2 ∨ m = 3 ∨ m = 4 ∨ m = 5 ∨ m = 6 ∨ m = 7 ∨ m = 8 ∨ m = 9 by omega) with rfl | rfl | rfl | rfl | rfl | rfl | rfl | rfl | rfl | rfl <;>
      rcases (show s = 0 ∨ s = 1 ∨ s = 2 ∨ s = 3 ∨ s = 4 ∨ s = 5 ∨ s = 6 ∨ s = 7 ∨ s = 8 by omega) with rfl | rfl | rfl | rfl | rfl | rfl | rfl | rfl | rfl <;> simp [cl] <;> omega
    exact (congrArg (fun f : Nat → Nat => ((cl f).drop m).sum) (funext fun n => by rw [List.countP_cons, hs])).trans (key _)
theorem TL_lt {b : Bn} (hv : valid b = true) {w : Nat} (h : w ∈ TL b) : w < 256 := truthsL_lt hv h
theorem TL_sz {b : Bn} (hv : valid b = true) : ∀ w ∈ TL b, sz w ≤ 8 := fun _ h => sz_le (TL_lt hv h)
theorem passed_eq {b : Bn} (hv : valid b = true) : ((cl (countN b.V.toNat b.lo b.hi (knOf b))).drop b.nd.toNat).sum = passN (TL b) b.nd := by
  have hnd := valid_nd hv
  have hV := valid_V hv
  have e : countN b.V.toNat b.lo b.hi (knOf b) = fun n => (TL b).countP fun w => sz w == n := funext fun n => countN_TL hv n
  rw [e, drop_count _ (TL_sz hv) _ (by omega)]
  unfold passN
  apply List.countP_congr
  intro w _
  simp only [decide_eq_true_eq]
  omega
/-- Ends. -/
theorem lo_fold (l : List Nat) (x0 : Nat) : (∀ x ∈ l, l.foldl (fun m x => min m (sz x)) x0 ≤ sz x) ∧ l.foldl (fun m x => min m (sz x)) x0 ≤ x0 ∧ (l.foldl (fun m x => min m (sz x)) x0 = x0 ∨ ∃ x ∈ l, l.foldl (fun m x => min m (sz x)) x0 = sz x) := by
  induction l generalizing x0 with
  | nil => simp
  | cons a l ih =>
    obtain ⟨h1, h2, h3⟩ := ih (min x0 (sz a))
    rw [List.foldl_cons]
    refine ⟨fun x hx => ?_, by omega, ?_⟩
    · rcases List.mem_cons.1 hx with rfl | hx
      · omega
      · exact h1 x hx
    · rcases h3 with h | ⟨x, hx, h⟩
      · rcases Nat.le_total x0 (sz a) with h4 | h4
        · left; omega
        · right; exact ⟨a, List.mem_cons_self, by omega⟩
      · right; exact ⟨x, List.mem_cons_of_mem _ hx, h⟩
theorem hi_fold (l : List Nat) (x0 : Nat) : (∀ x ∈ l, sz x ≤ l.foldl (fun m x => max m (sz x)) x0) ∧ x0 ≤ l.foldl (fun m x => max m (sz x)) x0 ∧ (l.foldl (fun m x => max m (sz x)) x0 = x0 ∨ ∃ x ∈ l, l.foldl (fun m x => max m (sz x)) x0 = sz x) := by
  induction l generalizing x0 with
  | nil => simp
  | cons a l ih =>
    obtain ⟨h1, h2, h3⟩ := ih (max x0 (sz a))
    rw [List.foldl_cons]
    refine ⟨fun x hx => ?_, by omega, ?_⟩
    · rcases List.mem_cons.1 hx with rfl | hx
      · omega
      · exact h1 x hx
    · rcases h3 with h | ⟨x, hx, h⟩
      · rcases Nat.le_total x0 (sz a) with h4 | h4
        · right; exact ⟨a, List.mem_cons_self, by omega⟩
        · left; omega
      · right; exact ⟨x, List.mem_cons_of_mem _ hx, h⟩
theorem head_mem {l : List Nat} (h : l ≠ []) : l.headD 0 ∈ l := by cases l with | nil => exact absurd rfl h | cons a l => simp
theorem loL_prop {l : List Nat} (h : l ≠ []) : (∀ x ∈ l, loL l ≤ sz x) ∧ ∃ x ∈ l, loL l = sz x := by
  obtain ⟨h1, h2, h3⟩ := lo_fold l (sz (l.headD 0))
  refine ⟨h1, ?_⟩
  rcases h3 with h4 | h4
  · exact ⟨_, head_mem h, h4⟩
  · exact h4
theorem hiL_prop {l : List Nat} (h : l ≠ []) : (∀ x ∈ l, sz x ≤ hiL l) ∧ ∃ x ∈ l, hiL l = sz x := by
  obtain ⟨h1, h2, h3⟩ := hi_fold l (sz (l.headD 0))
  refine ⟨h1, ?_⟩
  rcases h3 with h4 | h4
  · exact ⟨_, head_mem h, h4⟩
  · exact h4
theorem countN_pos {b : Bn} (hv : valid b = true) (n : Nat) : 0 < countN b.V.toNat b.lo b.hi (knOf b) n ↔ ∃ x ∈ TL b, sz x = n := by
  rw [countN_TL hv, List.countP_pos_iff]
  simp
theorem countN_none {b : Bn} (hv : valid b = true) (n : Nat) (h : ∀ x ∈ TL b, sz x ≠ n) : countN b.V.toNat b.lo b.hi (knOf b) n = 0 := by
  have := mt (countN_pos hv n).1 (by rintro ⟨x, hx, e⟩; exact h x hx e)
  omega
theorem sz_V {b : Bn} (hv : valid b = true) {x : Nat} (hx : x ∈ TL b) : sz x ≤ b.V.toNat := by
  have h := List.mem_range.1 (List.mem_filter.1 (show x ∈ (List.range (2 ^ b.V.toNat)).filter (okB b (2 ^ b.kn - 1)) from hx)).1
  have hV := valid_V hv
  rw [sz_pop _ (TL_lt hv hx)]
  exact pop_le_k (by omega) h
/-- Quiet numbers. -/
theorem quiet_eq {b : Bn} (hv : valid b = true) (ht : TL b ≠ []) : ∀ k, quietTo (countN b.V.toNat b.lo b.hi (knOf b)) b.V.toNat b.lo b.hi (knOf b) k = quietM (TL b) b.V.toNat k
  | 0 => rfl
  | k + 1 => by
    have hp : 0 < (TL b).length := List.length_pos_iff.2 ht
    unfold quietM
    rw [maskTo_succ, quietTo, quiet_eq hv ht k, with_len hv, sure_all hv hp]
    by_cases h : 0 < (withL (TL b) k).length
    · rw [sure_at hv k h]
      unfold quietM quietB
      rw [decide_eq_true h]
      by_cases h1 : whiteM (withL (TL b) k) b.V.toNat = whiteM (TL b) b.V.toNat <;> by_cases h2 : blackM (withL (TL b) k) b.V.toNat = blackM (TL b) b.V.toNat <;> simp [h, h1, h2]
    · unfold quietM quietB
      rw [decide_eq_false h, if_neg (fun x => h x.1)]
      simp
end Go.Proofs.Ytjbjmoghloabpaa
/- Package bean: Tell, where the number can be, and where it cannot. (Printed by mkAF.py) -/
set_option linter.unusedVariables false
set_option linter.unusedSimpArgs false
namespace Go.Proofs.Ytjbjmoghloabpaa
open Go.RowKit Go.Proofs
attribute [local irreducible] Ord.walk
/-- What a panic within the third region of Tell leaves. -/
def TellStops (n : Nat) (x : Int) (w1 : World) (e : Exit) (a : Act) (w : World) : Prop :=
  e = .panic [{ v := stopV x, recovered := false }] ∧ a.defers = [{ target := Target.fn (Fn.func 73) #[Value.pointer (some { block := n + 1 + 1, off := 0 })], args := #[] }] ∧
  a.tmps.getD 4 undef = .int .i64 0 ∧ a.tmps.getD 5 undef = .int .i64 0 ∧ a.tmps.getD 6 undef = .pointer (some ⟨n + 1 + 1, 0, none⟩) ∧ Below w1.heap.size w1 w

set_option maxHeartbeats 1000000 in
set_option maxRecDepth 100000 in
theorem b_Tell_none (b : Bn) (ga : Option Addr) (gc : Nat) (pa : Option Addr) (pc : Nat) (n : Nat) (w : World) (hg : GsAt w ga b.gs) (hp : PsAt w pa b.ps) (hv : valid b = true) (hi : (inB n 0 b.V) = true) (hs : 0 < csum (countN b.V.toNat b.lo b.hi (knOf b))) (hn : countN b.V.toNat b.lo b.hi (knOf b) n = 0) :
    Calls Try.prog 26 #[bv b ga gc pa pc, .int .i64 n] w (Gives3 (.int .i64 0) (.int .i64 0) (.int .i64 4) w) := by
  have hmf : ∀ (fn : Fn) (first cap : Array Value) (w : World), (Instr.makeFunc fn first cap).run Try.prog w = .ok (.func fn first cap) w := fun _ _ _ _ => rfl
  have HO := Lib.hid (fun w' (hb : Below w.heap.size w w') (hc0 : w'.cell? ⟨w.heap.size + 1, 0, none⟩ = some (.int .i64 n)) => b_open_ok b ga gc pa pc 74 #[.pointer (some ⟨w.heap.size + 1, 0, none⟩)] w' (hg.below hb) (hp.below hb) hv (fun args W => Try.call74 args W) (fun w2 v hb2 h0 => by have := b_is_tell v _ b.V n w2 h0 (cell_later hb2 hc0); rwa [hi] at this))
  have HC := Lib.hid catch_Tell
  have HS := Lib.hid hs
  have HT := Lib.hid (fun w1 v ka kc (hvt : Vt w1 v b b.V.toNat (knOf b) ga gc pa pc ka kc) => b_told_yes hvt HS.out)
  have hle := countN_sum b.V.toNat (by have := valid_V hv; omega) b.lo b.hi (knOf b)
  have q1 := cv_size (countN b.V.toNat b.lo b.hi (knOf b))
  have q2 := cv_ones (countN b.V.toNat b.lo b.hi (knOf b))
  have hcv : Hid (cv (countN b.V.toNat b.lo b.hi (knOf b)) = .agg (ocells (countN b.V.toNat b.lo b.hi (knOf b)))) := rfl
  have hb := inB_of hi
  have hV := valid_V hv
  have hn9 : n < 9 := by omega
  have HM := Lib.hid (b_some (countN b.V.toNat b.lo b.hi (knOf b)) (n : Int) n rfl hn9)
  have hsm : decide (0 < countN b.V.toNat b.lo b.hi (knOf b) n) = false := by simpa using hn
  rw [hsm] at HM
  clear hs q1 q2 hcv hle hn hi hsm hb hV
  generalize cv (countN b.V.toNat b.lo b.hi (knOf b)) = CV at *
  unfold bv at *
  go_enter_defers Try.func26, Try.ntmps26
  go_wp2_with fail
  with_reducible refine (HO.out _ (by (repeat (first | assumption | exact Below.refl _ _ | refine Below.drew ?_ | refine Below.alloc ?_ (by first | omega | (simp; done) | (simp; omega)) _ | refine Below.setCell ?_ (by first | omega | (simp; done) | (simp; omega)) _ | refine Below.trans ?_ (Below.mono (by assumption) (by first | omega | (simp; done) | (simp; omega)))))) (by simp [go_sem]; done)).mono ?_
  rintro e w1 ⟨v, ka, kc, rfl, hvt, hb1, hle⟩
  go_wp2_with fail
  have HT1 := Lib.hid (fun w2 (hb : Below w1.heap.size w1 w2) => HT.out w2 v ka kc (hvt.below hb))
  have ht3 : w1.cell? ⟨w.heap.size + 1, 0, none⟩ = some (.int .i64 n) := by rw [hb1.cell (p := ⟨w.heap.size + 1, 0, none⟩) (by first | omega | (simp; done) | (simp; omega))]; simp [go_sem]
  have hz1 : w.heap.size + 3 ≤ w1.heap.size := by have := hb1.size; simpa using this
  have b1 : Blk w1 (w.heap.size + 2) #[.int .i64 0] 30 := (Blk.new' _ _ _ _ (by simp)).below hb1 (by first | omega | (simp; done) | (simp; omega))
  have hB1 : Below w.heap.size w w1 := (((((Below.refl _ _).alloc (Nat.le_refl _) _).alloc (by first | omega | (simp; done) | (simp; omega)) _).alloc (by first | omega | (simp; done) | (simp; omega)) _).trans (hb1.mono (by first | omega | (simp; done) | (simp; omega))))
  refine wp_mono (Q := TellStops w.heap.size 4 w1) ?_ ?_
  · refine Ord.wp_regionD [(0, 0), (2, 1), (1, 2), (3, 2), (4, 2)] (fun W => Below w1.heap.size w1 W) (by kernel_rfl) (by kernel_rfl) ?_ (Below.refl _ _).drew ?_
    · rintro c ⟨tm, ds⟩ d v u ⟨o, ho, rfl⟩ h
      have hd : o.dst = some 13 ∨ o.dst = some 14 ∨ o.dst = some 15 ∨ o.dst = some 16 ∨ o.dst = some 17 := by
        simp only [List.mem_toArray, List.mem_cons, List.not_mem_nil, or_false] at ho
        rcases ho with rfl | rfl | rfl | rfl | rfl <;> simp
      unfold TellStops at *
      rcases hd with e | e | e | e | e <;> rw [e] at h <;> simpa [Act.put, Array.getD_eq_getD_getElem?] using h
    · go_wp2_with (first
        | (go_at_call 47; refine (HT1.out _ (by (repeat (first | assumption | exact Below.refl _ _ | refine Below.drew ?_ | refine Below.alloc ?_ (by first | omega | (simp; done) | (simp; omega)) _ | refine Below.setCell ?_ (by first | omega | (simp; done) | (simp; omega)) _ | refine Below.trans ?_ (Below.mono (by assumption) (by first | omega | (simp; done) | (simp; omega))))))).mono ?_; rintro e w3 ⟨rfl, hb3⟩; refine at_stop ?_)
        | ((with_reducible refine Ord.at_wild ?_); refine Ord.wild_load (ad := ⟨w.heap.size + 1, 0, none⟩) (.int .i64 n) rfl rfl ?_ ?_; (focus (intro W hW; obtain ⟨cW, _, zW⟩ := below_rules hW rfl; simp [go_sem, cW, ↓IntWalk.iteOmega, ht3]; done)); intro K hK)
        | ((with_reducible refine Ord.at_calm ?_); refine Ord.calm_skip rfl ?_ (fun K hK => ?_); (focus (simp [Region.wanted, yielded]; done))) | with_reducible refine Ord.walk_calm rfl rfl (fun K hK => ?_) | ((with_reducible refine Ord.at_wild ?_); refine Ord.wild_fieldAddr rfl rfl (fun W => by simp [go_sem]; rfl) (fun K hK => ?_)) | ((with_reducible refine Ord.at_wild ?_); refine Ord.wild_move rfl rfl (fun K hK => ?_)) | ((with_reducible refine Ord.at_wild ?_); refine Ord.wild_nilCheck rfl rfl (fun K hK => ?_)) | with_reducible refine Ord.walk_eff rfl (by first | (simp; done) | assumption | (go_simp; done) | (repeat (first | assumption | exact Below.refl _ _ | refine Below.drew ?_ | refine Below.alloc ?_ (by first | omega | (simp; done) | (simp; omega)) _ | refine Below.setCell ?_ (by first | omega | (simp; done) | (simp; omega)) _ | refine Below.trans ?_ (Below.mono (by assumption) (by first | omega | (simp; done) | (simp; omega)))))) (fun K hK => ?_) | with_reducible refine Ord.at_fork ?_ ?_ | with_reducible refine Ord.walk_nil ?_ | (with_reducible refine Ord.next_of (by first | (simp; done) | (go_simp; done) | (repeat (first | assumption | exact Below.refl _ _ | refine Below.drew ?_ | refine Below.alloc ?_ (by first | omega | (simp; done) | (simp; omega)) _ | refine Below.setCell ?_ (by first | omega | (simp; done) | (simp; omega)) _ | refine Below.trans ?_ (Below.mono (by assumption) (by first | omega | (simp; done) | (simp; omega)))))) (fun _ => ?_)))
      unfold Stop
      have hB3 : Below w1.heap.size w1 w3 := (Below.refl _ _).drew.trans (hb3.mono (by simp))
      have z3 := hB3.size
      go_wp2_with (first
        | (go_at_call 48; refine (HM.out _).mono ?_; rintro e w4 ⟨rfl, hb4⟩; refine at_stop ?_)
        | ((with_reducible refine Ord.at_calm ?_); refine Ord.calm_skip rfl ?_ (fun K hK => ?_); (focus (simp [Region.wanted, yielded]; done))) | with_reducible refine Ord.walk_calm rfl rfl (fun K hK => ?_) | ((with_reducible refine Ord.at_wild ?_); refine Ord.wild_fieldAddr rfl rfl (fun W => by simp [go_sem]; rfl) (fun K hK => ?_)) | ((with_reducible refine Ord.at_wild ?_); refine Ord.wild_move rfl rfl (fun K hK => ?_)) | ((with_reducible refine Ord.at_wild ?_); refine Ord.wild_nilCheck rfl rfl (fun K hK => ?_)) | with_reducible refine Ord.walk_eff rfl (by first | (simp; done) | assumption | (go_simp; done) | (repeat (first | assumption | exact Below.refl _ _ | refine Below.drew ?_ | refine Below.alloc ?_ (by first | omega | (simp; done) | (simp; omega)) _ | refine Below.setCell ?_ (by first | omega | (simp; done) | (simp; omega)) _ | refine Below.trans ?_ (Below.mono (by assumption) (by first | omega | (simp; done) | (simp; omega)))))) (fun K hK => ?_) | with_reducible refine Ord.at_fork ?_ ?_ | with_reducible refine Ord.walk_nil ?_ | (with_reducible refine Ord.next_of (by first | (simp; done) | (go_simp; done) | (repeat (first | assumption | exact Below.refl _ _ | refine Below.drew ?_ | refine Below.alloc ?_ (by first | omega | (simp; done) | (simp; omega)) _ | refine Below.setCell ?_ (by first | omega | (simp; done) | (simp; omega)) _ | refine Below.trans ?_ (Below.mono (by assumption) (by first | omega | (simp; done) | (simp; omega)))))) (fun _ => ?_)))
      unfold Stop
      have hB4 : Below w1.heap.size w1 w4 := hB3.trans (hb4.mono z3)
      go_wp2_with (first
        | (go_at_call 76; refine (b_must_no _ _).mono ?_; rintro e w' ⟨rfl, rfl⟩)
        | ((with_reducible refine Ord.at_calm ?_); refine Ord.calm_skip rfl ?_ (fun K hK => ?_); (focus (simp [Region.wanted, yielded]; done))) | with_reducible refine Ord.walk_calm rfl rfl (fun K hK => ?_) | ((with_reducible refine Ord.at_wild ?_); refine Ord.wild_fieldAddr rfl rfl (fun W => by simp [go_sem]; rfl) (fun K hK => ?_)) | ((with_reducible refine Ord.at_wild ?_); refine Ord.wild_move rfl rfl (fun K hK => ?_)) | ((with_reducible refine Ord.at_wild ?_); refine Ord.wild_nilCheck rfl rfl (fun K hK => ?_)) | with_reducible refine Ord.walk_eff rfl (by first | (simp; done) | assumption | (go_simp; done) | (repeat (first | assumption | exact Below.refl _ _ | refine Below.drew ?_ | refine Below.alloc ?_ (by first | omega | (simp; done) | (simp; omega)) _ | refine Below.setCell ?_ (by first | omega | (simp; done) | (simp; omega)) _ | refine Below.trans ?_ (Below.mono (by assumption) (by first | omega | (simp; done) | (simp; omega)))))) (fun K hK => ?_) | with_reducible refine Ord.at_fork ?_ ?_ | with_reducible refine Ord.walk_nil ?_ | (with_reducible refine Ord.next_of (by first | (simp; done) | (go_simp; done) | (repeat (first | assumption | exact Below.refl _ _ | refine Below.drew ?_ | refine Below.alloc ?_ (by first | omega | (simp; done) | (simp; omega)) _ | refine Below.setCell ?_ (by first | omega | (simp; done) | (simp; omega)) _ | refine Below.trans ?_ (Below.mono (by assumption) (by first | omega | (simp; done) | (simp; omega)))))) (fun _ => ?_)))
      exact ⟨rfl, rfl, rfl, rfl, rfl, hB4⟩
  rintro e ⟨tm, ds⟩ w3 ⟨rfl, rfl, h4, h5, h6, hb3⟩
  simp only [Array.getD_eq_getD_getElem?] at h4 h5 h6
  have b3 := b1.below hb3 b1.lt
  have hB : Below w.heap.size w w3 := hB1.trans (hb3.mono hB1.size)
  refine leaves_cons (f := 73) (args := #[.pointer (some ⟨w.heap.size + 2, 0, none⟩)]) (by simp) (by simp [go_sem]) ?_
  refine ((HC.out).1 4 (w.heap.size + 2) _ b3).mono ?_
  rintro e u' w4 ⟨rfl, rfl, ho, hb⟩
  have hB2 : Below w.heap.size w w4 := hB.trans (ho.below hB.size (by simp))
  have r2 := hb.cell
  simp only [settle, Leaves]
  simp [Leaves, settle, results, Try.results26, go_sem, r2, h4, h5, h6]
  exact ⟨rfl, hB2⟩

set_option maxHeartbeats 1000000 in
set_option maxRecDepth 100000 in
theorem b_Tell_ok (b : Bn) (ga : Option Addr) (gc : Nat) (pa : Option Addr) (pc : Nat) (n : Nat) (w : World) (hg : GsAt w ga b.gs) (hp : PsAt w pa b.ps) (hv : valid b = true) (hi : (inB n 0 b.V) = true) (hs : 0 < csum (countN b.V.toNat b.lo b.hi (knOf b))) (hn : 0 < countN b.V.toNat b.lo b.hi (knOf b) n) :
    Calls Try.prog 26 #[bv b ga gc pa pc, .int .i64 n] w (Gives3 (.int .i64 (sureTo (atN n) b.V.toNat b.lo b.hi (knOf b) b.V.toNat).1) (.int .i64 (sureTo (atN n) b.V.toNat b.lo b.hi (knOf b) b.V.toNat).2) (.int .i64 0) w) := by
  have hmf : ∀ (fn : Fn) (first cap : Array Value) (w : World), (Instr.makeFunc fn first cap).run Try.prog w = .ok (.func fn first cap) w := fun _ _ _ _ => rfl
  have HO := Lib.hid (fun w' (hb : Below w.heap.size w w') (hc0 : w'.cell? ⟨w.heap.size + 1, 0, none⟩ = some (.int .i64 n)) => b_open_ok b ga gc pa pc 74 #[.pointer (some ⟨w.heap.size + 1, 0, none⟩)] w' (hg.below hb) (hp.below hb) hv (fun args W => Try.call74 args W) (fun w2 v hb2 h0 => by have := b_is_tell v _ b.V n w2 h0 (cell_later hb2 hc0); rwa [hi] at this))
  have HC := Lib.hid catch_Tell
  have HS := Lib.hid hs
  have HT := Lib.hid (fun w1 v ka kc (hvt : Vt w1 v b b.V.toNat (knOf b) ga gc pa pc ka kc) => b_told_yes hvt HS.out)
  have hle := countN_sum b.V.toNat (by have := valid_V hv; omega) b.lo b.hi (knOf b)
  have q1 := cv_size (countN b.V.toNat b.lo b.hi (knOf b))
  have q2 := cv_ones (countN b.V.toNat b.lo b.hi (knOf b))
  have hcv : Hid (cv (countN b.V.toNat b.lo b.hi (knOf b)) = .agg (ocells (countN b.V.toNat b.lo b.hi (knOf b)))) := rfl
  have hb := inB_of hi
  have hV := valid_V hv
  have hn9 : n < 9 := by omega
  have HM := Lib.hid (b_some (countN b.V.toNat b.lo b.hi (knOf b)) (n : Int) n rfl hn9)
  have hsm : decide (0 < countN b.V.toNat b.lo b.hi (knOf b) n) = true := by simpa using hn
  rw [hsm] at HM
  have HU := Lib.hid (fun w1 v ka kc (hvt : Vt w1 v b b.V.toNat (knOf b) ga gc pa pc ka kc) pb (hp : w1.cell? ⟨pb, 0, none⟩ = some (.int .i64 n)) => b_sure_tell hvt pb n hn9 hp)
  clear hs q1 q2 hcv hle hn hi hsm hb hV
  generalize sureTo (atN n) b.V.toNat b.lo b.hi (knOf b) b.V.toNat = SU at *
  generalize cv (countN b.V.toNat b.lo b.hi (knOf b)) = CV at *
  unfold bv at *
  go_enter_defers Try.func26, Try.ntmps26
  refine wp_noPanic ?_
  go_wp2_with fail
  with_reducible refine (HO.out _ (by (repeat (first | assumption | exact Below.refl _ _ | refine Below.drew ?_ | refine Below.alloc ?_ (by first | omega | (simp; done) | (simp; omega)) _ | refine Below.setCell ?_ (by first | omega | (simp; done) | (simp; omega)) _ | refine Below.trans ?_ (Below.mono (by assumption) (by first | omega | (simp; done) | (simp; omega)))))) (by simp [go_sem]; done)).mono ?_
  rintro e w1 ⟨v, ka, kc, rfl, hvt, hb1, hle⟩
  go_wp2_with fail
  have HT1 := Lib.hid (fun w2 (hb : Below w1.heap.size w1 w2) => HT.out w2 v ka kc (hvt.below hb))
  have ht3 : w1.cell? ⟨w.heap.size + 1, 0, none⟩ = some (.int .i64 n) := by rw [hb1.cell (p := ⟨w.heap.size + 1, 0, none⟩) (by first | omega | (simp; done) | (simp; omega))]; simp [go_sem]
  have hz1 : w.heap.size + 3 ≤ w1.heap.size := by have := hb1.size; simpa using this
  have b1 : Blk w1 (w.heap.size + 2) #[.int .i64 0] 30 := (Blk.new' _ _ _ _ (by simp)).below hb1 (by first | omega | (simp; done) | (simp; omega))
  have hB1 : Below w.heap.size w w1 := (((((Below.refl _ _).alloc (Nat.le_refl _) _).alloc (by first | omega | (simp; done) | (simp; omega)) _).alloc (by first | omega | (simp; done) | (simp; omega)) _).trans (hb1.mono (by first | omega | (simp; done) | (simp; omega))))
  refine Ord.wp_region [(0, 0), (2, 1), (1, 2), (3, 2), (4, 2)] (fun W => Below w1.heap.size w1 W) (by kernel_rfl) (by kernel_rfl) (fun c a d v w h => by cases d <;> exact h) (Below.refl _ _).drew ?_
  go_wp2_with (first
    | (go_at_call 47; refine (HT1.out _ (by (repeat (first | assumption | exact Below.refl _ _ | refine Below.drew ?_ | refine Below.alloc ?_ (by first | omega | (simp; done) | (simp; omega)) _ | refine Below.setCell ?_ (by first | omega | (simp; done) | (simp; omega)) _ | refine Below.trans ?_ (Below.mono (by assumption) (by first | omega | (simp; done) | (simp; omega))))))).mono ?_; rintro e w3 ⟨rfl, hb3⟩; refine at_stop ?_)
    | ((with_reducible refine Ord.at_wild ?_); refine Ord.wild_load (ad := ⟨w.heap.size + 1, 0, none⟩) (.int .i64 n) rfl rfl ?_ ?_; (focus (intro W hW; obtain ⟨cW, _, zW⟩ := below_rules hW rfl; simp [go_sem, cW, ↓IntWalk.iteOmega, ht3]; done)); intro K hK)
    | ((with_reducible refine Ord.at_calm ?_); refine Ord.calm_skip rfl ?_ (fun K hK => ?_); (focus (simp [Region.wanted, yielded]; done))) | with_reducible refine Ord.walk_calm rfl rfl (fun K hK => ?_) | ((with_reducible refine Ord.at_wild ?_); refine Ord.wild_fieldAddr rfl rfl (fun W => by simp [go_sem]; rfl) (fun K hK => ?_)) | ((with_reducible refine Ord.at_wild ?_); refine Ord.wild_move rfl rfl (fun K hK => ?_)) | ((with_reducible refine Ord.at_wild ?_); refine Ord.wild_nilCheck rfl rfl (fun K hK => ?_)) | with_reducible refine Ord.walk_eff rfl (by first | (simp; done) | assumption | (go_simp; done) | (repeat (first | assumption | exact Below.refl _ _ | refine Below.drew ?_ | refine Below.alloc ?_ (by first | omega | (simp; done) | (simp; omega)) _ | refine Below.setCell ?_ (by first | omega | (simp; done) | (simp; omega)) _ | refine Below.trans ?_ (Below.mono (by assumption) (by first | omega | (simp; done) | (simp; omega)))))) (fun K hK => ?_) | with_reducible refine Ord.at_fork ?_ ?_ | with_reducible refine Ord.walk_nil ?_ | (with_reducible refine Ord.next_of (by first | (simp; done) | (go_simp; done) | (repeat (first | assumption | exact Below.refl _ _ | refine Below.drew ?_ | refine Below.alloc ?_ (by first | omega | (simp; done) | (simp; omega)) _ | refine Below.setCell ?_ (by first | omega | (simp; done) | (simp; omega)) _ | refine Below.trans ?_ (Below.mono (by assumption) (by first | omega | (simp; done) | (simp; omega)))))) (fun _ => ?_)))
  unfold Stop
  have hB3 : Below w1.heap.size w1 w3 := (Below.refl _ _).drew.trans (hb3.mono (by simp))
  have z3 := hB3.size
  go_wp2_with (first
    | (go_at_call 48; refine (HM.out _).mono ?_; rintro e w4 ⟨rfl, hb4⟩; refine at_stop ?_)
    | ((with_reducible refine Ord.at_calm ?_); refine Ord.calm_skip rfl ?_ (fun K hK => ?_); (focus (simp [Region.wanted, yielded]; done))) | with_reducible refine Ord.walk_calm rfl rfl (fun K hK => ?_) | ((with_reducible refine Ord.at_wild ?_); refine Ord.wild_fieldAddr rfl rfl (fun W => by simp [go_sem]; rfl) (fun K hK => ?_)) | ((with_reducible refine Ord.at_wild ?_); refine Ord.wild_move rfl rfl (fun K hK => ?_)) | ((with_reducible refine Ord.at_wild ?_); refine Ord.wild_nilCheck rfl rfl (fun K hK => ?_)) | with_reducible refine Ord.walk_eff rfl (by first | (simp; done) | assumption | (go_simp; done) | (repeat (first | assumption | exact Below.refl _ _ | refine Below.drew ?_ | refine Below.alloc ?_ (by first | omega | (simp; done) | (simp; omega)) _ | refine Below.setCell ?_ (by first | omega | (simp; done) | (simp; omega)) _ | refine Below.trans ?_ (Below.mono (by assumption) (by first | omega | (simp; done) | (simp; omega)))))) (fun K hK => ?_) | with_reducible refine Ord.at_fork ?_ ?_ | with_reducible refine Ord.walk_nil ?_ | (with_reducible refine Ord.next_of (by first | (simp; done) | (go_simp; done) | (repeat (first | assumption | exact Below.refl _ _ | refine Below.drew ?_ | refine Below.alloc ?_ (by first | omega | (simp; done) | (simp; omega)) _ | refine Below.setCell ?_ (by first | omega | (simp; done) | (simp; omega)) _ | refine Below.trans ?_ (Below.mono (by assumption) (by first | omega | (simp; done) | (simp; omega)))))) (fun _ => ?_)))
  unfold Stop
  have hB4 : Below w1.heap.size w1 w4 := hB3.trans (hb4.mono z3)
  go_wp2_with (first
    | (go_at_call 76; refine (b_must_yes _ _).mono ?_; rintro e w' ⟨rfl, rfl⟩)
    | ((with_reducible refine Ord.at_calm ?_); refine Ord.calm_skip rfl ?_ (fun K hK => ?_); (focus (simp [Region.wanted, yielded]; done))) | with_reducible refine Ord.walk_calm rfl rfl (fun K hK => ?_) | ((with_reducible refine Ord.at_wild ?_); refine Ord.wild_fieldAddr rfl rfl (fun W => by simp [go_sem]; rfl) (fun K hK => ?_)) | ((with_reducible refine Ord.at_wild ?_); refine Ord.wild_move rfl rfl (fun K hK => ?_)) | ((with_reducible refine Ord.at_wild ?_); refine Ord.wild_nilCheck rfl rfl (fun K hK => ?_)) | with_reducible refine Ord.walk_eff rfl (by first | (simp; done) | assumption | (go_simp; done) | (repeat (first | assumption | exact Below.refl _ _ | refine Below.drew ?_ | refine Below.alloc ?_ (by first | omega | (simp; done) | (simp; omega)) _ | refine Below.setCell ?_ (by first | omega | (simp; done) | (simp; omega)) _ | refine Below.trans ?_ (Below.mono (by assumption) (by first | omega | (simp; done) | (simp; omega)))))) (fun K hK => ?_) | with_reducible refine Ord.at_fork ?_ ?_ | with_reducible refine Ord.walk_nil ?_ | (with_reducible refine Ord.next_of (by first | (simp; done) | (go_simp; done) | (repeat (first | assumption | exact Below.refl _ _ | refine Below.drew ?_ | refine Below.alloc ?_ (by first | omega | (simp; done) | (simp; omega)) _ | refine Below.setCell ?_ (by first | omega | (simp; done) | (simp; omega)) _ | refine Below.trans ?_ (Below.mono (by assumption) (by first | omega | (simp; done) | (simp; omega)))))) (fun _ => ?_)))
  have z4 := hB4.size
  have hvt4 := hvt.below hB4
  have ht4 := cell_later hB4 ht3
  refine (HU.out _ _ _ _ hvt4 _ ht4).mono ?_
  rintro e w5 ⟨rfl, hb5⟩
  have hB5 : Below w1.heap.size w1 w5 := hB4.trans (hb5.mono z4)
  have b3 := b1.below hB5 b1.lt
  have hB3 : Below w.heap.size w w5 := hB1.trans (hB5.mono hB1.size)
  clear hb3 hb4 hb5 hB4 
  go_wp2_with (first
    | (refine wpList_store_blk 80 (.tmp 8) (.tmp 20) agg_sets rfl rfl rfl rfl (Blk.new _ _ _) rfl rfl (by simp [Value.oneCell']) ?_; intro w6 h6))
  have b4 := h6.blk
  have r4 := b4.cell
  have b5 := h6.other (b3.alloc _) (by have := b3.lt; omega)
  have hB5 : Below w.heap.size w w6 := h6.below (hB3.alloc hB3.size _) hB3.size
  have r5 := b5.cell
  have f5 := b5.free
  refine Ord.wp_region [(0, 0), (1, 0), (2, 0), (3, 0), (4, 0), (5, 0), (6, 2)] (fun _ => True) (by kernel_rfl) (by kernel_rfl) (fun c a d v w h => by cases d <;> exact h) trivial ?_
  go_wp2_with (first
    | ((with_reducible refine Ord.at_calm ?_); refine Ord.calm_skip rfl ?_ (fun K hK => ?_); (focus (simp [Region.wanted, yielded]; done))) | with_reducible refine Ord.walk_calm rfl rfl (fun K hK => ?_) | ((with_reducible refine Ord.at_wild ?_); refine Ord.wild_fieldAddr rfl rfl (fun W => by simp [go_sem]; rfl) (fun K hK => ?_)) | ((with_reducible refine Ord.at_wild ?_); refine Ord.wild_move rfl rfl (fun K hK => ?_)) | ((with_reducible refine Ord.at_wild ?_); refine Ord.wild_nilCheck rfl rfl (fun K hK => ?_)) | with_reducible refine Ord.walk_eff rfl (by first | (simp; done) | assumption | (go_simp; done) | (repeat (first | assumption | exact Below.refl _ _ | refine Below.drew ?_ | refine Below.alloc ?_ (by first | omega | (simp; done) | (simp; omega)) _ | refine Below.setCell ?_ (by first | omega | (simp; done) | (simp; omega)) _ | refine Below.trans ?_ (Below.mono (by assumption) (by first | omega | (simp; done) | (simp; omega)))))) (fun K hK => ?_) | with_reducible refine Ord.at_fork ?_ ?_ | with_reducible refine Ord.walk_nil ?_ | (with_reducible refine Ord.next_of (by first | (simp; done) | (go_simp; done) | (repeat (first | assumption | exact Below.refl _ _ | refine Below.drew ?_ | refine Below.alloc ?_ (by first | omega | (simp; done) | (simp; omega)) _ | refine Below.setCell ?_ (by first | omega | (simp; done) | (simp; omega)) _ | refine Below.trans ?_ (Below.mono (by assumption) (by first | omega | (simp; done) | (simp; omega)))))) (fun _ => ?_)))
  refine noPanic_ret ?_
  refine leaves_cons (f := 73) (args := #[.pointer (some ⟨w.heap.size + 2, 0, none⟩)]) (by simp) (by simp [go_sem]) ?_
  refine ((HC.out).2 (w.heap.size + 2) _).mono ?_
  rintro e u' w7 ⟨rfl, rfl, rfl⟩
  have r6 := (b5.set 0 (.int .i64 0)).drew.cell
  simp only [settle, Leaves]
  simp [Leaves, settle, results, Try.results26, go_sem, r6]
  exact ⟨rfl, (hB5.setCell (by first | omega | (simp; done) | (simp; omega)) _).drew⟩
end Go.Proofs.Ytjbjmoghloabpaa
