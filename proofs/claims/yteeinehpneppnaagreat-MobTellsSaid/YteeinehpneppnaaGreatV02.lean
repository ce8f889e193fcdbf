/- Parts of a proof: OrdV, MoX, MoY, ZaF. -/
import Derived.Test.YteeinehpneppnaaGreatOrdU
import Derived.Test.YteeinehpneppnaaGreatRoundK
import Derived.Test.YteeinehpneppnaaGreatMoU
import Derived.Test.YteeinehpneppnaaGreatV01
import Derived.Test.YteeinehpneppnaaGreatMoR
/- Drawn regions by an invariant: what holds whichever operations have come up. -/
set_option linter.unusedVariables false
set_option linter.unusedSimpArgs false
namespace Go.Ord
variable {P : Program} {ops : Array Oper} {Q : Exit → Act → World → Prop}
/-- One more operation has come up. -/
def upd (ls : Nat → Bool) (i : Nat) : Nat → Bool := fun j => j == i || ls j
def unl (n : Nat) (listed : Array Bool) : Nat := ((List.range n).filter fun i => !listed.getD i false).length
theorem upd_set {listed : Array Bool} {i : Nat} (hi : i < listed.size) : (fun j => (listed.setIfInBounds i true).getD j false) = upd (fun j => listed.getD j false) i := by
  funext j
  unfold upd
  by_cases h : j = i
  · subst h; simp [hi]
  · rw [getD_set_ne false (Ne.symm h)]; simp [h]
theorem unl_set {n : Nat} {listed : Array Bool} {i : Nat} (hn : i < n) (hi : i < listed.size) (h : listed.getD i false = false) : unl n (listed.setIfInBounds i true) + 1 ≤ unl n listed := by
  unfold unl
  have key : ∀ l : List Nat, l.Nodup → i ∈ l → (l.filter fun j => !(listed.setIfInBounds i true).getD j false).length + 1 ≤ (l.filter fun j => !listed.getD j false).length := by
    intro l
    induction l with
    | nil => intro _ h; cases h
    | cons x l ih =>
      intro hnd hm
      have hx := List.nodup_cons.1 hnd
      by_cases hxi : x = i
      · subst hxi
        have e1 : (listed.setIfInBounds x true).getD x false = true := by simp [hi]
        have e2 : (l.filter fun j => !(listed.setIfInBounds x true).getD j false) = (l.filter fun j => !listed.getD j false) := by
          apply List.filter_congr
          intro j hj
          rw [getD_set_ne false (show x ≠ j from fun e => hx.1 (e ▸ hj))]
        rw [List.filter_cons, List.filter_cons, e1, h, e2]
        simp
      · have hm2 : i ∈ l := by
          rcases List.mem_cons.1 hm with h | h
          · exact absurd h.symm hxi
          · exact h
        have ih2 := ih hx.2 hm2
        have e1 : (listed.setIfInBounds i true).getD x false = listed.getD x false := getD_set_ne false (Ne.symm hxi)
        rw [List.filter_cons, List.filter_cons, e1]
        split
        · simp only [List.length_cons]; omega
        · exact ih2
  exact key _ List.nodup_range (List.mem_range.2 hn)
theorem wpOp_mono' {i : Nat} {K K' : Act → World → Prop} {a : Act} {w : World} (h : ∀ a w, K a w → K' a w) (hh : wpOp P ops Q i K a w) : wpOp P ops Q i K' a w := by
  unfold wpOp at *
  cases ho : ops[i]? with
  | none => simp only [ho] at hh ⊢; exact h _ _ hh
  | some o =>
    simp only [ho] at hh ⊢
    split
    · rename_i hw
      simp only [hw, if_true] at hh
      exact hh.imp (Oper.wp_mono h) id
    · rename_i hw
      simp only [hw] at hh
      exact h _ _ hh
theorem any_inv {Inv : (Nat → Bool) → Act → World → Prop} (topo : ∀ (i : Nat) (o : Oper), ops[i]? = some o → ∀ e ∈ o.after, e.on < i)
    (hstep : ∀ (i : Nat) (o : Oper) ls a w, ops[i]? = some o → ls i = false → (∀ e ∈ o.after, Region.binds .any e = true → ls e.on = true) → Inv ls a w → wpOp P ops Q i (Inv (upd ls i)) a w)
    (hend : ∀ ls a w, (∀ i, i < ops.size → ls i = true) → Inv ls a w → Q .normal a w) :
    ∀ (fuel : Nat) (listed : Array Bool) (a : Act) (w : World), listed.size = ops.size → unl ops.size listed ≤ fuel → Inv (fun j => listed.getD j false) a w → wpAny P .any ops Q fuel listed a w := by
  have hall : ∀ (listed : Array Bool), listed.size = ops.size → Region.ready .any ops listed = [] → ∀ i, i < ops.size → listed.getD i false = true := by
    intro listed hs hr i
    induction i using Nat.strongRecOn with
    | _ i ih =>
      intro hi
      cases hx : listed.getD i false with
      | true => rfl
      | false =>
        exfalso
        have : i ∈ Region.ready .any ops listed := by
          refine mem_ready.2 ⟨by rw [getD_sw (by rw [hs]; exact hi)]; exact hx, ops[i], by simp [hi], fun e he _ => ?_⟩
          have hlt := topo i ops[i] (by simp [hi]) e he
          exact ih e.on hlt (by omega)
        rw [hr] at this
        cases this
  intro fuel
  induction fuel with
  | zero =>
    intro listed a w hs hu hI
    have hr : Region.ready .any ops listed = [] := by
      apply List.eq_nil_iff_forall_not_mem.2
      intro i hi
      obtain ⟨h1, o, ho, -⟩ := mem_ready.1 hi
      have hlt : i < ops.size := (Array.getElem?_eq_some_iff.1 ho).1
      rw [getD_sw (by rw [hs]; exact hlt)] at h1
      have : i ∈ (List.range ops.size).filter fun i => !listed.getD i false := List.mem_filter.2 ⟨List.mem_range.2 hlt, by simp only [h1]; rfl⟩
      have h0 : ((List.range ops.size).filter fun i => !listed.getD i false) = [] := List.eq_nil_of_length_eq_zero (by unfold unl at hu; omega)
      rw [h0] at this
      cases this
    exact ⟨hr, hend _ a w (hall listed hs hr) hI⟩
  | succ fuel ih =>
    intro listed a w hs hu hI
    refine ⟨fun hr => hend _ a w (hall listed hs hr) hI, fun i hi => ?_⟩
    obtain ⟨h1, o, ho, hp⟩ := mem_ready.1 hi
    have hlt : i < ops.size := (Array.getElem?_eq_some_iff.1 ho).1
    rw [getD_sw (by rw [hs]; exact hlt)] at h1
    refine wpOp_mono' (fun a w h => ih (listed.setIfInBounds i true) a w (by simp [hs]) (by have := unl_set hlt (by rw [hs]; exact hlt) h1; omega) ?_) (hstep i o _ a w ho h1 hp hI)
    rw [upd_set (by rw [hs]; exact hlt)]
    exact h
theorem wpOp_of_walk {R : Act → World → Prop} {k : Nat} {a : Act} {w : World} (h : walk P ops (fun _ => True) (Qn Q R) [(k, 2)] a w) : wpOp P ops Q k R a w := by
  rw [walk] at h
  unfold wpOp
  cases ho : ops[k]? with
  | none => simp only [ho] at h
  | some o =>
    simp only [ho] at h ⊢
    split
    · rename_i hwt
      simp only [hwt, if_true] at h
      exact h.imp (fun h => Two.wp_qn (Oper.wp_mono (fun a w hk => hk.2) h)) (fun h => ⟨h.1, letsOut_qn h.2⟩)
    · rename_i hwt
      simp only [hwt] at h
      exact h
def topoB (lo : List Oper) : Bool := (List.range lo.length).all fun i => ((lo[i]?).map fun o => o.after.all fun e => decide (e.on < i)).getD true
/-- What has to have come up ahead of an operation. -/
def predsB (lo : List Oper) (ls : Nat → Bool) (i : Nat) : Bool := ((lo[i]?).map fun o => o.after.all fun e => !Region.binds .any e || ls e.on).getD false
theorem wp_regionI {id : Nat} {a : Act} {w : World} {lo : List Oper} (Inv : (Nat → Bool) → Act → World → Prop) (hm : P.follows .mixedOrders = true) (ht : topoB lo = true) (h0 : Inv (fun _ => false) a w.drew)
    (hstep : ∀ i, i < lo.length → ∀ ls a w, ls i = false → predsB lo ls i = true → Inv ls a w → walk P lo.toArray (fun _ => True) (Qn Q (Inv (upd ls i))) [(i, 2)] a w)
    (hend : ∀ ls a w, (∀ i, i < lo.length → ls i = true) → Inv ls a w → Q .normal a w) : (Code.region id lo.toArray true).wp P Q a w := by
  refine wp_region_any hm (any_inv (Inv := Inv) ?_ ?_ (fun ls a w h hI => hend ls a w (by simpa using h) hI) _ _ a _ (by simp) ?_ ?_)
  · intro i o ho e he
    have hlt : i < lo.length := by have := (Array.getElem?_eq_some_iff.1 ho).1; simpa using this
    unfold topoB at ht
    have h1 := List.all_eq_true.1 ht i (List.mem_range.2 hlt)
    have ho' : lo[i]? = some o := by simpa using ho
    rw [ho'] at h1
    simp only [Option.map_some, Option.getD_some] at h1
    have h2 := Array.all_eq_true_iff_forall_mem.1 h1 e he
    simpa using h2
  · intro i o ls a w ho hi hp hI
    have hlt : i < lo.length := by have := (Array.getElem?_eq_some_iff.1 ho).1; simpa using this
    have ho' : lo[i]? = some o := by simpa using ho
    refine wpOp_of_walk (hstep i hlt ls a w hi ?_ hI)
    unfold predsB
    rw [ho']
    simp only [Option.map_some, Option.getD_some]
    refine Array.all_eq_true_iff_forall_mem.2 fun e he => ?_
    cases hb : Region.binds .any e with
    | false => rfl
    | true => simp [hp e he hb]
  · unfold unl
    exact Nat.le_trans (List.length_filter_le _ _) (by simp)
  · have : (fun j => (Array.replicate lo.toArray.size false).getD j false) = fun _ => false := by
      funext j
      by_cases h : j < lo.length <;> simp [h]
    rw [this]; exact h0
theorem wpIn_regionI {l n : Nat} {id : Nat} {a : Act} {w : World} {lo : List Oper} (hO : ¬ LetsOut Q) (Inv : (Nat → Bool) → Act → World → Prop) (hm : P.follows .mixedOrders = true) (ht : topoB lo = true) (hd : lo.all noDefer = true) (h0 : Inv (fun _ => false) a w.drew)
    (hstep : ∀ i, i < lo.length → ∀ ls a w, ls i = false → predsB lo ls i = true → Inv ls a w → walk P lo.toArray (fun _ => True) (Qn Q (Inv (upd ls i))) [(i, 2)] a w)
    (hend : ∀ ls a w, (∀ i, i < lo.length → ls i = true) → Inv ls a w → Q .normal a w) : (Code.region id lo.toArray true).wpIn (Fence.wide.inRound l) n P Q a w := by
  refine wpIn_region_any hm (wpAnyIn_of hO (fun i o ho => List.all_eq_true.1 hd o (List.mem_of_getElem? (by simpa using ho))) _ _ _ _ ?_)
  refine any_inv (Inv := Inv) ?_ ?_ (fun ls a w h hI => hend ls a w (by simpa using h) hI) _ _ a _ (by simp) ?_ ?_
  · intro i o ho e he
    have hlt : i < lo.length := by have := (Array.getElem?_eq_some_iff.1 ho).1; simpa using this
    unfold topoB at ht
    have h1 := List.all_eq_true.1 ht i (List.mem_range.2 hlt)
    have ho' : lo[i]? = some o := by simpa using ho
    rw [ho'] at h1
    simp only [Option.map_some, Option.getD_some] at h1
    have h2 := Array.all_eq_true_iff_forall_mem.1 h1 e he
    simpa using h2
  · intro i o ls a w ho hi hp hI
    have hlt : i < lo.length := by have := (Array.getElem?_eq_some_iff.1 ho).1; simpa using this
    have ho' : lo[i]? = some o := by simpa using ho
    refine wpOp_of_walk (hstep i hlt ls a w hi ?_ hI)
    unfold predsB
    rw [ho']
    simp only [Option.map_some, Option.getD_some]
    refine Array.all_eq_true_iff_forall_mem.2 fun e he => ?_
    cases hb : Region.binds .any e with
    | false => rfl
    | true => simp [hp e he hb]
  · unfold unl
    exact Nat.le_trans (List.length_filter_le _ _) (by simp)
  · have : (fun j => (Array.replicate lo.toArray.size false).getD j false) = fun _ => false := by
      funext j
      by_cases h : j < lo.length <;> simp [h]
    rw [this]; exact h0
end Go.Ord
/- Package mob: Ahead: the region with two calls and two allocations, by an invariant. -/
set_option linter.unusedVariables false
namespace Go.Ord
theorem at_qn {Q : Exit → Act → World → Prop} {R : Act → World → Prop} {a : Act} {w : World} (h : R a w) : Qn Q R .normal a w := h
end Go.Ord
set_option linter.unusedVariables false
set_option linter.unusedSimpArgs false
namespace Go.Proofs.YteeinehpneppnaaGreat
open Go.RowKit Go.Proofs
attribute [local irreducible] Ord.walk
attribute [local go_sem] Oper.semAt_some
noncomputable def aR8 : Code := sL (sI (sI (sI (sR (sL (sR (sR (sR (sR (sR (Tryz.f18.body.getD .skip)))))))))))
/-- What holds in this region whichever operations have come up. -/
def AhI (F : Value → Value → Value → Value → Value → Value → Value → Value → Value → Value → Array Value) (W0 : World) (mb : Nat) (m : Mb) (wp z t11 n1 n2 : Nat) (i k : Nat) (L : List Int) (sa sb : Int × Int) (W2 : World) (ls : Nat → Bool) (a : Act) (w : World) : Prop :=
  ∃ x12 x13 x27 x28 x29 x30 x31 x32 x33 x34 : Value, a = ⟨F x12 x13 x27 x28 x29 x30 x31 x32 x33 x34, []⟩ ∧
    (Way W0 mb m w ∧ Lets (fun j _ => j = mb) W2 w ∧ Blk w z #[.pointer (some ⟨wp, 0, none⟩)] 51 ∧ Blk w n1 #[.int .i64 (i : Int)] 3 ∧ Blk w n2 #[.int .i64 (k : Int)] 3 ∧ Blk w t11 (legC L) 58) ∧
    (ls 0 = true → x27 = .pointer (some ⟨wp, 0, none⟩)) ∧ (ls 1 = true → x28 = .int .i64 (i : Int)) ∧ (ls 2 = true → x29 = .agg (legC L)) ∧ (ls 3 = true → x30 = spv sa) ∧
    (ls 4 = true → x31 = .pointer (some ⟨wp, 0, none⟩)) ∧ (ls 5 = true → x32 = .int .i64 (k : Int)) ∧ (ls 6 = true → x33 = .agg (legC L)) ∧ (ls 7 = true → x34 = spv sb) ∧
    (ls 8 = true → ∃ p, x12 = .pointer (some ⟨p, 0, none⟩) ∧ W2.heap.size ≤ p ∧ Blk w p (if ls 10 = true then #[.int .i64 sa.1, .int .i64 sa.2] else #[.int .i64 0, .int .i64 0]) 31) ∧
    (ls 9 = true → ∃ p, x13 = .pointer (some ⟨p, 0, none⟩) ∧ W2.heap.size ≤ p ∧ Blk w p (if ls 11 = true then #[.int .i64 sb.1, .int .i64 sb.2] else #[.int .i64 0, .int .i64 0]) 31) ∧
    (ls 10 = true → ls 8 = true) ∧ (ls 11 = true → ls 9 = true) ∧ (ls 8 = true → ls 9 = true → x12 ≠ x13)
set_option maxHeartbeats 40000000 in
set_option maxRecDepth 100000 in
theorem ahead_r8 {u0 u1 u2 u3 u6 u7 u9 u10 u12 u13 u14 u15 u16 u17 u18 u19 u20 u21 u22 u23 u24 u25 u26 u27 u28 u29 u30 u31 u32 u33 u34 u35 u36 u37 u38 u39 u40 u41 u42 u43 u44 u45 u46 u47 u48 u49 u50 u51 u52 u53 : Value} {m : Mb} {A : Ma} {pa : Option Addr} {pc wp mb : Nat} {W0 : World} (hv : validM m = true) (hO : Opened W0 wp m A pa pc mb) {L : List Int} (hL : L ∈ prodL m.legs) (i k : Nat) (hi : i < m.herds.length) (hk : k < m.herds.length)
    (l : Nat) (Q : Exit → Act → World → Prop) (hQ : ¬ LetsOut Q) (W2 : World) (z t11 n1 n2 : Nat) (hW : Way W0 mb m W2) (c8 : Blk W2 z #[.pointer (some ⟨wp, 0, none⟩)] 51) (c1 : Blk W2 n1 #[.int .i64 (i : Int)] 3) (c2 : Blk W2 n2 #[.int .i64 (k : Int)] 3) (c11 : Blk W2 t11 (legC L) 58)
    (hz : z ≠ mb) (hn1 : n1 ≠ mb) (hn2 : n2 ≠ mb) (ht : t11 ≠ mb)
    (hexit : ∀ (x27 x28 x29 x30 x31 x32 x33 x34 : Value) p q W', Way W0 mb m W' → Lets (fun j _ => j = mb) W2 W' → p ≠ q → W2.heap.size ≤ p → W2.heap.size ≤ q → Blk W' p #[.int .i64 (comeS m L i (shedN m)).1, .int .i64 (comeS m L i (shedN m)).2] 31 → Blk W' q #[.int .i64 (comeS m L k (shedN m)).1, .int .i64 (comeS m L k (shedN m)).2] 31 →
      Q .normal ⟨#[u0, u1, u2, u3, .pointer (some ⟨n1, 0, none⟩), .pointer (some ⟨n2, 0, none⟩), u6, u7, .pointer (some ⟨z, 0, none⟩), u9, u10, .pointer (some ⟨t11, 0, none⟩), .pointer (some ⟨p, 0, none⟩), .pointer (some ⟨q, 0, none⟩), u14, u15, u16, u17, u18, u19, u20, u21, u22, u23, u24, u25, u26, x27, x28, x29, x30, x31, x32, x33, x34, u35, u36, u37, u38, u39, u40, u41, u42, u43, u44, u45, u46, u47, u48, u49, u50, u51, u52, u53], []⟩ W') :
    aR8.wpIn (Fence.wide.inRound l) 0 Tryz.prog Q ⟨#[u0, u1, u2, u3, .pointer (some ⟨n1, 0, none⟩), .pointer (some ⟨n2, 0, none⟩), u6, u7, .pointer (some ⟨z, 0, none⟩), u9, u10, .pointer (some ⟨t11, 0, none⟩), u12, u13, u14, u15, u16, u17, u18, u19, u20, u21, u22, u23, u24, u25, u26, u27, u28, u29, u30, u31, u32, u33, u34, u35, u36, u37, u38, u39, u40, u41, u42, u43, u44, u45, u46, u47, u48, u49, u50, u51, u52, u53], []⟩ W2 := by
  have HE := Lib.hid hexit
  have hmb := hO.mb_lt
  have hsz := hW.2.size
  have lz := c8.lt
  have l1 := c1.lt
  have l2 := c2.lt
  have l11 := c11.lt
  clear hexit
  have HS : Hid (∀ (j : Nat), j < m.herds.length → ∀ W, Way W0 mb m W → Calls Tryz.prog 61 #[.pointer (some ⟨wp, 0, none⟩), .int .i64 (j : Int), .agg (legC L)] W (GivesW W0 mb m (spv (comeS m L j (shedN m))) W)) := fun j hj W hw => m_shedW hv hO hL j hj W hw
  have HSi := Lib.hid (HS.out i hi)
  have HSk := Lib.hid (HS.out k hk)
  clear HS
  generalize comeS m L i (shedN m) = sa at *
  generalize comeS m L k (shedN m) = sb at *
  conv => arg 4; whnf
  refine Ord.wpIn_regionI hQ (AhI (fun x12 x13 x27 x28 x29 x30 x31 x32 x33 x34 => #[u0, u1, u2, u3, .pointer (some ⟨n1, 0, none⟩), .pointer (some ⟨n2, 0, none⟩), u6, u7, .pointer (some ⟨z, 0, none⟩), u9, u10, .pointer (some ⟨t11, 0, none⟩), x12, x13, u14, u15, u16, u17, u18, u19, u20, u21, u22, u23, u24, u25, u26, x27, x28, x29, x30, x31, x32, x33, x34, u35, u36, u37, u38, u39, u40, u41, u42, u43, u44, u45, u46, u47, u48, u49, u50, u51, u52, u53]) W0 mb m wp z t11 n1 n2 i k L sa sb W2) (by kernel_rfl) (by kernel_rfl) (by kernel_rfl) ?_ ?_ ?_
  · exact ⟨_, _, _, _, _, _, _, _, _, _, rfl, ⟨hW.drew, (Lets.refl _ _).drew, c8.drew, c1.drew, c2.drew, c11.drew⟩, by simp, by simp, by simp, by simp, by simp, by simp, by simp, by simp, by simp, by simp, by simp, by simp, by simp⟩
  · intro j hj ls a w hlj hpj hI
    obtain ⟨x12, x13, x27, x28, x29, x30, x31, x32, x33, x34, rfl, ⟨hw, hl, d8, d1, d2, d11⟩, f0, f1, f2, f3, f4, f5, f6, f7, g8, g9, h10, h11, gne⟩ := hI
    have r8 := d8.cell
    have r1 := d1.cell
    have r2 := d2.cell
    rcases (show j = 0 ∨ j = 1 ∨ j = 2 ∨ j = 3 ∨ j = 4 ∨ j = 5 ∨ j = 6 ∨ j = 7 ∨ j = 8 ∨ j = 9 ∨ j = 10 ∨ j = 11 by simp at hj; omega) with rfl | rfl | rfl | rfl | rfl | rfl | rfl | rfl | rfl | rfl | rfl | rfl
    all_goals (simp [Ord.predsB, Region.binds] at hpj)
    · go_wp2_with (first
        | (with_reducible refine Ord.at_qn ?_)
        | (refine wpList_load_blk 58 (.tmp 11) agg_legs rfl rfl rfl d11 rfl ?_)
        | ((with_reducible refine Ord.at_calm ?_); refine Ord.calm_skip rfl ?_ (fun K hK => ?_); (focus (simp [Region.wanted, yielded]; done))) | with_reducible refine Ord.walk_calm rfl rfl (fun K hK => ?_) | ((with_reducible refine Ord.at_wild ?_); refine Ord.wild_fieldAddr rfl rfl (fun W => by simp [go_sem]; rfl) (fun K hK => ?_)) | ((with_reducible refine Ord.at_wild ?_); refine Ord.wild_move rfl rfl (fun K hK => ?_)) | ((with_reducible refine Ord.at_wild ?_); refine Ord.wild_nilCheck rfl rfl (fun K hK => ?_)) | with_reducible refine Ord.walk_eff rfl (by first | (simp; done) | assumption | (go_simp; done) | (repeat (first | assumption | exact Below.refl _ _ | refine Below.drew ?_ | refine Below.alloc ?_ (by first | omega | (simp; done) | (simp; omega)) _ | refine Below.setCell ?_ (by first | omega | (simp; done) | (simp; omega)) _ | refine Below.trans ?_ (Below.mono (by assumption) (by first | omega | (simp; done) | (simp; omega)))))) (fun K hK => ?_) | with_reducible refine Ord.at_fork ?_ ?_ | with_reducible refine Ord.walk_nil ?_ | (with_reducible refine Ord.next_of (by first | (simp; done) | (go_simp; done) | (repeat (first | assumption | exact Below.refl _ _ | refine Below.drew ?_ | refine Below.alloc ?_ (by first | omega | (simp; done) | (simp; omega)) _ | refine Below.setCell ?_ (by first | omega | (simp; done) | (simp; omega)) _ | refine Below.trans ?_ (Below.mono (by assumption) (by first | omega | (simp; done) | (simp; omega)))))) (fun _ => ?_)))
      exact ⟨_, _, _, _, _, _, _, _, _, _, rfl, ⟨hw, hl, d8, d1, d2, d11⟩, fun _ => rfl, fun h => by first | exact f1 (by simpa [Ord.upd] using h) | rfl, fun h => by first | exact f2 (by simpa [Ord.upd] using h) | rfl, fun h => by first | exact f3 (by simpa [Ord.upd] using h) | rfl, fun h => by first | exact f4 (by simpa [Ord.upd] using h) | rfl, fun h => by first | exact f5 (by simpa [Ord.upd] using h) | rfl, fun h => by first | exact f6 (by simpa [Ord.upd] using h) | rfl, fun h => by first | exact f7 (by simpa [Ord.upd] using h) | rfl, fun h => by have := g8 (by simpa [Ord.upd] using h); simpa [Ord.upd] using this, fun h => by have := g9 (by simpa [Ord.upd] using h); simpa [Ord.upd] using this, fun h => by have := h10 (by simpa [Ord.upd] using h); simp [Ord.upd, this], fun h => by have := h11 (by simpa [Ord.upd] using h); simp [Ord.upd, this], fun h h' => gne (by simpa [Ord.upd] using h) (by simpa [Ord.upd] using h')⟩
    · go_wp2_with (first
        | (with_reducible refine Ord.at_qn ?_)
        | (refine wpList_load_blk 58 (.tmp 11) agg_legs rfl rfl rfl d11 rfl ?_)
        | ((with_reducible refine Ord.at_calm ?_); refine Ord.calm_skip rfl ?_ (fun K hK => ?_); (focus (simp [Region.wanted, yielded]; done))) | with_reducible refine Ord.walk_calm rfl rfl (fun K hK => ?_) | ((with_reducible refine Ord.at_wild ?_); refine Ord.wild_fieldAddr rfl rfl (fun W => by simp [go_sem]; rfl) (fun K hK => ?_)) | ((with_reducible refine Ord.at_wild ?_); refine Ord.wild_move rfl rfl (fun K hK => ?_)) | ((with_reducible refine Ord.at_wild ?_); refine Ord.wild_nilCheck rfl rfl (fun K hK => ?_)) | with_reducible refine Ord.walk_eff rfl (by first | (simp; done) | assumption | (go_simp; done) | (repeat (first | assumption | exact Below.refl _ _ | refine Below.drew ?_ | refine Below.alloc ?_ (by first | omega | (simp; done) | (simp; omega)) _ | refine Below.setCell ?_ (by first | omega | (simp; done) | (simp; omega)) _ | refine Below.trans ?_ (Below.mono (by assumption) (by first | omega | (simp; done) | (simp; omega)))))) (fun K hK => ?_) | with_reducible refine Ord.at_fork ?_ ?_ | with_reducible refine Ord.walk_nil ?_ | (with_reducible refine Ord.next_of (by first | (simp; done) | (go_simp; done) | (repeat (first | assumption | exact Below.refl _ _ | refine Below.drew ?_ | refine Below.alloc ?_ (by first | omega | (simp; done) | (simp; omega)) _ | refine Below.setCell ?_ (by first | omega | (simp; done) | (simp; omega)) _ | refine Below.trans ?_ (Below.mono (by assumption) (by first | omega | (simp; done) | (simp; omega)))))) (fun _ => ?_)))
      exact ⟨_, _, _, _, _, _, _, _, _, _, rfl, ⟨hw, hl, d8, d1, d2, d11⟩, fun h => by first | exact f0 (by simpa [Ord.upd] using h) | rfl, fun _ => rfl, fun h => by first | exact f2 (by simpa [Ord.upd] using h) | rfl, fun h => by first | exact f3 (by simpa [Ord.upd] using h) | rfl, fun h => by first | exact f4 (by simpa [Ord.upd] using h) | rfl, fun h => by first | exact f5 (by simpa [Ord.upd] using h) | rfl, fun h => by first | exact f6 (by simpa [Ord.upd] using h) | rfl, fun h => by first | exact f7 (by simpa [Ord.upd] using h) | rfl, fun h => by have := g8 (by simpa [Ord.upd] using h); simpa [Ord.upd] using this, fun h => by have := g9 (by simpa [Ord.upd] using h); simpa [Ord.upd] using this, fun h => by have := h10 (by simpa [Ord.upd] using h); simp [Ord.upd, this], fun h => by have := h11 (by simpa [Ord.upd] using h); simp [Ord.upd, this], fun h h' => gne (by simpa [Ord.upd] using h) (by simpa [Ord.upd] using h')⟩
    · go_wp2_with (first
        | (with_reducible refine Ord.at_qn ?_)
        | (refine wpList_load_blk 58 (.tmp 11) agg_legs rfl rfl rfl d11 rfl ?_)
        | ((with_reducible refine Ord.at_calm ?_); refine Ord.calm_skip rfl ?_ (fun K hK => ?_); (focus (simp [Region.wanted, yielded]; done))) | with_reducible refine Ord.walk_calm rfl rfl (fun K hK => ?_) | ((with_reducible refine Ord.at_wild ?_); refine Ord.wild_fieldAddr rfl rfl (fun W => by simp [go_sem]; rfl) (fun K hK => ?_)) | ((with_reducible refine Ord.at_wild ?_); refine Ord.wild_move rfl rfl (fun K hK => ?_)) | ((with_reducible refine Ord.at_wild ?_); refine Ord.wild_nilCheck rfl rfl (fun K hK => ?_)) | with_reducible refine Ord.walk_eff rfl (by first | (simp; done) | assumption | (go_simp; done) | (repeat (first | assumption | exact Below.refl _ _ | refine Below.drew ?_ | refine Below.alloc ?_ (by first | omega | (simp; done) | (simp; omega)) _ | refine Below.setCell ?_ (by first | omega | (simp; done) | (simp; omega)) _ | refine Below.trans ?_ (Below.mono (by assumption) (by first | omega | (simp; done) | (simp; omega)))))) (fun K hK => ?_) | with_reducible refine Ord.at_fork ?_ ?_ | with_reducible refine Ord.walk_nil ?_ | (with_reducible refine Ord.next_of (by first | (simp; done) | (go_simp; done) | (repeat (first | assumption | exact Below.refl _ _ | refine Below.drew ?_ | refine Below.alloc ?_ (by first | omega | (simp; done) | (simp; omega)) _ | refine Below.setCell ?_ (by first | omega | (simp; done) | (simp; omega)) _ | refine Below.trans ?_ (Below.mono (by assumption) (by first | omega | (simp; done) | (simp; omega)))))) (fun _ => ?_)))
      exact ⟨_, _, _, _, _, _, _, _, _, _, rfl, ⟨hw, hl, d8, d1, d2, d11⟩, fun h => by first | exact f0 (by simpa [Ord.upd] using h) | rfl, fun h => by first | exact f1 (by simpa [Ord.upd] using h) | rfl, fun _ => rfl, fun h => by first | exact f3 (by simpa [Ord.upd] using h) | rfl, fun h => by first | exact f4 (by simpa [Ord.upd] using h) | rfl, fun h => by first | exact f5 (by simpa [Ord.upd] using h) | rfl, fun h => by first | exact f6 (by simpa [Ord.upd] using h) | rfl, fun h => by first | exact f7 (by simpa [Ord.upd] using h) | rfl, fun h => by have := g8 (by simpa [Ord.upd] using h); simpa [Ord.upd] using this, fun h => by have := g9 (by simpa [Ord.upd] using h); simpa [Ord.upd] using this, fun h => by have := h10 (by simpa [Ord.upd] using h); simp [Ord.upd, this], fun h => by have := h11 (by simpa [Ord.upd] using h); simp [Ord.upd, this], fun h h' => gne (by simpa [Ord.upd] using h) (by simpa [Ord.upd] using h')⟩
    · obtain rfl := f0 (by first | exact hpj.1 | exact hpj.2.1 | exact hpj.2.2 | exact hpj.2.2.1 | exact hpj.2.2.2)
      obtain rfl := f1 (by first | exact hpj.1 | exact hpj.2.1 | exact hpj.2.2 | exact hpj.2.2.1 | exact hpj.2.2.2)
      obtain rfl := f2 (by first | exact hpj.1 | exact hpj.2.1 | exact hpj.2.2 | exact hpj.2.2.1 | exact hpj.2.2.2)
      go_wp2_with (first
        | (go_at_call 61; refine (HSi.out _ hw).mono ?_; rintro e w' ⟨rfl, hw', hl'⟩)
        | (with_reducible refine Ord.at_qn ?_)
        | ((with_reducible refine Ord.at_calm ?_); refine Ord.calm_skip rfl ?_ (fun K hK => ?_); (focus (simp [Region.wanted, yielded]; done))) | with_reducible refine Ord.walk_calm rfl rfl (fun K hK => ?_) | ((with_reducible refine Ord.at_wild ?_); refine Ord.wild_fieldAddr rfl rfl (fun W => by simp [go_sem]; rfl) (fun K hK => ?_)) | ((with_reducible refine Ord.at_wild ?_); refine Ord.wild_move rfl rfl (fun K hK => ?_)) | ((with_reducible refine Ord.at_wild ?_); refine Ord.wild_nilCheck rfl rfl (fun K hK => ?_)) | with_reducible refine Ord.walk_eff rfl (by first | (simp; done) | assumption | (go_simp; done) | (repeat (first | assumption | exact Below.refl _ _ | refine Below.drew ?_ | refine Below.alloc ?_ (by first | omega | (simp; done) | (simp; omega)) _ | refine Below.setCell ?_ (by first | omega | (simp; done) | (simp; omega)) _ | refine Below.trans ?_ (Below.mono (by assumption) (by first | omega | (simp; done) | (simp; omega)))))) (fun K hK => ?_) | with_reducible refine Ord.at_fork ?_ ?_ | with_reducible refine Ord.walk_nil ?_ | (with_reducible refine Ord.next_of (by first | (simp; done) | (go_simp; done) | (repeat (first | assumption | exact Below.refl _ _ | refine Below.drew ?_ | refine Below.alloc ?_ (by first | omega | (simp; done) | (simp; omega)) _ | refine Below.setCell ?_ (by first | omega | (simp; done) | (simp; omega)) _ | refine Below.trans ?_ (Below.mono (by assumption) (by first | omega | (simp; done) | (simp; omega)))))) (fun _ => ?_)))
      exact ⟨_, _, _, _, _, _, _, _, _, _, rfl, ⟨hw', hl.trans hl', hl'.blk d8 (by omega), hl'.blk d1 (by omega), hl'.blk d2 (by omega), hl'.blk d11 (by omega)⟩, fun _ => rfl, fun _ => rfl, fun _ => rfl, fun _ => rfl, fun h => by first | exact f4 (by simpa [Ord.upd] using h) | rfl, fun h => by first | exact f5 (by simpa [Ord.upd] using h) | rfl, fun h => by first | exact f6 (by simpa [Ord.upd] using h) | rfl, fun h => by first | exact f7 (by simpa [Ord.upd] using h) | rfl, fun h => by obtain ⟨p, e1, e2, e3⟩ := g8 (by simpa [Ord.upd] using h); exact ⟨p, e1, e2, hl'.blk (by simpa [Ord.upd] using e3) (by omega)⟩, fun h => by obtain ⟨p, e1, e2, e3⟩ := g9 (by simpa [Ord.upd] using h); exact ⟨p, e1, e2, hl'.blk (by simpa [Ord.upd] using e3) (by omega)⟩, fun h => by have := h10 (by simpa [Ord.upd] using h); simp [Ord.upd, this], fun h => by have := h11 (by simpa [Ord.upd] using h); simp [Ord.upd, this], fun h h' => gne (by simpa [Ord.upd] using h) (by simpa [Ord.upd] using h')⟩
    · go_wp2_with (first
        | (with_reducible refine Ord.at_qn ?_)
        | (refine wpList_load_blk 58 (.tmp 11) agg_legs rfl rfl rfl d11 rfl ?_)
        | ((with_reducible refine Ord.at_calm ?_); refine Ord.calm_skip rfl ?_ (fun K hK => ?_); (focus (simp [Region.wanted, yielded]; done))) | with_reducible refine Ord.walk_calm rfl rfl (fun K hK => ?_) | ((with_reducible refine Ord.at_wild ?_); refine Ord.wild_fieldAddr rfl rfl (fun W => by simp [go_sem]; rfl) (fun K hK => ?_)) | ((with_reducible refine Ord.at_wild ?_); refine Ord.wild_move rfl rfl (fun K hK => ?_)) | ((with_reducible refine Ord.at_wild ?_); refine Ord.wild_nilCheck rfl rfl (fun K hK => ?_)) | with_reducible refine Ord.walk_eff rfl (by first | (simp; done) | assumption | (go_simp; done) | (repeat (first | assumption | exact Below.refl _ _ | refine Below.drew ?_ | refine Below.alloc ?_ (by first | omega | (simp; done) | (simp; omega)) _ | refine Below.setCell ?_ (by first | omega | (simp; done) | (simp; omega)) _ | refine Below.trans ?_ (Below.mono (by assumption) (by first | omega | (simp; done) | (simp; omega)))))) (fun K hK => ?_) | with_reducible refine Ord.at_fork ?_ ?_ | with_reducible refine Ord.walk_nil ?_ | (with_reducible refine Ord.next_of (by first | (simp; done) | (go_simp; done) | (repeat (first | assumption | exact Below.refl _ _ | refine Below.drew ?_ | refine Below.alloc ?_ (by first | omega | (simp; done) | (simp; omega)) _ | refine Below.setCell ?_ (by first | omega | (simp; done) | (simp; omega)) _ | refine Below.trans ?_ (Below.mono (by assumption) (by first | omega | (simp; done) | (simp; omega)))))) (fun _ => ?_)))
      exact ⟨_, _, _, _, _, _, _, _, _, _, rfl, ⟨hw, hl, d8, d1, d2, d11⟩, fun h => by first | exact f0 (by simpa [Ord.upd] using h) | rfl, fun h => by first | exact f1 (by simpa [Ord.upd] using h) | rfl, fun h => by first | exact f2 (by simpa [Ord.upd] using h) | rfl, fun h => by first | exact f3 (by simpa [Ord.upd] using h) | rfl, fun _ => rfl, fun h => by first | exact f5 (by simpa [Ord.upd] using h) | rfl, fun h => by first | exact f6 (by simpa [Ord.upd] using h) | rfl, fun h => by first | exact f7 (by simpa [Ord.upd] using h) | rfl, fun h => by have := g8 (by simpa [Ord.upd] using h); simpa [Ord.upd] using this, fun h => by have := g9 (by simpa [Ord.upd] using h); simpa [Ord.upd] using this, fun h => by have := h10 (by simpa [Ord.upd] using h); simp [Ord.upd, this], fun h => by have := h11 (by simpa [Ord.upd] using h); simp [Ord.upd, this], fun h h' => gne (by simpa [Ord.upd] using h) (by simpa [Ord.upd] using h')⟩
    · go_wp2_with (first
        | (with_reducible refine Ord.at_qn ?_)
        | (refine wpList_load_blk 58 (.tmp 11) agg_legs rfl rfl rfl d11 rfl ?_)
        | ((with_reducible refine Ord.at_calm ?_); refine Ord.calm_skip rfl ?_ (fun K hK => ?_); (focus (simp [Region.wanted, yielded]; done))) | with_reducible refine Ord.walk_calm rfl rfl (fun K hK => ?_) | ((with_reducible refine Ord.at_wild ?_); refine Ord.wild_fieldAddr rfl rfl (fun W => by simp [go_sem]; rfl) (fun K hK => ?_)) | ((with_reducible refine Ord.at_wild ?_); refine Ord.wild_move rfl rfl (fun K hK => ?_)) | ((with_reducible refine Ord.at_wild ?_); refine Ord.wild_nilCheck rfl rfl (fun K hK => ?_)) | with_reducible refine Ord.walk_eff rfl (by first | (simp; done) | assumption | (go_simp; done) | (repeat (first | assumption | exact Below.refl _ _ | refine Below.drew ?_ | refine Below.alloc ?_ (by first | omega | (simp; done) | (simp; omega)) _ | refine Below.setCell ?_ (by first | omega | (simp; done) | (simp; omega)) _ | refine Below.trans ?_ (Below.mono (by assumption) (by first | omega | (simp; done) | (simp; omega)))))) (fun K hK => ?_) | with_reducible refine Ord.at_fork ?_ ?_ | with_reducible refine Ord.walk_nil ?_ | (with_reducible refine Ord.next_of (by first | (simp; done) | (go_simp; done) | (repeat (first | assumption | exact Below.refl _ _ | refine Below.drew ?_ | refine Below.alloc ?_ (by first | omega | (simp; done) | (simp; omega)) _ | refine Below.setCell ?_ (by first | omega | (simp; done) | (simp; omega)) _ | refine Below.trans ?_ (Below.mono (by assumption) (by first | omega | (simp; done) | (simp; omega)))))) (fun _ => ?_)))
      exact ⟨_, _, _, _, _, _, _, _, _, _, rfl, ⟨hw, hl, d8, d1, d2, d11⟩, fun h => by first | exact f0 (by simpa [Ord.upd] using h) | rfl, fun h => by first | exact f1 (by simpa [Ord.upd] using h) | rfl, fun h => by first | exact f2 (by simpa [Ord.upd] using h) | rfl, fun h => by first | exact f3 (by simpa [Ord.upd] using h) | rfl, fun h => by first | exact f4 (by simpa [Ord.upd] using h) | rfl, fun _ => rfl, fun h => by first | exact f6 (by simpa [Ord.upd] using h) | rfl, fun h => by first | exact f7 (by simpa [Ord.upd] using h) | rfl, fun h => by have := g8 (by simpa [Ord.upd] using h); simpa [Ord.upd] using this, fun h => by have := g9 (by simpa [Ord.upd] using h); simpa [Ord.upd] using this, fun h => by have := h10 (by simpa [Ord.upd] using h); simp [Ord.upd, this], fun h => by have := h11 (by simpa [Ord.upd] using h); simp [Ord.upd, this], fun h h' => gne (by simpa [Ord.upd] using h) (by simpa [Ord.upd] using h')⟩
    · go_wp2_with (first
        | (with_reducible refine Ord.at_qn ?_)
        | (refine wpList_load_blk 58 (.tmp 11) agg_legs rfl rfl rfl d11 rfl ?_)
        | ((with_reducible refine Ord.at_calm ?_); refine Ord.calm_skip rfl ?_ (fun K hK => ?_); (focus (simp [Region.wanted, yielded]; done))) | with_reducible refine Ord.walk_calm rfl rfl (fun K hK => ?_) | ((with_reducible refine Ord.at_wild ?_); refine Ord.wild_fieldAddr rfl rfl (fun W => by simp [go_sem]; rfl) (fun K hK => ?_)) | ((with_reducible refine Ord.at_wild ?_); refine Ord.wild_move rfl rfl (fun K hK => ?_)) | ((with_reducible refine Ord.at_wild ?_); refine Ord.wild_nilCheck rfl rfl (fun K hK => ?_)) | with_reducible refine Ord.walk_eff rfl (by first | (simp; done) | assumption | (go_simp; done) | (repeat (first | assumption | exact Below.refl _ _ | refine Below.drew ?_ | refine Below.alloc ?_ (by first | omega | (simp; done) | (simp; omega)) _ | refine Below.setCell ?_ (by first | omega | (simp; done) | (simp; omega)) _ | refine Below.trans ?_ (Below.mono (by assumption) (by first | omega | (simp; done) | (simp; omega)))))) (fun K hK => ?_) | with_reducible refine Ord.at_fork ?_ ?_ | with_reducible refine Ord.walk_nil ?_ | (with_reducible refine Ord.next_of (by first | (simp; done) | (go_simp; done) | (repeat (first | assumption | exact Below.refl _ _ | refine Below.drew ?_ | refine Below.alloc ?_ (by first | omega | (simp; done) | (simp; omega)) _ | refine Below.setCell ?_ (by first | omega | (simp; done) | (simp; omega)) _ | refine Below.trans ?_ (Below.mono (by assumption) (by first | omega | (simp; done) | (simp; omega)))))) (fun _ => ?_)))
      exact ⟨_, _, _, _, _, _, _, _, _, _, rfl, ⟨hw, hl, d8, d1, d2, d11⟩, fun h => by first | exact f0 (by simpa [Ord.upd] using h) | rfl, fun h => by first | exact f1 (by simpa [Ord.upd] using h) | rfl, fun h => by first | exact f2 (by simpa [Ord.upd] using h) | rfl, fun h => by first | exact f3 (by simpa [Ord.upd] using h) | rfl, fun h => by first | exact f4 (by simpa [Ord.upd] using h) | rfl, fun h => by first | exact f5 (by simpa [Ord.upd] using h) | rfl, fun _ => rfl, fun h => by first | exact f7 (by simpa [Ord.upd] using h) | rfl, fun h => by have := g8 (by simpa [Ord.upd] using h); simpa [Ord.upd] using this, fun h => by have := g9 (by simpa [Ord.upd] using h); simpa [Ord.upd] using this, fun h => by have := h10 (by simpa [Ord.upd] using h); simp [Ord.upd, this], fun h => by have := h11 (by simpa [Ord.upd] using h); simp [Ord.upd, this], fun h h' => gne (by simpa [Ord.upd] using h) (by simpa [Ord.upd] using h')⟩
    · obtain rfl := f4 (by first | exact hpj.1 | exact hpj.2.1 | exact hpj.2.2 | exact hpj.2.2.1 | exact hpj.2.2.2)
      obtain rfl := f5 (by first | exact hpj.1 | exact hpj.2.1 | exact hpj.2.2 | exact hpj.2.2.1 | exact hpj.2.2.2)
      obtain rfl := f6 (by first | exact hpj.1 | exact hpj.2.1 | exact hpj.2.2 | exact hpj.2.2.1 | exact hpj.2.2.2)
      go_wp2_with (first
        | (go_at_call 61; refine (HSk.out _ hw).mono ?_; rintro e w' ⟨rfl, hw', hl'⟩)
        | (with_reducible refine Ord.at_qn ?_)
        | ((with_reducible refine Ord.at_calm ?_); refine Ord.calm_skip rfl ?_ (fun K hK => ?_); (focus (simp [Region.wanted, yielded]; done))) | with_reducible refine Ord.walk_calm rfl rfl (fun K hK => ?_) | ((with_reducible refine Ord.at_wild ?_); refine Ord.wild_fieldAddr rfl rfl (fun W => by simp [go_sem]; rfl) (fun K hK => ?_)) | ((with_reducible refine Ord.at_wild ?_); refine Ord.wild_move rfl rfl (fun K hK => ?_)) | ((with_reducible refine Ord.at_wild ?_); refine Ord.wild_nilCheck rfl rfl (fun K hK => ?_)) | with_reducible refine Ord.walk_eff rfl (by first | (simp; done) | assumption | (go_simp; done) | (repeat (first | assumption | exact Below.refl _ _ | refine Below.drew ?_ | refine Below.alloc ?_ (by first | omega | (simp; done) | (simp; omega)) _ | refine Below.setCell ?_ (by first | omega | (simp; done) | (simp; omega)) _ | refine Below.trans ?_ (Below.mono (by assumption) (by first | omega | (simp; done) | (simp; omega)))))) (fun K hK => ?_) | with_reducible refine Ord.at_fork ?_ ?_ | with_reducible refine Ord.walk_nil ?_ | (with_reducible refine Ord.next_of (by first | (simp; done) | (go_simp; done) | (repeat (first | assumption | exact Below.refl _ _ | refine Below.drew ?_ | refine Below.alloc ?_ (by first | omega | (simp; done) | (simp; omega)) _ | refine Below.setCell ?_ (by first | omega | (simp; done) | (simp; omega)) _ | refine Below.trans ?_ (Below.mono (by assumption) (by first | omega | (simp; done) | (simp; omega)))))) (fun _ => ?_)))
      exact ⟨_, _, _, _, _, _, _, _, _, _, rfl, ⟨hw', hl.trans hl', hl'.blk d8 (by omega), hl'.blk d1 (by omega), hl'.blk d2 (by omega), hl'.blk d11 (by omega)⟩, fun h => by first | exact f0 (by simpa [Ord.upd] using h) | rfl, fun h => by first | exact f1 (by simpa [Ord.upd] using h) | rfl, fun h => by first | exact f2 (by simpa [Ord.upd] using h) | rfl, fun h => by first | exact f3 (by simpa [Ord.upd] using h) | rfl, fun _ => rfl, fun _ => rfl, fun _ => rfl, fun _ => rfl, fun h => by obtain ⟨p, e1, e2, e3⟩ := g8 (by simpa [Ord.upd] using h); exact ⟨p, e1, e2, hl'.blk (by simpa [Ord.upd] using e3) (by omega)⟩, fun h => by obtain ⟨p, e1, e2, e3⟩ := g9 (by simpa [Ord.upd] using h); exact ⟨p, e1, e2, hl'.blk (by simpa [Ord.upd] using e3) (by omega)⟩, fun h => by have := h10 (by simpa [Ord.upd] using h); simp [Ord.upd, this], fun h => by have := h11 (by simpa [Ord.upd] using h); simp [Ord.upd, this], fun h h' => gne (by simpa [Ord.upd] using h) (by simpa [Ord.upd] using h')⟩
    · go_wp2_with (first
        | (with_reducible refine Ord.at_qn ?_)
        | ((with_reducible refine Ord.at_calm ?_); refine Ord.calm_skip rfl ?_ (fun K hK => ?_); (focus (simp [Region.wanted, yielded]; done))) | with_reducible refine Ord.walk_calm rfl rfl (fun K hK => ?_) | ((with_reducible refine Ord.at_wild ?_); refine Ord.wild_fieldAddr rfl rfl (fun W => by simp [go_sem]; rfl) (fun K hK => ?_)) | ((with_reducible refine Ord.at_wild ?_); refine Ord.wild_move rfl rfl (fun K hK => ?_)) | ((with_reducible refine Ord.at_wild ?_); refine Ord.wild_nilCheck rfl rfl (fun K hK => ?_)) | with_reducible refine Ord.walk_eff rfl (by first | (simp; done) | assumption | (go_simp; done) | (repeat (first | assumption | exact Below.refl _ _ | refine Below.drew ?_ | refine Below.alloc ?_ (by first | omega | (simp; done) | (simp; omega)) _ | refine Below.setCell ?_ (by first | omega | (simp; done) | (simp; omega)) _ | refine Below.trans ?_ (Below.mono (by assumption) (by first | omega | (simp; done) | (simp; omega)))))) (fun K hK => ?_) | with_reducible refine Ord.at_fork ?_ ?_ | with_reducible refine Ord.walk_nil ?_ | (with_reducible refine Ord.next_of (by first | (simp; done) | (go_simp; done) | (repeat (first | assumption | exact Below.refl _ _ | refine Below.drew ?_ | refine Below.alloc ?_ (by first | omega | (simp; done) | (simp; omega)) _ | refine Below.setCell ?_ (by first | omega | (simp; done) | (simp; omega)) _ | refine Below.trans ?_ (Below.mono (by assumption) (by first | omega | (simp; done) | (simp; omega)))))) (fun _ => ?_)))
      exact ⟨_, _, _, _, _, _, _, _, _, _, rfl, ⟨hw.below ((Below.refl w.heap.size w).alloc (Nat.le_refl _) _) hmb, hl.alloc _, d8.alloc _, d1.alloc _, d2.alloc _, d11.alloc _⟩, fun h => by first | exact f0 (by simpa [Ord.upd] using h) | rfl, fun h => by first | exact f1 (by simpa [Ord.upd] using h) | rfl, fun h => by first | exact f2 (by simpa [Ord.upd] using h) | rfl, fun h => by first | exact f3 (by simpa [Ord.upd] using h) | rfl, fun h => by first | exact f4 (by simpa [Ord.upd] using h) | rfl, fun h => by first | exact f5 (by simpa [Ord.upd] using h) | rfl, fun h => by first | exact f6 (by simpa [Ord.upd] using h) | rfl, fun h => by first | exact f7 (by simpa [Ord.upd] using h) | rfl, fun _ => ⟨w.heap.size, rfl, hl.size, by have h0 : ls 10 = false := (by cases h : ls 10; rfl; exact absurd (h10 h) (by simp [hlj])); simpa [Ord.upd, h0] using Blk.new w #[.int .i64 0, .int .i64 0] 31⟩, fun h => by obtain ⟨p, e1, e2, e3⟩ := g9 (by simpa [Ord.upd] using h); exact ⟨p, e1, e2, by simpa [Ord.upd] using e3.alloc _⟩, fun h => by have := h10 (by simpa [Ord.upd] using h); simp [Ord.upd, this], fun h => by have := h11 (by simpa [Ord.upd] using h); simp [Ord.upd, this], fun h h' => by obtain ⟨p, e1, e2, e3⟩ := g9 (by simpa [Ord.upd] using h'); rw [e1]; have := e3.lt; simp <;> omega⟩
    · go_wp2_with (first
        | (with_reducible refine Ord.at_qn ?_)
        | ((with_reducible refine Ord.at_calm ?_); refine Ord.calm_skip rfl ?_ (fun K hK => ?_); (focus (simp [Region.wanted, yielded]; done))) | with_reducible refine Ord.walk_calm rfl rfl (fun K hK => ?_) | ((with_reducible refine Ord.at_wild ?_); refine Ord.wild_fieldAddr rfl rfl (fun W => by simp [go_sem]; rfl) (fun K hK => ?_)) | ((with_reducible refine Ord.at_wild ?_); refine Ord.wild_move rfl rfl (fun K hK => ?_)) | ((with_reducible refine Ord.at_wild ?_); refine Ord.wild_nilCheck rfl rfl (fun K hK => ?_)) | with_reducible refine Ord.walk_eff rfl (by first | (simp; done) | assumption | (go_simp; done) | (repeat (first | assumption | exact Below.refl _ _ | refine Below.drew ?_ | refine Below.alloc ?_ (by first | omega | (simp; done) | (simp; omega)) _ | refine Below.setCell ?_ (by first | omega | (simp; done) | (simp; omega)) _ | refine Below.trans ?_ (Below.mono (by assumption) (by first | omega | (simp; done) | (simp; omega)))))) (fun K hK => ?_) | with_reducible refine Ord.at_fork ?_ ?_ | with_reducible refine Ord.walk_nil ?_ | (with_reducible refine Ord.next_of (by first | (simp; done) | (go_simp; done) | (repeat (first | assumption | exact Below.refl _ _ | refine Below.drew ?_ | refine Below.alloc ?_ (by first | omega | (simp; done) | (simp; omega)) _ | refine Below.setCell ?_ (by first | omega | (simp; done) | (simp; omega)) _ | refine Below.trans ?_ (Below.mono (by assumption) (by first | omega | (simp; done) | (simp; omega)))))) (fun _ => ?_)))
      exact ⟨_, _, _, _, _, _, _, _, _, _, rfl, ⟨hw.below ((Below.refl w.heap.size w).alloc (Nat.le_refl _) _) hmb, hl.alloc _, d8.alloc _, d1.alloc _, d2.alloc _, d11.alloc _⟩, fun h => by first | exact f0 (by simpa [Ord.upd] using h) | rfl, fun h => by first | exact f1 (by simpa [Ord.upd] using h) | rfl, fun h => by first | exact f2 (by simpa [Ord.upd] using h) | rfl, fun h => by first | exact f3 (by simpa [Ord.upd] using h) | rfl, fun h => by first | exact f4 (by simpa [Ord.upd] using h) | rfl, fun h => by first | exact f5 (by simpa [Ord.upd] using h) | rfl, fun h => by first | exact f6 (by simpa [Ord.upd] using h) | rfl, fun h => by first | exact f7 (by simpa [Ord.upd] using h) | rfl, fun h => by obtain ⟨p, e1, e2, e3⟩ := g8 (by simpa [Ord.upd] using h); exact ⟨p, e1, e2, by simpa [Ord.upd] using e3.alloc _⟩, fun _ => ⟨w.heap.size, rfl, hl.size, by have h0 : ls 11 = false := (by cases h : ls 11; rfl; exact absurd (h11 h) (by simp [hlj])); simpa [Ord.upd, h0] using Blk.new w #[.int .i64 0, .int .i64 0] 31⟩, fun h => by have := h10 (by simpa [Ord.upd] using h); simp [Ord.upd, this], fun h => by have := h11 (by simpa [Ord.upd] using h); simp [Ord.upd, this], fun h h' => by obtain ⟨p, e1, e2, e3⟩ := g8 (by simpa [Ord.upd] using h); rw [e1]; have := e3.lt; simp <;> omega⟩
    · have hP := hpj
      obtain rfl := f3 (by simp [hP])
      obtain ⟨p, rfl, hp2, hp3⟩ := g8 (by simp [hP])
      have hp3 : Blk w p #[.int .i64 0, .int .i64 0] 31 := by simpa [hlj] using hp3
      go_wp2_with (first
        | (refine wpList_store_blk 31 (.tmp 12) (.tmp 30) agg_span rfl rfl rfl rfl hp3 rfl rfl (by simp [Value.oneCell']) ?_; intro w8 h8)
        | (with_reducible refine Ord.at_qn ?_)
        | ((with_reducible refine Ord.at_calm ?_); refine Ord.calm_skip rfl ?_ (fun K hK => ?_); (focus (simp [Region.wanted, yielded]; done))) | with_reducible refine Ord.walk_calm rfl rfl (fun K hK => ?_) | ((with_reducible refine Ord.at_wild ?_); refine Ord.wild_fieldAddr rfl rfl (fun W => by simp [go_sem]; rfl) (fun K hK => ?_)) | ((with_reducible refine Ord.at_wild ?_); refine Ord.wild_move rfl rfl (fun K hK => ?_)) | ((with_reducible refine Ord.at_wild ?_); refine Ord.wild_nilCheck rfl rfl (fun K hK => ?_)) | with_reducible refine Ord.walk_eff rfl (by first | (simp; done) | assumption | (go_simp; done) | (repeat (first | assumption | exact Below.refl _ _ | refine Below.drew ?_ | refine Below.alloc ?_ (by first | omega | (simp; done) | (simp; omega)) _ | refine Below.setCell ?_ (by first | omega | (simp; done) | (simp; omega)) _ | refine Below.trans ?_ (Below.mono (by assumption) (by first | omega | (simp; done) | (simp; omega)))))) (fun K hK => ?_) | with_reducible refine Ord.at_fork ?_ ?_ | with_reducible refine Ord.walk_nil ?_ | (with_reducible refine Ord.next_of (by first | (simp; done) | (go_simp; done) | (repeat (first | assumption | exact Below.refl _ _ | refine Below.drew ?_ | refine Below.alloc ?_ (by first | omega | (simp; done) | (simp; omega)) _ | refine Below.setCell ?_ (by first | omega | (simp; done) | (simp; omega)) _ | refine Below.trans ?_ (Below.mono (by assumption) (by first | omega | (simp; done) | (simp; omega)))))) (fun _ => ?_)))
      have hlr : Lets (fun j _ => j = p) w w8 := (Lets.refl _ _).rowed h8 rfl
      exact ⟨_, _, _, _, _, _, _, _, _, _, rfl, ⟨hw.lets hlr hmb (fun j _ e => by omega), hl.next hlr (fun j hj hx => by omega), h8.other d8 (by omega), h8.other d1 (by omega), h8.other d2 (by omega), h8.other d11 (by omega)⟩, fun h => by first | exact f0 (by simpa [Ord.upd] using h) | rfl, fun h => by first | exact f1 (by simpa [Ord.upd] using h) | rfl, fun h => by first | exact f2 (by simpa [Ord.upd] using h) | rfl, fun _ => rfl, fun h => by first | exact f4 (by simpa [Ord.upd] using h) | rfl, fun h => by first | exact f5 (by simpa [Ord.upd] using h) | rfl, fun h => by first | exact f6 (by simpa [Ord.upd] using h) | rfl, fun h => by first | exact f7 (by simpa [Ord.upd] using h) | rfl, fun _ => ⟨p, rfl, hp2, by simpa [Ord.upd] using h8.blk⟩, fun h => by obtain ⟨q, e1, e2, e3⟩ := g9 (by simpa [Ord.upd] using h); exact ⟨q, e1, e2, by have hne : q ≠ p := (by rintro rfl; exact absurd e1 (by have hh : ls 9 = true := (by simpa [Ord.upd] using h); have := gne (by first | exact hh | simp [hP]) (by first | exact hh | simp [hP]); first | exact fun e' => this e'.symm | exact this | simpa using this)); simpa [Ord.upd] using h8.other e3 hne⟩, fun h => by simp [Ord.upd, hP], fun h => by have := h11 (by simpa [Ord.upd] using h); simp [Ord.upd, this], fun h h' => gne (by simpa [Ord.upd] using h) (by simpa [Ord.upd] using h')⟩
    · have hP := hpj
      obtain rfl := f7 (by simp [hP])
      obtain ⟨p, rfl, hp2, hp3⟩ := g9 (by simp [hP])
      have hp3 : Blk w p #[.int .i64 0, .int .i64 0] 31 := by simpa [hlj] using hp3
      go_wp2_with (first
        | (refine wpList_store_blk 31 (.tmp 13) (.tmp 34) agg_span rfl rfl rfl rfl hp3 rfl rfl (by simp [Value.oneCell']) ?_; intro w8 h8)
        | (with_reducible refine Ord.at_qn ?_)
        | ((with_reducible refine Ord.at_calm ?_); refine Ord.calm_skip rfl ?_ (fun K hK => ?_); (focus (simp [Region.wanted, yielded]; done))) | with_reducible refine Ord.walk_calm rfl rfl (fun K hK => ?_) | ((with_reducible refine Ord.at_wild ?_); refine Ord.wild_fieldAddr rfl rfl (fun W => by simp [go_sem]; rfl) (fun K hK => ?_)) | ((with_reducible refine Ord.at_wild ?_); refine Ord.wild_move rfl rfl (fun K hK => ?_)) | ((with_reducible refine Ord.at_wild ?_); refine Ord.wild_nilCheck rfl rfl (fun K hK => ?_)) | with_reducible refine Ord.walk_eff rfl (by first | (simp; done) | assumption | (go_simp; done) | (repeat (first | assumption | exact Below.refl _ _ | refine Below.drew ?_ | refine Below.alloc ?_ (by first | omega | (simp; done) | (simp; omega)) _ | refine Below.setCell ?_ (by first | omega | (simp; done) | (simp; omega)) _ | refine Below.trans ?_ (Below.mono (by assumption) (by first | omega | (simp; done) | (simp; omega)))))) (fun K hK => ?_) | with_reducible refine Ord.at_fork ?_ ?_ | with_reducible refine Ord.walk_nil ?_ | (with_reducible refine Ord.next_of (by first | (simp; done) | (go_simp; done) | (repeat (first | assumption | exact Below.refl _ _ | refine Below.drew ?_ | refine Below.alloc ?_ (by first | omega | (simp; done) | (simp; omega)) _ | refine Below.setCell ?_ (by first | omega | (simp; done) | (simp; omega)) _ | refine Below.trans ?_ (Below.mono (by assumption) (by first | omega | (simp; done) | (simp; omega)))))) (fun _ => ?_)))
      have hlr : Lets (fun j _ => j = p) w w8 := (Lets.refl _ _).rowed h8 rfl
      exact ⟨_, _, _, _, _, _, _, _, _, _, rfl, ⟨hw.lets hlr hmb (fun j _ e => by omega), hl.next hlr (fun j hj hx => by omega), h8.other d8 (by omega), h8.other d1 (by omega), h8.other d2 (by omega), h8.other d11 (by omega)⟩, fun h => by first | exact f0 (by simpa [Ord.upd] using h) | rfl, fun h => by first | exact f1 (by simpa [Ord.upd] using h) | rfl, fun h => by first | exact f2 (by simpa [Ord.upd] using h) | rfl, fun h => by first | exact f3 (by simpa [Ord.upd] using h) | rfl, fun h => by first | exact f4 (by simpa [Ord.upd] using h) | rfl, fun h => by first | exact f5 (by simpa [Ord.upd] using h) | rfl, fun h => by first | exact f6 (by simpa [Ord.upd] using h) | rfl, fun _ => rfl, fun h => by obtain ⟨q, e1, e2, e3⟩ := g8 (by simpa [Ord.upd] using h); exact ⟨q, e1, e2, by have hne : q ≠ p := (by rintro rfl; exact absurd e1 (by have hh : ls 8 = true := (by simpa [Ord.upd] using h); have := gne (by first | exact hh | simp [hP]) (by first | exact hh | simp [hP]); first | exact fun e' => this e'.symm | exact this | simpa using this)); simpa [Ord.upd] using h8.other e3 hne⟩, fun _ => ⟨p, rfl, hp2, by simpa [Ord.upd] using h8.blk⟩, fun h => by have := h10 (by simpa [Ord.upd] using h); simp [Ord.upd, this], fun h => by simp [Ord.upd, hP], fun h h' => gne (by simpa [Ord.upd] using h) (by simpa [Ord.upd] using h')⟩
  · intro ls a w hall hI
    obtain ⟨x12, x13, x27, x28, x29, x30, x31, x32, x33, x34, rfl, ⟨hw, hl, d8, d1, d2, d11⟩, f0, f1, f2, f3, f4, f5, f6, f7, g8, g9, h10, h11, gne⟩ := hI
    have ha : ∀ j, j < 12 → ls j = true := fun j hj => hall j (by simpa using hj)
    obtain ⟨p, rfl, e2, e3⟩ := g8 (ha 8 (by omega))
    obtain ⟨q, rfl, e5, e6⟩ := g9 (ha 9 (by omega))
    rw [if_pos (ha 10 (by omega))] at e3
    rw [if_pos (ha 11 (by omega))] at e6
    have hne := gne (ha 8 (by omega)) (ha 9 (by omega))
    exact HE.out _ _ _ _ _ _ _ _ p q w hw hl (fun e => hne (by rw [e])) e2 e5 e3 e6
end Go.Proofs.YteeinehpneppnaaGreat
/- Package mob: Where: plain words. -/
set_option linter.unusedVariables false
set_option linter.unusedSimpArgs false
namespace Go.Proofs.YteeinehpneppnaaGreat
open Go.RowKit Go.Proofs
attribute [local irreducible] Ord.walk
/-- The place of a mob on a day, by the first places. -/
def nowTo (m : Mb) (L : List Int) (s : Nat) (d day : Int) : Nat → Nat
  | 0 => s
  | k + 1 => if inK m L s d k ≤ day then s + k else nowTo m L s d day k
def nowP (m : Mb) (L : List Int) (s : Nat) (d day : Int) : Nat := nowTo m L s d day (m.places.length - s)
theorem nowTo_in {m : Mb} (L : List Int) (s : Nat) (d day : Int) : ∀ k, s + k ≤ m.places.length → s < m.places.length → s ≤ nowTo m L s d day k ∧ nowTo m L s d day k < m.places.length
  | 0, _, h => by simp only [nowTo]; omega
  | k + 1, hk, h => by
    have ih := nowTo_in L s d day k (by omega) h
    simp only [nowTo]
    split <;> omega
theorem or_any6 : ∀ a < 64, ∀ i < 6, bits .or .i64 ((a : Nat) : Int) ((2 ^ i : Nat) : Int) = ((a ||| 2 ^ i : Nat) : Int) ∧ a ||| 2 ^ i < 64 := by decide +kernel
/-- The set with some places more. -/
def orL (S : Nat) (ps : List Nat) : Nat := ps.foldl (fun S p => S ||| 2 ^ p) S
theorem orL_snoc (S : Nat) (ps : List Nat) (p : Nat) : orL S (ps ++ [p]) = orL S ps ||| 2 ^ p := by unfold orL; rw [List.foldl_append]; rfl
theorem orL_append (S : Nat) (ps qs : List Nat) : orL S (ps ++ qs) = orL (orL S ps) qs := by unfold orL; rw [List.foldl_append]
theorem orL_lt {S : Nat} (hS : S < 64) : ∀ (ps : List Nat), (∀ p ∈ ps, p < 6) → orL S ps < 64
  | [], _ => hS
  | p :: ps, h => by
    have := (or_any6 S hS p (h p (by simp))).2
    exact orL_lt this ps (fun q hq => h q (by simp [hq]))
/-- The places of a mob on a day, with how long legs take. -/
def nowsL (m : Mb) (i : Nat) (day : Int) (L : List Int) : List Nat := (rangeI (leavesM m L i (everyN m)).1 (leavesM m L i (everyN m)).2).map fun n => nowP m L (startN m i) n day
def whereTo (m : Mb) (i : Nat) (day : Int) (k : Nat) : Nat := orL 0 (((toldL m (everyN m)).take k).flatMap (nowsL m i day))
def whereN (m : Mb) (i : Nat) (day : Int) : Nat := whereTo m i day (toldL m (everyN m)).length
theorem whereTo_succ {m : Mb} {i : Nat} {day : Int} {k : Nat} (h : k < (toldL m (everyN m)).length) : whereTo m i day (k + 1) = orL (whereTo m i day k) (nowsL m i day (toldL m (everyN m))[k]) := by
  unfold whereTo; rw [List.take_succ_eq_append_getElem h, List.flatMap_append, orL_append]; simp
end Go.Proofs.YteeinehpneppnaaGreat
/- shearworksref01: Stretch, Safe, Comes, Where, where there is a truth. (Printed by mkZaF.py) -/
set_option linter.unusedVariables false
set_option linter.unusedSimpArgs false
namespace Go.Proofs.YteeinehpneppnaaGreat
open Go.RowKit Go.Proofs
attribute [local irreducible] Ord.walk
theorem from_herdZ {m : Mb} {i p : Int} (h : fromB m i p = true) : 0 ≤ i ∧ i < m.herds.length ∧ 0 ≤ p ∧ p < m.places.length ∧ startI m i ≤ p := by
  unfold fromB at h
  simp only [Bool.and_eq_true, decide_eq_true_eq] at h
  have h1 := inB_of h.1
  have h2 := inB_of h.2.1
  exact ⟨h1.1, by omega, h2.1, by omega, h.2.2⟩
set_option maxHeartbeats 40000000 in
set_option maxRecDepth 100000 in
theorem r_Stretch_yes {m : Mb} {A : Ma} {w : World} (i : Nat) (hl : Mlen m) (hm : MbAt w m A) (hk : knownE m (herdB m i) = 0) :
    Calls Tryz.prog 11 #[mv m A, .int .i64 (i : Int)] w (Gives2 (spv (joinL (((TM m).map (dryT m i)).map dup))) (.int .i64 0) w) := by
  obtain ⟨hv, hvb, hT0⟩ := known_yes hk
  have h1 := hvb
  have hlen := validM_len hv
  have hTl := TM_len hv
  have hhb := inB_of h1
  have hih : i < m.herds.length := by omega
  have HH := Lib.hid (fun W => r_herd m A i (by have := hl.herds; unfold maxLen; omega) W)
  have HHB : Hid (∀ n, inB n 0 ((m.herds.length : Int) - 1) = herdB m n) := fun _ => rfl
  simp only [HHB.out] at HH
  have HK := Lib.hid (fun W vb (hb : Below w.heap.size w W) => r_known vb hl (hm.below hb))
  have HKP : Hid (∀ W e w', KnownPost m (herdB m i) W e w' → ∃ v, e = .returned (.tuple #[v, .int .i64 0]) ∧ TruthsAt w' v (TM m) ∧ Below W.heap.size W w') := fun W e w' h => by
    obtain ⟨v, rfl, h2, h3⟩ := h
    rw [if_pos hk] at h2
    rw [hk]
    exact ⟨v, rfl, h2, h3⟩
  rw [h1] at HKP
  have HS := Lib.hid (fun W (hb : Below w.heap.size w W) ta tc (hT : TruthsAt W (.slice ta (TM m).length tc) (TM m)) => r_stretches (A := A) W hv (hm.below hb) hT hT0 hih)
  obtain ⟨R, hR⟩ : ∃ R, joinL (((TM m).map (dryT m i)).map dup) = R := ⟨_, rfl⟩
  rw [hR]
  rw [hR] at HS
  clear hl hk hv hR hm
  generalize TM m = T at *
  rcases A with ⟨pa, pc, la, lc, ha, hc, sa, sc⟩
  unfold mv mcells at *
  simp only at *
  obtain ⟨W1, hW1⟩ : ∃ W1, (w.alloc (.cells #[.slice pa m.places.length pc, .slice la m.legs.length lc, .slice ha m.herds.length hc, .slice sa m.seen.length sc] 27)).alloc (.cells #[.int .i64 0, .int .i64 0] 31) = W1 := ⟨_, rfl⟩
  have b1 : Blk W1 w.heap.size #[.slice pa m.places.length pc, .slice la m.legs.length lc, .slice ha m.herds.length hc, .slice sa m.seen.length sc] 27 := by rw [← hW1]; exact (Blk.new _ _ _).alloc _
  have b6 : Blk W1 (w.heap.size + 1) #[.int .i64 0, .int .i64 0] 31 := by rw [← hW1]; exact Blk.new' _ _ _ _ (by simp)
  have hB1 : Below w.heap.size w W1 := by rw [← hW1]; (repeat (first | assumption | exact Below.refl _ _ | refine Below.drew ?_ | refine Below.alloc ?_ (by first | omega | (simp; done) | (simp; omega)) _ | refine Below.setCell ?_ (by first | omega | (simp; done) | (simp; omega)) _ | refine Below.trans ?_ (Below.mono (by assumption) (by first | omega | (simp; done) | (simp; omega)))))
  have hBA : ∀ W, Below W1.heap.size W1 W → Below w.heap.size w W := fun W h => hB1.trans (h.mono hB1.size)
  have HBA := Lib.hid hBA
  have HW1 := Lib.hid hW1
  clear hBA hW1
  go_enter Tryz.func11, Tryz.ntmps11
  go_upto_region 1 with fail
  (try rw [HW1.out])
  have r1 := b1.cell
  refine Ord.wp_region [(0, 1), (1, 0), (2, 0), (3, 2), (4, 2), (5, 0), (6, 0), (7, 0), (8, 0), (9, 0)] (fun W' => Below W1.heap.size W1 W') (by kernel_rfl) (by kernel_rfl) (fun c a d v w h => by cases d <;> exact h) (Below.refl _ _).drew ?_
  go_wp2_with (first
    | ((with_reducible refine Ord.at_wild ?_); refine Ord.wild_load (ad := ⟨w.heap.size, 0, none⟩) (.agg #[.slice pa m.places.length pc, .slice la m.legs.length lc, .slice ha m.herds.length hc, .slice sa m.seen.length sc]) rfl rfl ?_ ?_; (focus (intro W hW; exact loadVar_blk agg_mob (b1.below hW b1.lt) rfl)); intro K hK)
    | (go_at_call 44; refine (HH.out _).mono ?_; rw [h1]; rintro e w2 ⟨rfl, hb2⟩; have hz2 := hb2.size; (try simp only [World.size_drew] at hz2); try have r2 := (b1.drew.below hb2 (by simpa using b1.lt)).cell)
    | (go_at_call 34; refine (HK.out _ _ (HBA.out _ (by (repeat (first | assumption | exact Below.refl _ _ | refine Below.drew ?_ | refine Below.alloc ?_ (by first | omega | (simp; done) | (simp; omega)) _ | refine Below.setCell ?_ (by first | omega | (simp; done) | (simp; omega)) _ | refine Below.trans ?_ (Below.mono (by assumption) (by first | omega | (simp; done) | (simp; omega)))))))).mono ?_; intro e w5 h5; obtain ⟨v5, rfl, ht5, hb5⟩ := HKP.out _ _ _ h5; have hB5 : Below W1.heap.size W1 w5 := (by (repeat (first | assumption | exact Below.refl _ _ | refine Below.drew ?_ | refine Below.alloc ?_ (by first | omega | (simp; done) | (simp; omega)) _ | refine Below.setCell ?_ (by first | omega | (simp; done) | (simp; omega)) _ | refine Below.trans ?_ (Below.mono (by assumption) (by first | omega | (simp; done) | (simp; omega)))))); refine at_stop ?_)
    | ((with_reducible refine Ord.at_wild ?_); refine Ord.walk_skip rfl rfl (fun K hK => ?_)) | ((with_reducible refine Ord.at_eff ?_); refine Ord.walk_skip rfl rfl (fun K hK => ?_))
    | ((with_reducible refine Ord.at_calm ?_); refine Ord.calm_skip rfl ?_ (fun K hK => ?_); (focus (simp [Region.wanted, yielded]; done))) | with_reducible refine Ord.walk_calm rfl rfl (fun K hK => ?_) | ((with_reducible refine Ord.at_wild ?_); refine Ord.wild_fieldAddr rfl rfl (fun W => by simp [go_sem]; rfl) (fun K hK => ?_)) | ((with_reducible refine Ord.at_wild ?_); refine Ord.wild_move rfl rfl (fun K hK => ?_)) | ((with_reducible refine Ord.at_wild ?_); refine Ord.wild_nilCheck rfl rfl (fun K hK => ?_)) | with_reducible refine Ord.walk_eff rfl (by first | (simp; done) | assumption | (go_simp; done) | (repeat (first | assumption | exact Below.refl _ _ | refine Below.drew ?_ | refine Below.alloc ?_ (by first | omega | (simp; done) | (simp; omega)) _ | refine Below.setCell ?_ (by first | omega | (simp; done) | (simp; omega)) _ | refine Below.trans ?_ (Below.mono (by assumption) (by first | omega | (simp; done) | (simp; omega)))))) (fun K hK => ?_) | with_reducible refine Ord.at_fork ?_ ?_ | with_reducible refine Ord.walk_nil ?_ | (with_reducible refine Ord.next_of (by first | (simp; done) | (go_simp; done) | (repeat (first | assumption | exact Below.refl _ _ | refine Below.drew ?_ | refine Below.alloc ?_ (by first | omega | (simp; done) | (simp; omega)) _ | refine Below.setCell ?_ (by first | omega | (simp; done) | (simp; omega)) _ | refine Below.trans ?_ (Below.mono (by assumption) (by first | omega | (simp; done) | (simp; omega)))))) (fun _ => ?_)))
  unfold Stop
  have b15 := b1.below hB5 b1.lt
  have hBw5 := HBA.out _ hB5
  clear hb5 b1 r1 HK HKP
  obtain ⟨ta, tc, rfl, -⟩ := id ht5
  have r15 := b15.cell
  go_wp2_with (first
    | (refine wpList_load_blk 27 (.tmp 2) agg_mob rfl rfl rfl b15 rfl ?_)
    | (go_at_call 52; refine (HS.out _ hBw5 _ _ ht5).mono ?_; rintro e w7 ⟨rfl, hb7⟩; have c67 := (b6.below hB5 b6.lt).below hb7 (by have := hB5.size; have := b6.lt; omega))
    | (refine wpList_store_blk 31 (.tmp 4) (.tmp 23) agg_span rfl rfl rfl rfl c67 rfl rfl (by simp [Value.oneCell']) ?_; intro w8 h8)
    | ((with_reducible refine Ord.at_wild ?_); refine Ord.walk_skip rfl rfl (fun K hK => ?_)) | ((with_reducible refine Ord.at_eff ?_); refine Ord.walk_skip rfl rfl (fun K hK => ?_))
    | ((with_reducible refine Ord.at_calm ?_); refine Ord.calm_skip rfl ?_ (fun K hK => ?_); (focus (simp [Region.wanted, yielded]; done))) | with_reducible refine Ord.walk_calm rfl rfl (fun K hK => ?_) | ((with_reducible refine Ord.at_wild ?_); refine Ord.wild_fieldAddr rfl rfl (fun W => by simp [go_sem]; rfl) (fun K hK => ?_)) | ((with_reducible refine Ord.at_wild ?_); refine Ord.wild_move rfl rfl (fun K hK => ?_)) | ((with_reducible refine Ord.at_wild ?_); refine Ord.wild_nilCheck rfl rfl (fun K hK => ?_)) | with_reducible refine Ord.walk_eff rfl (by first | (simp; done) | assumption | (go_simp; done) | (repeat (first | assumption | exact Below.refl _ _ | refine Below.drew ?_ | refine Below.alloc ?_ (by first | omega | (simp; done) | (simp; omega)) _ | refine Below.setCell ?_ (by first | omega | (simp; done) | (simp; omega)) _ | refine Below.trans ?_ (Below.mono (by assumption) (by first | omega | (simp; done) | (simp; omega)))))) (fun K hK => ?_) | with_reducible refine Ord.at_fork ?_ ?_ | with_reducible refine Ord.walk_nil ?_ | (with_reducible refine Ord.next_of (by first | (simp; done) | (go_simp; done) | (repeat (first | assumption | exact Below.refl _ _ | refine Below.drew ?_ | refine Below.alloc ?_ (by first | omega | (simp; done) | (simp; omega)) _ | refine Below.setCell ?_ (by first | omega | (simp; done) | (simp; omega)) _ | refine Below.trans ?_ (Below.mono (by assumption) (by first | omega | (simp; done) | (simp; omega)))))) (fun _ => ?_)))
  have hc8 := h8.blk.cell
  refine bodyPost_ret (v := .tuple #[spv R, .int .i64 0]) ?_ rfl ⟨rfl, h8.below (hBw5.trans (hb7.mono hBw5.size)) (by omega)⟩
  simp [results, Tryz.results11, go_sem, hc8]
set_option maxHeartbeats 40000000 in
set_option maxRecDepth 100000 in
theorem r_Comes_yes {m : Mb} {A : Ma} {w : World} (i p : Nat) (hl : Mlen m) (hm : MbAt w m A) (hk : knownE m (validM m && fromB m i p) = 0) :
    Calls Tryz.prog 7 #[mv m A, .int .i64 (i : Int), .int .i64 (p : Int)] w (Gives2 (spv (joinL (((TM m).map fun t => dayAt m t.1 t.2 i p).map dup))) (.int .i64 0) w) := by
  obtain ⟨hv, hvb, hT0⟩ := known_yes hk
  rw [Bool.and_eq_true] at hvb
  obtain ⟨h1, h2⟩ := hvb
  have hlen := validM_len hv
  have hTl := TM_len hv
  have hfr := from_herdZ h2
  have hih : i < m.herds.length := by omega
  have HM := Lib.hid (fun W (hb : Below w.heap.size w W) => r_mob m A hl W (hm.below hb))
  have HF := Lib.hid (fun W (hb : Below w.heap.size w W) => r_from m A i p hl W (hm.below hb))
  have HK := Lib.hid (fun W vb (hb : Below w.heap.size w W) => r_known vb hl (hm.below hb))
  have HKP : Hid (∀ W e w', KnownPost m (validM m && fromB m i p) W e w' → ∃ v, e = .returned (.tuple #[v, .int .i64 0]) ∧ TruthsAt w' v (TM m) ∧ Below W.heap.size W w') := fun W e w' h => by
    obtain ⟨v, rfl, h2, h3⟩ := h
    rw [if_pos hk] at h2
    rw [hk]
    exact ⟨v, rfl, h2, h3⟩
  rw [h1, h2] at HKP
  have hsi : startN m i ≤ p := by have := startN_eq hv hih; have h3 : startI m i = (m.herds[i]).1 := (by unfold startI; simp [hih]); omega
  have HIn := Lib.hid (fun (t : List Int × List Int) (ht : t ∈ TM m) la lc da dc W (hb : Below w.heap.size w W) (hL : IntsM W la t.1) (hD : IntsM W da t.2) => r_In (A := A) (lc := lc) (dc := dc) (p := p) hv (TM_mem ht) (hm.below hb) hL hD hih hsi (by omega) W (Below.refl _ _))
  obtain ⟨i0, hi0, jz0, jz1, jz2⟩ := info_of Tryz.info3
  obtain ⟨R, hR⟩ : ∃ R, joinL (((TM m).map fun t => dayAt m t.1 t.2 i p).map dup) = R := ⟨_, rfl⟩
  rw [hR]
  have HH := Lib.hid (fun a c W hr => r_hull ((TM m).map fun t => dayAt m t.1 t.2 i p) (by simpa using hT0) (by rw [List.length_map]; omega) a c W hr)
  rw [hR] at HH
  obtain ⟨f, hf⟩ : ∃ f : List Int × List Int → Int, f = fun t => dayAt m t.1 t.2 i p := ⟨_, rfl⟩
  have hf2 : ∀ t : List Int × List Int, dayAt m t.1 t.2 i p = f t := fun t => by rw [hf]
  rw [← hf] at HH
  simp only [hf2] at HIn
  clear hl hk hv hR hm hf hf2 hsi hfr
  generalize TM m = T at *
  rcases A with ⟨pa, pc, la, lc, ha, hc, sa, sc⟩
  unfold mv mcells at *
  simp only at *
  obtain ⟨W1, hW1⟩ : ∃ W1, (w.alloc (.cells #[.slice pa m.places.length pc, .slice la m.legs.length lc, .slice ha m.herds.length hc, .slice sa m.seen.length sc] 27)).alloc (.cells #[.int .i64 0, .int .i64 0] 31) = W1 := ⟨_, rfl⟩
  have b1 : Blk W1 w.heap.size #[.slice pa m.places.length pc, .slice la m.legs.length lc, .slice ha m.herds.length hc, .slice sa m.seen.length sc] 27 := by rw [← hW1]; exact (Blk.new _ _ _).alloc _
  have b6 : Blk W1 (w.heap.size + 1) #[.int .i64 0, .int .i64 0] 31 := by rw [← hW1]; exact Blk.new' _ _ _ _ (by simp)
  have hB1 : Below w.heap.size w W1 := by rw [← hW1]; (repeat (first | assumption | exact Below.refl _ _ | refine Below.drew ?_ | refine Below.alloc ?_ (by first | omega | (simp; done) | (simp; omega)) _ | refine Below.setCell ?_ (by first | omega | (simp; done) | (simp; omega)) _ | refine Below.trans ?_ (Below.mono (by assumption) (by first | omega | (simp; done) | (simp; omega)))))
  have hBA : ∀ W, Below W1.heap.size W1 W → Below w.heap.size w W := fun W h => hB1.trans (h.mono hB1.size)
  have HBA := Lib.hid hBA
  have HW1 := Lib.hid hW1
  clear hBA hW1
  go_enter Tryz.func7, Tryz.ntmps7
  go_upto_region 1 with fail
  (try rw [HW1.out])
  have r1 := b1.cell
  refine Ord.wp_region [(0, 1), (1, 0), (2, 2), (3, 0), (4, 0), (5, 0), (6, 0), (7, 2), (8, 0), (9, 2), (10, 0), (11, 0), (12, 0), (13, 0), (14, 0)] (fun W' => Below W1.heap.size W1 W') (by kernel_rfl) (by kernel_rfl) (fun c a d v w h => by cases d <;> exact h) (Below.refl _ _).drew ?_
  go_wp2_with (first
    | ((with_reducible refine Ord.at_wild ?_); refine Ord.wild_load (ad := ⟨w.heap.size, 0, none⟩) (.agg #[.slice pa m.places.length pc, .slice la m.legs.length lc, .slice ha m.herds.length hc, .slice sa m.seen.length sc]) rfl rfl ?_ ?_; (focus (intro W hW; exact loadVar_blk agg_mob (b1.below hW b1.lt) rfl)); intro K hK)
    | (go_at_call 15; refine (HM.out _ (HBA.out _ (by (repeat (first | assumption | exact Below.refl _ _ | refine Below.drew ?_ | refine Below.alloc ?_ (by first | omega | (simp; done) | (simp; omega)) _ | refine Below.setCell ?_ (by first | omega | (simp; done) | (simp; omega)) _ | refine Below.trans ?_ (Below.mono (by assumption) (by first | omega | (simp; done) | (simp; omega)))))))).mono ?_; rw [h1]; rintro e w2 ⟨rfl, hb2⟩; have hz2 := hb2.size; (try simp only [World.size_drew] at hz2); try have r2 := (b1.drew.below hb2 (by simpa using b1.lt)).cell)
    | (go_at_call 35; refine (HF.out _ (HBA.out _ (by (repeat (first | assumption | exact Below.refl _ _ | refine Below.drew ?_ | refine Below.alloc ?_ (by first | omega | (simp; done) | (simp; omega)) _ | refine Below.setCell ?_ (by first | omega | (simp; done) | (simp; omega)) _ | refine Below.trans ?_ (Below.mono (by assumption) (by first | omega | (simp; done) | (simp; omega)))))))).mono ?_; rw [h2]; rintro e w2 ⟨rfl, hb2⟩; have hz2 := hb2.size; (try simp only [World.size_drew] at hz2); try have r2 := (b1.drew.below hb2 (by simpa using b1.lt)).cell)
    | (go_at_call 34; refine (HK.out _ _ (HBA.out _ (by (repeat (first | assumption | exact Below.refl _ _ | refine Below.drew ?_ | refine Below.alloc ?_ (by first | omega | (simp; done) | (simp; omega)) _ | refine Below.setCell ?_ (by first | omega | (simp; done) | (simp; omega)) _ | refine Below.trans ?_ (Below.mono (by assumption) (by first | omega | (simp; done) | (simp; omega)))))))).mono ?_; intro e w5 h5; obtain ⟨v5, rfl, ht5, hb5⟩ := HKP.out _ _ _ h5; have hB5 : Below W1.heap.size W1 w5 := (by (repeat (first | assumption | exact Below.refl _ _ | refine Below.drew ?_ | refine Below.alloc ?_ (by first | omega | (simp; done) | (simp; omega)) _ | refine Below.setCell ?_ (by first | omega | (simp; done) | (simp; omega)) _ | refine Below.trans ?_ (Below.mono (by assumption) (by first | omega | (simp; done) | (simp; omega)))))); refine at_stop ?_)
    | ((with_reducible refine Ord.at_wild ?_); refine Ord.walk_skip rfl rfl (fun K hK => ?_)) | ((with_reducible refine Ord.at_eff ?_); refine Ord.walk_skip rfl rfl (fun K hK => ?_))
    | ((with_reducible refine Ord.at_calm ?_); refine Ord.calm_skip rfl ?_ (fun K hK => ?_); (focus (simp [Region.wanted, yielded]; done))) | with_reducible refine Ord.walk_calm rfl rfl (fun K hK => ?_) | ((with_reducible refine Ord.at_wild ?_); refine Ord.wild_fieldAddr rfl rfl (fun W => by simp [go_sem]; rfl) (fun K hK => ?_)) | ((with_reducible refine Ord.at_wild ?_); refine Ord.wild_move rfl rfl (fun K hK => ?_)) | ((with_reducible refine Ord.at_wild ?_); refine Ord.wild_nilCheck rfl rfl (fun K hK => ?_)) | with_reducible refine Ord.walk_eff rfl (by first | (simp; done) | assumption | (go_simp; done) | (repeat (first | assumption | exact Below.refl _ _ | refine Below.drew ?_ | refine Below.alloc ?_ (by first | omega | (simp; done) | (simp; omega)) _ | refine Below.setCell ?_ (by first | omega | (simp; done) | (simp; omega)) _ | refine Below.trans ?_ (Below.mono (by assumption) (by first | omega | (simp; done) | (simp; omega)))))) (fun K hK => ?_) | with_reducible refine Ord.at_fork ?_ ?_ | with_reducible refine Ord.walk_nil ?_ | (with_reducible refine Ord.next_of (by first | (simp; done) | (go_simp; done) | (repeat (first | assumption | exact Below.refl _ _ | refine Below.drew ?_ | refine Below.alloc ?_ (by first | omega | (simp; done) | (simp; omega)) _ | refine Below.setCell ?_ (by first | omega | (simp; done) | (simp; omega)) _ | refine Below.trans ?_ (Below.mono (by assumption) (by first | omega | (simp; done) | (simp; omega)))))) (fun _ => ?_)))
  unfold Stop
  have b15 := b1.below hB5 b1.lt
  have hBw5 := HBA.out _ hB5
  clear hb5 b1 r1 HK HKP
  obtain ⟨ta, tc, rfl, -⟩ := id ht5
  have r15 := b15.cell
  go_wp2_with (first
    | ((with_reducible refine Ord.at_wild ?_); refine Ord.walk_skip rfl rfl (fun K hK => ?_)) | ((with_reducible refine Ord.at_eff ?_); refine Ord.walk_skip rfl rfl (fun K hK => ?_))
    | ((with_reducible refine Ord.at_calm ?_); refine Ord.calm_skip rfl ?_ (fun K hK => ?_); (focus (simp [Region.wanted, yielded]; done))) | with_reducible refine Ord.walk_calm rfl rfl (fun K hK => ?_) | ((with_reducible refine Ord.at_wild ?_); refine Ord.wild_fieldAddr rfl rfl (fun W => by simp [go_sem]; rfl) (fun K hK => ?_)) | ((with_reducible refine Ord.at_wild ?_); refine Ord.wild_move rfl rfl (fun K hK => ?_)) | ((with_reducible refine Ord.at_wild ?_); refine Ord.wild_nilCheck rfl rfl (fun K hK => ?_)) | with_reducible refine Ord.walk_eff rfl (by first | (simp; done) | assumption | (go_simp; done) | (repeat (first | assumption | exact Below.refl _ _ | refine Below.drew ?_ | refine Below.alloc ?_ (by first | omega | (simp; done) | (simp; omega)) _ | refine Below.setCell ?_ (by first | omega | (simp; done) | (simp; omega)) _ | refine Below.trans ?_ (Below.mono (by assumption) (by first | omega | (simp; done) | (simp; omega)))))) (fun K hK => ?_) | with_reducible refine Ord.at_fork ?_ ?_ | with_reducible refine Ord.walk_nil ?_ | (with_reducible refine Ord.next_of (by first | (simp; done) | (go_simp; done) | (repeat (first | assumption | exact Below.refl _ _ | refine Below.drew ?_ | refine Below.alloc ?_ (by first | omega | (simp; done) | (simp; omega)) _ | refine Below.setCell ?_ (by first | omega | (simp; done) | (simp; omega)) _ | refine Below.trans ?_ (Below.mono (by assumption) (by first | omega | (simp; done) | (simp; omega)))))) (fun _ => ?_)))
  have hsB := hB5.size
  have c6 := b6.below hB5 b6.lt
  have l6 := c6.lt
  go_loopw [10, 11] (fun x iv wr => ∃ k : Nat, k ≤ T.length ∧ iv = .int .i64 (k : Int) ∧ Below w5.heap.size w5 wr ∧ wr.ownsRow w5.heap.size 3 1 x k (((T.take k).map f).map icell)) (fun _ iv _ => T.length - (intOf iv).toNat)
  case atStart => exact ⟨0, Nat.zero_le _, rfl, Below.refl _ _, World.ownsRow_nil _ _ _ _⟩
  case round =>
    obtain ⟨k, hk, rfl, hBr, hown⟩ := hrel
    have hBx := hBw5.trans (hBr.mono hBw5.size)
    have c3 := b15.below hBr b15.lt
    have hsr := hBr.size
    by_cases hlt : k < T.length
    · have hlti : (k : Int) < (T.length : Int) := by omega
      obtain ⟨g, o, la2, lc2, da, dc, rfl, c1, c2, hL, hD⟩ := (ht5.below hBr).get hlt
      have HD := Lib.hid (fun W (hb : Below wr.heap.size wr W) => HIn.out T[k] (List.getElem_mem hlt) la2 lc2 da dc W (hBx.trans (hb.mono hBx.size)) (hL.below hb) (hD.below hb))
      have hTk : Hid (T.take (k + 1) = T.take k ++ [T[k]]) := List.take_succ_eq_append_getElem hlt
      have hgl := World.block_lt_of_cell? wr _ c1
      simp only at hgl
      clear hL hD HIn
      generalize T[k] = t at *
      obtain ⟨tL, tD⟩ := t
      unfold tv at HD
      simp only at *
      go_wp2_with fail
      refine Ord.wp_region [(0, 1), (1, 0), (2, 0), (3, 0), (4, 0), (5, 0), (6, 0), (7, 0), (8, 2), (9, 2), (10, 2), (11, 0)] (fun W' => Below w5.heap.size w5 W') (by kernel_rfl) (by kernel_rfl) (fun c a d v w h => by cases d <;> exact h) hBr.drew ?_
      go_wp2_with (first
        | (refine wpList_load_blk 27 (.tmp 3) agg_mob rfl rfl rfl c3.drew rfl ?_)
        | (go_at_call 36; refine (HD.out _ (by (repeat (first | assumption | exact Below.refl _ _ | refine Below.drew ?_ | refine Below.alloc ?_ (by first | omega | (simp; done) | (simp; omega)) _ | refine Below.setCell ?_ (by first | omega | (simp; done) | (simp; omega)) _ | refine Below.trans ?_ (Below.mono (by assumption) (by first | omega | (simp; done) | (simp; omega))))))).mono ?_; rintro e w7 ⟨rfl, hb7⟩; have hz7 := hb7.size; have hb7w : Below w5.heap.size w5 w7 := hBr.trans (((Below.refl _ _).drew.trans hb7).mono hsr); refine at_stop ?_)
        | ((with_reducible refine Ord.at_calm ?_); refine Ord.calm_skip rfl ?_ (fun K hK => ?_); (focus (simp [Region.wanted, yielded]; done))) | with_reducible refine Ord.walk_calm rfl rfl (fun K hK => ?_) | ((with_reducible refine Ord.at_wild ?_); refine Ord.wild_fieldAddr rfl rfl (fun W => by simp [go_sem]; rfl) (fun K hK => ?_)) | ((with_reducible refine Ord.at_wild ?_); refine Ord.wild_move rfl rfl (fun K hK => ?_)) | ((with_reducible refine Ord.at_wild ?_); refine Ord.wild_nilCheck rfl rfl (fun K hK => ?_)) | with_reducible refine Ord.walk_eff rfl (by first | (simp; done) | assumption | (go_simp; done) | (repeat (first | assumption | exact Below.refl _ _ | refine Below.drew ?_ | refine Below.alloc ?_ (by first | omega | (simp; done) | (simp; omega)) _ | refine Below.setCell ?_ (by first | omega | (simp; done) | (simp; omega)) _ | refine Below.trans ?_ (Below.mono (by assumption) (by first | omega | (simp; done) | (simp; omega)))))) (fun K hK => ?_) | with_reducible refine Ord.at_fork ?_ ?_ | with_reducible refine Ord.walk_nil ?_ | (with_reducible refine Ord.next_of (by first | (simp; done) | (go_simp; done) | (repeat (first | assumption | exact Below.refl _ _ | refine Below.drew ?_ | refine Below.alloc ?_ (by first | omega | (simp; done) | (simp; omega)) _ | refine Below.setCell ?_ (by first | omega | (simp; done) | (simp; omega)) _ | refine Below.trans ?_ (Below.mono (by assumption) (by first | omega | (simp; done) | (simp; omega)))))) (fun _ => ?_)))
      unfold Stop
      have hs7 := hb7w.size
      have hown7 : w7.ownsRow w5.heap.size 3 1 u10 k (((T.take k).map f).map icell) := ownsRow_below (show wr.drew.ownsRow _ _ _ _ _ _ from hown) hb7
      have hhow : Hid (((T.take (k + 1)).map f).map icell = ((T.take k).map f).map icell ++ [.int .i64 (f (tL, tD))]) := by
        show _ = _; rw [hTk.out]; simp [icell]
      clear hb7 hown
      go_wp2_with (first
        | (at_builtin; refine at_stop ?_)
        | ((with_reducible refine Ord.at_calm ?_); refine Ord.calm_skip rfl ?_ (fun K hK => ?_); (focus (simp [Region.wanted, yielded]; done))) | with_reducible refine Ord.walk_calm rfl rfl (fun K hK => ?_) | ((with_reducible refine Ord.at_wild ?_); refine Ord.wild_fieldAddr rfl rfl (fun W => by simp [go_sem]; rfl) (fun K hK => ?_)) | ((with_reducible refine Ord.at_wild ?_); refine Ord.wild_move rfl rfl (fun K hK => ?_)) | ((with_reducible refine Ord.at_wild ?_); refine Ord.wild_nilCheck rfl rfl (fun K hK => ?_)) | with_reducible refine Ord.walk_eff rfl (by first | (simp; done) | assumption | (go_simp; done) | (repeat (first | assumption | exact Below.refl _ _ | refine Below.drew ?_ | refine Below.alloc ?_ (by first | omega | (simp; done) | (simp; omega)) _ | refine Below.setCell ?_ (by first | omega | (simp; done) | (simp; omega)) _ | refine Below.trans ?_ (Below.mono (by assumption) (by first | omega | (simp; done) | (simp; omega)))))) (fun K hK => ?_) | with_reducible refine Ord.at_fork ?_ ?_ | with_reducible refine Ord.walk_nil ?_ | (with_reducible refine Ord.next_of (by first | (simp; done) | (go_simp; done) | (repeat (first | assumption | exact Below.refl _ _ | refine Below.drew ?_ | refine Below.alloc ?_ (by first | omega | (simp; done) | (simp; omega)) _ | refine Below.setCell ?_ (by first | omega | (simp; done) | (simp; omega)) _ | refine Below.trans ?_ (Below.mono (by assumption) (by first | omega | (simp; done) | (simp; omega)))))) (fun _ => ?_)))
      unfold Stop
      refine wpList_append_own _ rfl (.tmp 35) (.tmp 44) 72 rfl w5.heap.size 3 i0 (.int .i64 0) 1 8 Tryz.underlying72 hi0 jz0 jz1 jz2 rfl (by decide) u10 k (((T.take k).map f).map icell) rfl (World.ownsRow.alloc hown7 _) ⟨w7.heap.size, 0, none⟩ 1 1 [.int .i64 (f (tL, tD))] rfl rfl (news_blk (A := #[.int .i64 (f (tL, tD))]) (Blk.new _ _ _)) (by simp [Value.oneCell']) (by unfold maxLen; omega) (by omega) (by simp; omega) ?_
      intro v8 w8 hown8 hgrow8 _
      have hB8 : Below w5.heap.size w5 w8 := (hb7w.alloc hs7 _).grown hgrow8 (by simp; omega) (fun j e => (hown7.lt j e).1)
      clear hgrow8
      go_wp2_with (first
        | ((with_reducible refine Ord.at_calm ?_); refine Ord.calm_skip rfl ?_ (fun K hK => ?_); (focus (simp [Region.wanted, yielded]; done))) | with_reducible refine Ord.walk_calm rfl rfl (fun K hK => ?_) | ((with_reducible refine Ord.at_wild ?_); refine Ord.wild_fieldAddr rfl rfl (fun W => by simp [go_sem]; rfl) (fun K hK => ?_)) | ((with_reducible refine Ord.at_wild ?_); refine Ord.wild_move rfl rfl (fun K hK => ?_)) | ((with_reducible refine Ord.at_wild ?_); refine Ord.wild_nilCheck rfl rfl (fun K hK => ?_)) | with_reducible refine Ord.walk_eff rfl (by first | (simp; done) | assumption | (go_simp; done) | (repeat (first | assumption | exact Below.refl _ _ | refine Below.drew ?_ | refine Below.alloc ?_ (by first | omega | (simp; done) | (simp; omega)) _ | refine Below.setCell ?_ (by first | omega | (simp; done) | (simp; omega)) _ | refine Below.trans ?_ (Below.mono (by assumption) (by first | omega | (simp; done) | (simp; omega)))))) (fun K hK => ?_) | with_reducible refine Ord.at_fork ?_ ?_ | with_reducible refine Ord.walk_nil ?_ | (with_reducible refine Ord.next_of (by first | (simp; done) | (go_simp; done) | (repeat (first | assumption | exact Below.refl _ _ | refine Below.drew ?_ | refine Below.alloc ?_ (by first | omega | (simp; done) | (simp; omega)) _ | refine Below.setCell ?_ (by first | omega | (simp; done) | (simp; omega)) _ | refine Below.trans ?_ (Below.mono (by assumption) (by first | omega | (simp; done) | (simp; omega)))))) (fun _ => ?_)))
      refine ⟨⟨k + 1, by omega, by go_num, hB8, ?_⟩, by simp [intOf]; omega⟩
      rw [hhow.out]
      exact hown8
    · have hlti : ¬ (k : Int) < (T.length : Int) := by omega
      obtain rfl : k = T.length := by omega
      rw [List.take_length] at hown
      have hown2 : wr.ownsRow w5.heap.size 3 1 u10 (T.map f).length ((T.map f).map icell) := by rw [List.length_map]; exact hown
      obtain ⟨ia, ic, rfl, hin⟩ := ints_own (by simpa using hT0) hown2
      have HHr := Lib.hid (HH.out ia ic wr hin)
      have c6r := c6.below hBr l6
      clear HIn HH hin hown hown2
      rw [List.length_map] at HHr ⊢
      go_wp2_with (first
        | (go_at_call 37; refine HHr.out.mono ?_; rintro e w7 ⟨rfl, hb7⟩; have c67 := c6r.below hb7 (by omega))
        | (refine wpList_store_blk 31 (.tmp 6) (.tmp 47) agg_span rfl rfl rfl rfl c67 rfl rfl (by simp [Value.oneCell']) ?_; intro w8 h8))
      have hc8 := h8.blk.cell
      refine bodyPost_ret (v := .tuple #[spv R, .int .i64 0]) ?_ rfl ⟨rfl, h8.below (hBx.trans (hb7.mono hBx.size)) (by omega)⟩
      simp [results, Tryz.results7, go_sem, hc8]
end Go.Proofs.YteeinehpneppnaaGreat
