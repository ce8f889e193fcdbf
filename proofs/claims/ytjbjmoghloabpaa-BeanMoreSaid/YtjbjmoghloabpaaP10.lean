/- Parts of a proof: BnR, BnS. -/
import Derived.Test.YtjbjmoghloabpaaP03
import Derived.Test.YtjbjmoghloabpaaP06
import Derived.Defers
import Derived.Recover
import Derived.Tactics2
import Derived.Test.YtjbjmoghloabpaaP09
set_option linter.unusedVariables false
set_option linter.unusedSimpArgs false
namespace Go.Proofs.Ytjbjmoghloabpaa
open Go.RowKit Go.Proofs
attribute [local irreducible] Ord.walk

theorem b_stopped_nil (p : Option Addr) (w : World) :
    Calls Try.prog 44 #[.nilIface, .pointer p] w (Same (.tuple #[]) w) := by
  go_enter Try.func44, Try.ntmps44
  go_wp2
  go_end0
  exact ⟨rfl, rfl⟩
/-- The error lies in its cell; nothing else has turned. -/
def Caught (e : Int) (pb : Nat) (w : World) (w' : World) : Prop := Off [pb] w.heap.size w w' ∧ Blk w' pb #[.int .i64 e] 30
theorem b_stopped_stop (e : Int) (pb : Nat) (w : World) (hb : Blk w pb #[.int .i64 0] 30) :
    Calls Try.prog 44 #[stopV e, .pointer (some ⟨pb, 0, none⟩)] w fun x w' => x = .returned (.tuple #[]) ∧ Caught e pb w w' := by
  have r0 := hb.cell
  have r1 := hb.free
  have hlt := hb.lt
  have hta : ∀ w, (Instr.typeAssert (stopV e) 20 110 true).run Try.prog w = .ok (.tuple #[.agg #[.int .i64 e], .bool true]) w := fun _ => by kernel_rfl
  have heq : ∀ w, (Go.binOp .eql 20 (stopV e) .nilIface).run Try.prog w = .ok (.bool false) w := fun _ => by kernel_rfl
  unfold stopV at *
  go_enter Try.func44, Try.ntmps44
  go_wp2
  go_end0
  refine ⟨rfl, ((Off.refl _ _ _).setCell (.inl (by simp)) _).alloc (by simp) _, (hb.set 0 _).alloc _⟩
/-- What a deferred closure is good for. -/
def Catch (K : FuncId) : Prop :=
  (∀ (e : Int) (pb : Nat) (w : World), Blk w pb #[.int .i64 0] 30 → CallsD Try.prog K #[.pointer (some ⟨pb, 0, none⟩)] (.panicking [{ v := stopV e, recovered := false }]) w
    fun x u' w' => x = .returned (.tuple #[]) ∧ u' = .panicking [{ v := stopV e, recovered := true }] ∧ Caught e pb w w') ∧
  (∀ (pb : Nat) (w : World), CallsD Try.prog K #[.pointer (some ⟨pb, 0, none⟩)] .returning w fun x u' w' => x = .returned (.tuple #[]) ∧ u' = .returning ∧ w' = w)
theorem catch_Whites : Catch 43 := by
  refine ⟨fun e pb w hb => ?_, fun pb w => ?_⟩
  · have HS := Lib.hid (b_stopped_stop e pb w hb)
    unfold stopV at *
    refine callsD_of_wpS Try.func43 rfl fun c₀ cs hu => ?_
    apply wpS_region
    simp [wpOpsS, go_sem, recoverD, hu, Try.ntmps43]
    refine HS.out.mono ?_
    rintro x w' ⟨rfl, h2⟩
    simp [bodyPostS, results, Try.results43, go_sem]
    exact h2
  · have HS := Lib.hid (b_stopped_nil (some ⟨pb, 0, none⟩) w)
    refine callsD_of_wpS Try.func43 rfl fun c₀ cs hu => ?_
    apply wpS_region
    simp [wpOpsS, go_sem, recoverD, hu, Try.ntmps43]
    refine HS.out.mono ?_
    rintro x w' ⟨rfl, rfl⟩
    cases c₀
    simp_all [bodyPostS, results, Try.results43, go_sem]
theorem catch_White : Catch 51 := by
  refine ⟨fun e pb w hb => ?_, fun pb w => ?_⟩
  · have HS := Lib.hid (b_stopped_stop e pb w hb)
    unfold stopV at *
    refine callsD_of_wpS Try.func51 rfl fun c₀ cs hu => ?_
    apply wpS_region
    simp [wpOpsS, go_sem, recoverD, hu, Try.ntmps51]
    refine HS.out.mono ?_
    rintro x w' ⟨rfl, h2⟩
    simp [bodyPostS, results, Try.results51, go_sem]
    exact h2
  · have HS := Lib.hid (b_stopped_nil (some ⟨pb, 0, none⟩) w)
    refine callsD_of_wpS Try.func51 rfl fun c₀ cs hu => ?_
    apply wpS_region
    simp [wpOpsS, go_sem, recoverD, hu, Try.ntmps51]
    refine HS.out.mono ?_
    rintro x w' ⟨rfl, rfl⟩
    cases c₀
    simp_all [bodyPostS, results, Try.results51, go_sem]
theorem catch_Known : Catch 62 := by
  refine ⟨fun e pb w hb => ?_, fun pb w => ?_⟩
  · have HS := Lib.hid (b_stopped_stop e pb w hb)
    unfold stopV at *
    refine callsD_of_wpS Try.func62 rfl fun c₀ cs hu => ?_
    apply wpS_region
    simp [wpOpsS, go_sem, recoverD, hu, Try.ntmps62]
    refine HS.out.mono ?_
    rintro x w' ⟨rfl, h2⟩
    simp [bodyPostS, results, Try.results62, go_sem]
    exact h2
  · have HS := Lib.hid (b_stopped_nil (some ⟨pb, 0, none⟩) w)
    refine callsD_of_wpS Try.func62 rfl fun c₀ cs hu => ?_
    apply wpS_region
    simp [wpOpsS, go_sem, recoverD, hu, Try.ntmps62]
    refine HS.out.mono ?_
    rintro x w' ⟨rfl, rfl⟩
    cases c₀
    simp_all [bodyPostS, results, Try.results62, go_sem]
theorem catch_Passed : Catch 65 := by
  refine ⟨fun e pb w hb => ?_, fun pb w => ?_⟩
  · have HS := Lib.hid (b_stopped_stop e pb w hb)
    unfold stopV at *
    refine callsD_of_wpS Try.func65 rfl fun c₀ cs hu => ?_
    apply wpS_region
    simp [wpOpsS, go_sem, recoverD, hu, Try.ntmps65]
    refine HS.out.mono ?_
    rintro x w' ⟨rfl, h2⟩
    simp [bodyPostS, results, Try.results65, go_sem]
    exact h2
  · have HS := Lib.hid (b_stopped_nil (some ⟨pb, 0, none⟩) w)
    refine callsD_of_wpS Try.func65 rfl fun c₀ cs hu => ?_
    apply wpS_region
    simp [wpOpsS, go_sem, recoverD, hu, Try.ntmps65]
    refine HS.out.mono ?_
    rintro x w' ⟨rfl, rfl⟩
    cases c₀
    simp_all [bodyPostS, results, Try.results65, go_sem]
theorem catch_Same : Catch 67 := by
  refine ⟨fun e pb w hb => ?_, fun pb w => ?_⟩
  · have HS := Lib.hid (b_stopped_stop e pb w hb)
    unfold stopV at *
    refine callsD_of_wpS Try.func67 rfl fun c₀ cs hu => ?_
    apply wpS_region
    simp [wpOpsS, go_sem, recoverD, hu, Try.ntmps67]
    refine HS.out.mono ?_
    rintro x w' ⟨rfl, h2⟩
    simp [bodyPostS, results, Try.results67, go_sem]
    exact h2
  · have HS := Lib.hid (b_stopped_nil (some ⟨pb, 0, none⟩) w)
    refine callsD_of_wpS Try.func67 rfl fun c₀ cs hu => ?_
    apply wpS_region
    simp [wpOpsS, go_sem, recoverD, hu, Try.ntmps67]
    refine HS.out.mono ?_
    rintro x w' ⟨rfl, rfl⟩
    cases c₀
    simp_all [bodyPostS, results, Try.results67, go_sem]
theorem catch_Count : Catch 70 := by
  refine ⟨fun e pb w hb => ?_, fun pb w => ?_⟩
  · have HS := Lib.hid (b_stopped_stop e pb w hb)
    unfold stopV at *
    refine callsD_of_wpS Try.func70 rfl fun c₀ cs hu => ?_
    apply wpS_region
    simp [wpOpsS, go_sem, recoverD, hu, Try.ntmps70]
    refine HS.out.mono ?_
    rintro x w' ⟨rfl, h2⟩
    simp [bodyPostS, results, Try.results70, go_sem]
    exact h2
  · have HS := Lib.hid (b_stopped_nil (some ⟨pb, 0, none⟩) w)
    refine callsD_of_wpS Try.func70 rfl fun c₀ cs hu => ?_
    apply wpS_region
    simp [wpOpsS, go_sem, recoverD, hu, Try.ntmps70]
    refine HS.out.mono ?_
    rintro x w' ⟨rfl, rfl⟩
    cases c₀
    simp_all [bodyPostS, results, Try.results70, go_sem]
theorem catch_Tell : Catch 73 := by
  refine ⟨fun e pb w hb => ?_, fun pb w => ?_⟩
  · have HS := Lib.hid (b_stopped_stop e pb w hb)
    unfold stopV at *
    refine callsD_of_wpS Try.func73 rfl fun c₀ cs hu => ?_
    apply wpS_region
    simp [wpOpsS, go_sem, recoverD, hu, Try.ntmps73]
    refine HS.out.mono ?_
    rintro x w' ⟨rfl, h2⟩
    simp [bodyPostS, results, Try.results73, go_sem]
    exact h2
  · have HS := Lib.hid (b_stopped_nil (some ⟨pb, 0, none⟩) w)
    refine callsD_of_wpS Try.func73 rfl fun c₀ cs hu => ?_
    apply wpS_region
    simp [wpOpsS, go_sem, recoverD, hu, Try.ntmps73]
    refine HS.out.mono ?_
    rintro x w' ⟨rfl, rfl⟩
    cases c₀
    simp_all [bodyPostS, results, Try.results73, go_sem]
theorem catch_Quiet : Catch 80 := by
  refine ⟨fun e pb w hb => ?_, fun pb w => ?_⟩
  · have HS := Lib.hid (b_stopped_stop e pb w hb)
    unfold stopV at *
    refine callsD_of_wpS Try.func80 rfl fun c₀ cs hu => ?_
    apply wpS_region
    simp [wpOpsS, go_sem, recoverD, hu, Try.ntmps80]
    refine HS.out.mono ?_
    rintro x w' ⟨rfl, h2⟩
    simp [bodyPostS, results, Try.results80, go_sem]
    exact h2
  · have HS := Lib.hid (b_stopped_nil (some ⟨pb, 0, none⟩) w)
    refine callsD_of_wpS Try.func80 rfl fun c₀ cs hu => ?_
    apply wpS_region
    simp [wpOpsS, go_sem, recoverD, hu, Try.ntmps80]
    refine HS.out.mono ?_
    rintro x w' ⟨rfl, rfl⟩
    cases c₀
    simp_all [bodyPostS, results, Try.results80, go_sem]
theorem catch_Clash : Catch 83 := by
  refine ⟨fun e pb w hb => ?_, fun pb w => ?_⟩
  · have HS := Lib.hid (b_stopped_stop e pb w hb)
    unfold stopV at *
    refine callsD_of_wpS Try.func83 rfl fun c₀ cs hu => ?_
    apply wpS_region
    simp [wpOpsS, go_sem, recoverD, hu, Try.ntmps83]
    refine HS.out.mono ?_
    rintro x w' ⟨rfl, h2⟩
    simp [bodyPostS, results, Try.results83, go_sem]
    exact h2
  · have HS := Lib.hid (b_stopped_nil (some ⟨pb, 0, none⟩) w)
    refine callsD_of_wpS Try.func83 rfl fun c₀ cs hu => ?_
    apply wpS_region
    simp [wpOpsS, go_sem, recoverD, hu, Try.ntmps83]
    refine HS.out.mono ?_
    rintro x w' ⟨rfl, rfl⟩
    cases c₀
    simp_all [bodyPostS, results, Try.results83, go_sem]
end Go.Proofs.Ytjbjmoghloabpaa
set_option linter.unusedVariables false
set_option linter.unusedSimpArgs false
namespace Go.Proofs.Ytjbjmoghloabpaa
open Go.RowKit Go.Proofs
attribute [local irreducible] Ord.walk

theorem hasB_full (n i : Nat) (h : i < n) : hasB (2 ^ n - 1) i = true := by
  have h1 := Nat.testBit_two_pow_sub_one n i
  rw [Nat.testBit_eq_decide_div_mod_eq] at h1
  unfold hasB
  simpa [h] using h1
theorem sel_full (ks ws : List Kn) : sel ks (2 ^ ks.length - 1) ws = ks ++ ws := by
  unfold sel
  congr 1
  have : ∀ k, k ≤ ks.length → selTo ks (2 ^ ks.length - 1) k = ks.take k := by
    intro k
    induction k with
    | zero => intro _; simp [selTo]
    | succ k ih =>
      intro h
      rw [selTo_succ ks _ k (by omega), ih (by omega), hasB_full _ _ (by omega), if_pos rfl, List.take_succ_eq_append_getElem (by omega)]
  rw [this _ (Nat.le_refl _), List.take_length]
/-- A valid vote that is looked at. -/
structure Vt (w : World) (v : Nat) (b : Bn) (V : Nat) (ks : List Kn) (ga : Option Addr) (gc : Nat) (pa : Option Addr) (pc : Nat) (ka : Option Addr) (kc : Nat) : Prop where
  va : VoteAt w v b ga gc pa pc ka ks.length kc
  kn : KnAt w ka ks
  hV : b.V = (V : Int)
  hV1 : 1 ≤ V
  hV8 : V ≤ 8
  hlo : 0 ≤ b.lo
  hhi : b.hi ≤ 8
  hkl : ks.length ≤ 8
  hok : ∀ x ∈ ks, knOk x
  hgn : ks.countP isG ≤ 4
theorem Vt.below {w w' : World} {v : Nat} {b : Bn} {V : Nat} {ks : List Kn} {ga : Option Addr} {gc : Nat} {pa : Option Addr} {pc : Nat} {ka : Option Addr} {kc : Nat} (h : Vt w v b V ks ga gc pa pc ka kc) (hb : Below w.heap.size w w') : Vt w' v b V ks ga gc pa pc ka kc :=
  ⟨VoteAt.below h.va hb, h.kn.below hb, h.hV, h.hV1, h.hV8, h.hlo, h.hhi, h.hkl, h.hok, h.hgn⟩
theorem countN_le (V : Nat) (hV : V ≤ 8) (lo hi : Int) (L : List Kn) (n : Nat) : countN V lo hi L n ≤ 256 := by
  unfold countN
  split
  · omega
  · rename_i t gs _
    have h1 := outN_le gs (statesTo gs t V V) n
    have h2 := statesTo_len gs t V V
    have h3 := Nat.pow_le_pow_right (show 0 < 2 by omega) hV
    have h4 : (2 : Nat) ^ 8 = 256 := rfl
    omega
theorem countN_sum (V : Nat) (hV : V ≤ 8) (lo hi : Int) (L : List Kn) : csum (countN V lo hi L) ≤ 2304 := by
  have h := countN_le V hV lo hi L
  have := h 0; have := h 1; have := h 2; have := h 3; have := h 4; have := h 5; have := h 6; have := h 7; have := h 8
  unfold csum; omega
section
variable {w : World} {v : Nat} {b : Bn} {V : Nat} {ks : List Kn} {ga : Option Addr} {gc : Nat} {pa : Option Addr} {pc : Nat} {ka : Option Addr} {kc : Nat}
theorem Vt.counts (h : Vt w v b V ks ga gc pa pc ka kc) (ws : List Kn) (wa : Option Addr) (wcap : Nat) (set : Nat) (hset : set < 2 ^ 62) (hw : KnAt w wa ws) (hwl : ws.length ≤ 2) (hwo : ∀ x ∈ ws, knOk x) (hwc : wa = none → wcap = 0) :
    Calls Try.prog 56 #[.pointer (some ⟨v, 0, none⟩), .int .u64 set, .slice wa ws.length wcap] w (Gives (cv (countN V b.lo b.hi (sel ks set ws))) w) :=
  b_counts v b V h.hV h.hV8 h.hlo h.hhi ga gc pa pc ka kc ks ws set wa wcap w h.va h.kn hw h.hkl hwl hset (by intro x hx; rcases List.mem_append.1 hx with hx | hx; exact h.hok x hx; exact hwo x hx) hwc h.hgn
theorem Vt.full (h : Vt w v b V ks ga gc pa pc ka kc) : 2 ^ ks.length - 1 < 2 ^ 62 := by
  have := Nat.pow_le_pow_right (show 0 < 2 by omega) h.hkl
  have h2 : (2 : Nat) ^ 8 = 256 := rfl
  omega
theorem Vt.every (h : Vt w v b V ks ga gc pa pc ka kc) : Calls Try.prog 57 #[.pointer (some ⟨v, 0, none⟩)] w (Same (.int .u64 ((2 ^ ks.length - 1 : Nat) : Int)) w) :=
  b_every v w ka ks.length kc h.hkl h.va.c6
theorem Vt.all (h : Vt w v b V ks ga gc pa pc ka kc) : Calls Try.prog 56 #[.pointer (some ⟨v, 0, none⟩), .int .u64 ((2 ^ ks.length - 1 : Nat) : Int), .slice none 0 0] w (Gives (cv (countN V b.lo b.hi ks)) w) := by
  have := h.counts [] none 0 (2 ^ ks.length - 1) h.full (by intro i hi; simp at hi) (by simp) (by simp) (fun _ => rfl)
  rwa [sel_full, List.append_nil] at this
end
theorem cv_size (c : Nat → Nat) : (ocells c).size = 9 := rfl
theorem cv_ones (c : Nat → Nat) : (ocells c).all (·.oneCell') = true := by simp [ocells, Value.oneCell']

set_option maxHeartbeats 4000000 in
set_option maxRecDepth 100000 in
theorem b_told_yes {w : World} {v : Nat} {b : Bn} {V : Nat} {ks : List Kn} {ga : Option Addr} {gc : Nat} {pa : Option Addr} {pc : Nat} {ka : Option Addr} {kc : Nat} (h : Vt w v b V ks ga gc pa pc ka kc) (hs : 0 < csum (countN V b.lo b.hi ks)) :
    Calls Try.prog 47 #[.pointer (some ⟨v, 0, none⟩)] w (Gives (cv (countN V b.lo b.hi ks)) w) := by
  have hle := countN_sum V h.hV8 b.lo b.hi ks
  have HE := Lib.hid (fun w' (hb : Below w.heap.size w w') => (h.below hb).every)
  have HC := Lib.hid (fun w' (hb : Below w.heap.size w w') => (h.below hb).all)
  have HA := Lib.hid (b_all (countN V b.lo b.hi ks) (by omega))
  have HM := Lib.hid b_must_yes
  have q1 := cv_size (countN V b.lo b.hi ks)
  have q2 := cv_ones (countN V b.lo b.hi ks)
  have hgt : ((csum (countN V b.lo b.hi ks) : Int) > 0) := by omega
  have hcv : Hid (cv (countN V b.lo b.hi ks) = .agg (ocells (countN V b.lo b.hi ks))) := rfl
  generalize csum (countN V b.lo b.hi ks) = S at *
  generalize cv (countN V b.lo b.hi ks) = CV at *
  generalize ocells (countN V b.lo b.hi ks) = OC at *
  obtain rfl := hcv.out
  go_enter Try.func47, Try.ntmps47
  go_wp2_with (first
    | (go_at_call 57; refine (HE.out _ (by (repeat (first | assumption | exact Below.refl _ _ | refine Below.drew ?_ | refine Below.alloc ?_ (by first | omega | (simp; done) | (simp; omega)) _ | refine Below.setCell ?_ (by first | omega | (simp; done) | (simp; omega)) _ | refine Below.trans ?_ (Below.mono (by assumption) (by first | omega | (simp; done) | (simp; omega))))))).mono ?_; rintro e w' ⟨rfl, rfl⟩)
    | (go_at_call 56; refine (HC.out _ (by (repeat (first | assumption | exact Below.refl _ _ | refine Below.drew ?_ | refine Below.alloc ?_ (by first | omega | (simp; done) | (simp; omega)) _ | refine Below.setCell ?_ (by first | omega | (simp; done) | (simp; omega)) _ | refine Below.trans ?_ (Below.mono (by assumption) (by first | omega | (simp; done) | (simp; omega))))))).mono ?_; rintro e w1 ⟨rfl, hb1⟩)
    | (go_at_call 54; refine (HA.out _).mono ?_; rintro e w3 ⟨rfl, hb3⟩; have b3 := h2.blk.below hb3 h2.blk.lt; have b2 := h2.other (((Blk.new w (ocells fun _ => 0) 62).below hb1 (by simp)).alloc _) (by have := hb1.size; simp at this; omega); have b0 := b2.below hb3 b2.lt)
    | (go_at_call 76; refine (HM.out _ _).mono ?_; rintro e w' ⟨rfl, rfl⟩)
    | (refine wpList_store_blk 62 (.tmp 3) (.tmp 7) agg_counts rfl rfl rfl rfl (Blk.new _ _ _) rfl q1 q2 ?_; intro w2 h2)
    | (refine wpList_store_blk 62 (.tmp 2) (.tmp 12) agg_counts rfl rfl rfl rfl b0 rfl q1 q2 ?_; intro w5 h5; refine at_stop ?_)
    | (refine wpList_load_blk 62 (.tmp 3) agg_counts rfl rfl rfl b3 q1 ?_)
    | (refine wpList_load_blk 62 (.tmp 3) agg_counts rfl rfl rfl h2.blk q1 ?_))
  unfold Stop
  go_wp2_with fail
  (try simp only [Exit.inBlock, Exit.then])
  refine bodyPost_ret (v := .agg OC) (results_cell_blk rfl _ agg_counts rfl h5.blk q1) rfl ⟨rfl, ?_⟩
  have hb4 : Below w.heap.size w w2 := h2.below ((((Below.refl _ _).alloc (Nat.le_refl _) _).trans (hb1.mono (by simp))).alloc (by have := hb1.size; simp at this; omega) _) (by have := hb1.size; simp at this; omega)
  exact h5.below (hb4.trans (hb3.mono hb4.size)) (Nat.le_refl _)
end Go.Proofs.Ytjbjmoghloabpaa
