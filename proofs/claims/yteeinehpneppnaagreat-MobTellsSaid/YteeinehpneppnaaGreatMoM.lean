/- Package mob: stopped, and the deferred calls that recover; leaving with them. (Printed by mkMoM.py) -/
import Derived.Test.YteeinehpneppnaaGreatMoL
import Derived.DefersIn
import Derived.Recover
import Derived.Defers
import Derived.Tactics2
set_option linter.unusedVariables false
set_option linter.unusedSimpArgs false
namespace Go.Proofs.YteeinehpneppnaaGreat
open Go.RowKit Go.Proofs
attribute [local irreducible] Ord.walk
/-- A deferred call's contract, under the wide fence, from a walk of its body. -/
theorem dcall_of_wpS {P : Program} {f : FuncId} {fn : Func} {c : Code} {args : Array Value} {u : FrameMode} {w : World} {R : Ending → FrameMode → World → Prop}
    (hf : P.funcs[f]? = some fn) (hb : fn.body = some c)
    (h : ∀ (c₀ : Frame) (cs : List Frame), c₀.mode = u → c.wpS P (bodyPostS P fn c₀ cs R) { tmps := args ++ Array.replicate (fn.ntmps - args.size) undef, defers := [] } (c₀ :: cs) w) :
    CallsDIn Fence.wide 0 P f args u w R := by
  refine ⟨trivial, fun c₀ cs hu _ => ?_⟩
  obtain ⟨b, hbb⟩ : ∃ b : Frame, b = { (default : Frame) with fn := f, kind := .deferred } := ⟨_, rfl⟩
  have hfn : b.fn = f := by rw [hbb]
  have hkd : b.kind = .deferred := by rw [hbb]
  have hent : Frame.enter P f args .deferred = b.at { tmps := args ++ Array.replicate (fn.ntmps - args.size) undef, defers := [] } [.code c] := by
    rw [hbb]; simp [Frame.enter, Frame.at, hf, hb]
  obtain ⟨e, a', cs', w', hq, har⟩ := h c₀ cs hu b [] hkd (by rw [hbb]; rfl)
  rw [← hent] at har
  cases e with
  | normal =>
    obtain ⟨hd, u', rfl, v, hr, hR⟩ := hq
    exact ⟨.returned v, u', w', _, hR, comesIn_wide.2 (Steps.trans har (.one step_end)), hkd, hfn, rfl, hd, fn, (show P.funcs[b.fn]? = some fn by rw [hfn]; exact hf), hr⟩
  | ret =>
    obtain ⟨hd, u', rfl, v, hr, hR⟩ := hq
    obtain ⟨todo, hs⟩ := har
    exact ⟨.returned v, u', w', _, hR, comesIn_wide.2 hs, hkd, hfn, rfl, hd, fn, (show P.funcs[b.fn]? = some fn by rw [hfn]; exact hf), hr⟩
  | panic chain =>
    obtain ⟨hd, u', rfl, hR⟩ := hq
    obtain ⟨todo, hs⟩ := har
    exact ⟨.panicked chain, u', w', _, hR, comesIn_wide.2 hs, hkd, hfn, rfl, hd, fn, (show P.funcs[b.fn]? = some fn by rw [hfn]; exact hf)⟩
  | exit id => exact hq.elim
  | goto l => exact hq.elim
  | outgrown =>
    obtain ⟨u', hR⟩ := hq
    exact ⟨.outgrown, u', w', b, hR, comesIn_wide.2 (har.resolve_left (by simp [hkd])), hkd, hfn, trivial⟩
theorem m_stopped_nil (p : Option Addr) (w : World) :
    Calls Tryz.prog 24 #[.nilIface, .pointer p] w (Same (.tuple #[]) w) := by
  go_enter Tryz.func24, Tryz.ntmps24
  go_wp2
  go_end0
  exact ⟨rfl, rfl⟩
/-- The error lies in its cell; nothing else has turned. -/
def Caught (e : Int) (pb : Nat) (w : World) (w' : World) : Prop := Lets (fun k _ => k = pb) w w' ∧ Blk w' pb #[.int .i64 e] 32
theorem m_stopped_stop (e : Int) (pb : Nat) (w : World) (hb : Blk w pb #[.int .i64 0] 32) :
    Calls Tryz.prog 24 #[stopV e, .pointer (some ⟨pb, 0, none⟩)] w fun x w' => x = .returned (.tuple #[]) ∧ Caught e pb w w' := by
  have r0 := hb.cell
  have r1 := hb.free
  have hlt := hb.lt
  have hta : ∀ w, (Instr.typeAssert (stopV e) 20 109 true).run Tryz.prog w = .ok (.tuple #[.agg #[.int .i64 e], .bool true]) w := fun _ => by kernel_rfl
  have heq : ∀ w, (Go.binOp .eql 20 (stopV e) .nilIface).run Tryz.prog w = .ok (.bool false) w := fun _ => by kernel_rfl
  unfold stopV at *
  go_enter Tryz.func24, Tryz.ntmps24
  go_wp2
  go_end0
  refine ⟨rfl, ((Lets.refl _ _).setCell rfl _).alloc _, (hb.set 0 _).alloc _⟩
/-- What a deferred closure is good for. -/
def Catch (K : FuncId) : Prop :=
  (∀ (e : Int) (pb : Nat) (w : World), Blk w pb #[.int .i64 0] 32 → CallsDIn Fence.wide 0 Tryz.prog K #[.pointer (some ⟨pb, 0, none⟩)] (.panicking [{ v := stopV e, recovered := false }]) w
    fun x u' w' => x = .returned (.tuple #[]) ∧ u' = .panicking [{ v := stopV e, recovered := true }] ∧ Caught e pb w w') ∧
  (∀ (pb : Nat) (w : World), CallsDIn Fence.wide 0 Tryz.prog K #[.pointer (some ⟨pb, 0, none⟩)] .returning w fun x u' w' => x = .returned (.tuple #[]) ∧ u' = .returning ∧ w' = w)
theorem catch_Comes : Catch 23 := by
  refine ⟨fun e pb w hb => ?_, fun pb w => ?_⟩
  · have HS := Lib.hid (m_stopped_stop e pb w hb)
    unfold stopV at *
    refine dcall_of_wpS Tryz.func23 rfl fun c₀ cs hu => ?_
    apply wpS_region
    simp [wpOpsS, go_sem, recoverD, hu, Tryz.ntmps23]
    refine HS.out.mono ?_
    rintro x w' ⟨rfl, h2⟩
    simp [bodyPostS, results, Tryz.results23, go_sem]
    exact h2
  · have HS := Lib.hid (m_stopped_nil (some ⟨pb, 0, none⟩) w)
    refine dcall_of_wpS Tryz.func23 rfl fun c₀ cs hu => ?_
    apply wpS_region
    simp [wpOpsS, go_sem, recoverD, hu, Tryz.ntmps23]
    refine HS.out.mono ?_
    rintro x w' ⟨rfl, rfl⟩
    cases c₀
    simp_all [bodyPostS, results, Tryz.results23, go_sem]
theorem catch_Where : Catch 38 := by
  refine ⟨fun e pb w hb => ?_, fun pb w => ?_⟩
  · have HS := Lib.hid (m_stopped_stop e pb w hb)
    unfold stopV at *
    refine dcall_of_wpS Tryz.func38 rfl fun c₀ cs hu => ?_
    apply wpS_region
    simp [wpOpsS, go_sem, recoverD, hu, Tryz.ntmps38]
    refine HS.out.mono ?_
    rintro x w' ⟨rfl, h2⟩
    simp [bodyPostS, results, Tryz.results38, go_sem]
    exact h2
  · have HS := Lib.hid (m_stopped_nil (some ⟨pb, 0, none⟩) w)
    refine dcall_of_wpS Tryz.func38 rfl fun c₀ cs hu => ?_
    apply wpS_region
    simp [wpOpsS, go_sem, recoverD, hu, Tryz.ntmps38]
    refine HS.out.mono ?_
    rintro x w' ⟨rfl, rfl⟩
    cases c₀
    simp_all [bodyPostS, results, Tryz.results38, go_sem]
theorem catch_Stretch : Catch 49 := by
  refine ⟨fun e pb w hb => ?_, fun pb w => ?_⟩
  · have HS := Lib.hid (m_stopped_stop e pb w hb)
    unfold stopV at *
    refine dcall_of_wpS Tryz.func49 rfl fun c₀ cs hu => ?_
    apply wpS_region
    simp [wpOpsS, go_sem, recoverD, hu, Tryz.ntmps49]
    refine HS.out.mono ?_
    rintro x w' ⟨rfl, h2⟩
    simp [bodyPostS, results, Tryz.results49, go_sem]
    exact h2
  · have HS := Lib.hid (m_stopped_nil (some ⟨pb, 0, none⟩) w)
    refine dcall_of_wpS Tryz.func49 rfl fun c₀ cs hu => ?_
    apply wpS_region
    simp [wpOpsS, go_sem, recoverD, hu, Tryz.ntmps49]
    refine HS.out.mono ?_
    rintro x w' ⟨rfl, rfl⟩
    cases c₀
    simp_all [bodyPostS, results, Tryz.results49, go_sem]
theorem catch_Safe : Catch 53 := by
  refine ⟨fun e pb w hb => ?_, fun pb w => ?_⟩
  · have HS := Lib.hid (m_stopped_stop e pb w hb)
    unfold stopV at *
    refine dcall_of_wpS Tryz.func53 rfl fun c₀ cs hu => ?_
    apply wpS_region
    simp [wpOpsS, go_sem, recoverD, hu, Tryz.ntmps53]
    refine HS.out.mono ?_
    rintro x w' ⟨rfl, h2⟩
    simp [bodyPostS, results, Tryz.results53, go_sem]
    exact h2
  · have HS := Lib.hid (m_stopped_nil (some ⟨pb, 0, none⟩) w)
    refine dcall_of_wpS Tryz.func53 rfl fun c₀ cs hu => ?_
    apply wpS_region
    simp [wpOpsS, go_sem, recoverD, hu, Tryz.ntmps53]
    refine HS.out.mono ?_
    rintro x w' ⟨rfl, rfl⟩
    cases c₀
    simp_all [bodyPostS, results, Tryz.results53, go_sem]
theorem catch_Ahead : Catch 59 := by
  refine ⟨fun e pb w hb => ?_, fun pb w => ?_⟩
  · have HS := Lib.hid (m_stopped_stop e pb w hb)
    unfold stopV at *
    refine dcall_of_wpS Tryz.func59 rfl fun c₀ cs hu => ?_
    apply wpS_region
    simp [wpOpsS, go_sem, recoverD, hu, Tryz.ntmps59]
    refine HS.out.mono ?_
    rintro x w' ⟨rfl, h2⟩
    simp [bodyPostS, results, Tryz.results59, go_sem]
    exact h2
  · have HS := Lib.hid (m_stopped_nil (some ⟨pb, 0, none⟩) w)
    refine dcall_of_wpS Tryz.func59 rfl fun c₀ cs hu => ?_
    apply wpS_region
    simp [wpOpsS, go_sem, recoverD, hu, Tryz.ntmps59]
    refine HS.out.mono ?_
    rintro x w' ⟨rfl, rfl⟩
    cases c₀
    simp_all [bodyPostS, results, Tryz.results59, go_sem]
theorem catch_There : Catch 62 := by
  refine ⟨fun e pb w hb => ?_, fun pb w => ?_⟩
  · have HS := Lib.hid (m_stopped_stop e pb w hb)
    unfold stopV at *
    refine dcall_of_wpS Tryz.func62 rfl fun c₀ cs hu => ?_
    apply wpS_region
    simp [wpOpsS, go_sem, recoverD, hu, Tryz.ntmps62]
    refine HS.out.mono ?_
    rintro x w' ⟨rfl, h2⟩
    simp [bodyPostS, results, Tryz.results62, go_sem]
    exact h2
  · have HS := Lib.hid (m_stopped_nil (some ⟨pb, 0, none⟩) w)
    refine dcall_of_wpS Tryz.func62 rfl fun c₀ cs hu => ?_
    apply wpS_region
    simp [wpOpsS, go_sem, recoverD, hu, Tryz.ntmps62]
    refine HS.out.mono ?_
    rintro x w' ⟨rfl, rfl⟩
    cases c₀
    simp_all [bodyPostS, results, Tryz.results62, go_sem]
theorem catch_Clash : Catch 65 := by
  refine ⟨fun e pb w hb => ?_, fun pb w => ?_⟩
  · have HS := Lib.hid (m_stopped_stop e pb w hb)
    unfold stopV at *
    refine dcall_of_wpS Tryz.func65 rfl fun c₀ cs hu => ?_
    apply wpS_region
    simp [wpOpsS, go_sem, recoverD, hu, Tryz.ntmps65]
    refine HS.out.mono ?_
    rintro x w' ⟨rfl, h2⟩
    simp [bodyPostS, results, Tryz.results65, go_sem]
    exact h2
  · have HS := Lib.hid (m_stopped_nil (some ⟨pb, 0, none⟩) w)
    refine dcall_of_wpS Tryz.func65 rfl fun c₀ cs hu => ?_
    apply wpS_region
    simp [wpOpsS, go_sem, recoverD, hu, Tryz.ntmps65]
    refine HS.out.mono ?_
    rintro x w' ⟨rfl, rfl⟩
    cases c₀
    simp_all [bodyPostS, results, Tryz.results65, go_sem]
/-- The deferred call that recovers. -/
abbrev dcl (K : FuncId) (pb : Nat) : Deferred := { target := .fn (.func K) #[.pointer (some ⟨pb, 0, none⟩)], args := #[] }
theorem post_catch {fn : Func} {K : FuncId} {pb : Nat} {e : Int} {v : Value} {a : Act} {w : World} {R : Ending → World → Prop} (hK : Catch K) (hi : ∀ w, (invoke (.fn (.func K) #[.pointer (some ⟨pb, 0, none⟩)]) #[]).run Tryz.prog w = .ok (.enter K #[.pointer (some ⟨pb, 0, none⟩)]) w) (hd : a.defers = [dcl K pb]) (hb : Blk w pb #[.int .i64 0] 32)
    (h : ∀ w', Lets (fun k _ => k = pb) w w' → Blk w' pb #[.int .i64 e] 32 → (results fn a.tmps).run Tryz.prog w' = .ok v w' ∧ R (.returned v) w') : bodyPostM Fence.wide 0 Tryz.prog fn R (stopX e) a w := by
  show LeavesInM _ _ _ _ _ _ a.defers _ _
  rw [hd]
  refine ⟨by simp, .inr ⟨fun h => by simp [Fence.wide] at h, _, _, K, _, rfl, hi w, fun _ _ => trivial, ?_⟩⟩
  obtain ⟨h1, h2⟩ := hK.1 e pb w hb
  refine ⟨h1, fun c cs hu hr => ?_⟩
  obtain ⟨e', u', w', fr, ⟨rfl, rfl, hc⟩, rest⟩ := h2 c cs hu hr
  refine ⟨.returned (.tuple #[]), _, w', fr, ?_, rest⟩
  have := h w' hc.1 hc.2
  exact ⟨v, this.1, this.2⟩
theorem post_out {fn : Func} {K : FuncId} {pb : Nat} {v : Value} {a : Act} {w : World} {R : Ending → World → Prop} (hK : Catch K) (hi : ∀ w, (invoke (.fn (.func K) #[.pointer (some ⟨pb, 0, none⟩)]) #[]).run Tryz.prog w = .ok (.enter K #[.pointer (some ⟨pb, 0, none⟩)]) w) (hd : a.defers = [dcl K pb])
    (h : (results fn a.tmps).run Tryz.prog w = .ok v w) (hr : R (.returned v) w) : bodyPostM Fence.wide 0 Tryz.prog fn R .ret a w := by
  show LeavesInM _ _ _ _ _ _ a.defers _ _
  rw [hd]
  refine ⟨by simp, .inr ⟨fun h => by simp [Fence.wide] at h, _, _, K, _, rfl, hi w, fun _ _ => trivial, ?_⟩⟩
  obtain ⟨h1, h2⟩ := hK.2 pb w
  refine ⟨h1, fun c cs hu hro => ?_⟩
  obtain ⟨e', u', w', fr, ⟨rfl, rfl, rfl⟩, rest⟩ := h2 c cs hu hro
  exact ⟨.returned (.tuple #[]), .returning, _, fr, ⟨v, h, hr⟩, rest⟩
theorem post_out1 {fn : Func} {K : FuncId} {pb : Nat} {v : Value} {a : Act} {w : World} {R : Ending → World → Prop} {D : Nat} (hK : Catch K) (hi : ∀ w, (invoke (.fn (.func K) #[.pointer (some ⟨pb, 0, none⟩)]) #[]).run Tryz.prog w = .ok (.enter K #[.pointer (some ⟨pb, 0, none⟩)]) w) (hd : a.defers = [{ target := .collected D, args := #[] }, dcl K pb]) (hD : w.heap[D]? = some (.deferred (some [])))
    (h : ∀ w', Lets (fun k _ => k = D) w w' → w'.heap.size = w.heap.size → (results fn a.tmps).run Tryz.prog w' = .ok v w' ∧ R (.returned v) w') : bodyPostM Fence.wide 0 Tryz.prog fn R .ret a w := by
  show LeavesInM _ _ _ _ _ _ a.defers _ _
  rw [hd]
  refine ⟨by simp, .inl ⟨D, w.putObj D (.deferred none), rfl, run_takeDeferred hD, ?_⟩⟩
  have h3 := h (w.putObj D (.deferred none)) ((Lets.refl _ _).putObj rfl _) (by simp)
  refine ⟨by simp, .inr ⟨fun h => by simp [Fence.wide] at h, _, _, K, _, rfl, hi _, fun _ _ => trivial, ?_⟩⟩
  obtain ⟨h1, h2⟩ := hK.2 pb (w.putObj D (.deferred none))
  refine ⟨h1, fun c cs hu hro => ?_⟩
  obtain ⟨e', u', w', fr, ⟨rfl, rfl, rfl⟩, rest⟩ := h2 c cs hu hro
  exact ⟨.returned (.tuple #[]), .returning, _, fr, ⟨v, h3.1, h3.2⟩, rest⟩
end Go.Proofs.YteeinehpneppnaaGreat
