/- Parts of a proof: BnAB, BnAD. -/
import Derived.Test.YtjbjmoghloabpaaP15
import Derived.Test.YtjbjmoghloabpaaP14
set_option linter.unusedVariables false
set_option linter.unusedSimpArgs false
namespace Go.Proofs.Ytjbjmoghloabpaa
open Go.RowKit Go.Proofs
attribute [local irreducible] Ord.walk
/-- What a panic within the third region of Tell leaves. -/
def TellPanic (n : Nat) (w1 : World) (e : Exit) (a : Act) (w : World) : Prop :=
  e = .panic [{ v := stopV 10, recovered := false }] ∧ a.defers = [{ target := Target.fn (Fn.func 73) #[Value.pointer (some { block := n + 1 + 1, off := 0 })], args := #[] }] ∧
  a.tmps.getD 4 undef = .int .i64 0 ∧ a.tmps.getD 5 undef = .int .i64 0 ∧ a.tmps.getD 6 undef = .pointer (some ⟨n + 1 + 1, 0, none⟩) ∧ Below w1.heap.size w1 w

set_option maxHeartbeats 4000000 in
set_option maxRecDepth 100000 in
theorem b_Passed_clash (b : Bn) (ga : Option Addr) (gc : Nat) (pa : Option Addr) (pc : Nat) (w : World) (hg : GsAt w ga b.gs) (hp : PsAt w pa b.ps) (hv : valid b = true) (hs : csum (countN b.V.toNat b.lo b.hi (knOf b)) = 0) :
    Calls Try.prog 20 #[bv b ga gc pa pc] w fun e w' => e = .returned (.tuple #[.int .i64 0, .int .i64 10]) ∧ Below w.heap.size w w' := by
  have hmf : ∀ (fn : Fn) (first cap : Array Value) (w : World), (Instr.makeFunc fn first cap).run Try.prog w = .ok (.func fn first cap) w := fun _ _ _ _ => rfl
  have HO := Lib.hid (fun w' (hb : Below w.heap.size w w')  => b_open_ok b ga gc pa pc 46 #[] w' (hg.below hb) (hp.below hb) hv (fun args W => Try.call46 args W) (fun w2 v _ _ => b_always _ _))
  have HC := Lib.hid catch_Passed
  have HS := Lib.hid hs
  clear hs
  unfold bv at *
  go_enter_defers Try.func20, Try.ntmps20
  go_wp2_with (first
    | (go_at_call 45; refine (HO.out _ (by (repeat (first | assumption | exact Below.refl _ _ | refine Below.drew ?_ | refine Below.alloc ?_ (by first | omega | (simp; done) | (simp; omega)) _ | refine Below.setCell ?_ (by first | omega | (simp; done) | (simp; omega)) _ | refine Below.trans ?_ (Below.mono (by assumption) (by first | omega | (simp; done) | (simp; omega)))))) ).mono ?_; rintro e w1 ⟨v, ka, kc, rfl, hvt, hb1, hle⟩)
    | (go_at_call 47; refine at_stop ?_))
  unfold Stop
  refine (b_told_no hvt HS.out).mono ?_
  rintro e w3 ⟨rfl, hb3⟩
  have b2 : Blk w1 (w.heap.size + 1) #[.int .i64 0] 30 := (Blk.new' _ _ _ _ (by simp)).below hb1 (by first | omega | (simp; done) | (simp; omega))
  have b3 := b2.below hb3 b2.lt
  have hB1 : Below w.heap.size w w1 := by (repeat (first | assumption | exact Below.refl _ _ | refine Below.drew ?_ | refine Below.alloc ?_ (by first | omega | (simp; done) | (simp; omega)) _ | refine Below.setCell ?_ (by first | omega | (simp; done) | (simp; omega)) _ | refine Below.trans ?_ (Below.mono (by assumption) (by first | omega | (simp; done) | (simp; omega)))))
  have hB : Below w.heap.size w w3 := hB1.trans (hb3.mono hB1.size)
  refine leaves_cons (f := 65) (args := #[.pointer (some ⟨w.heap.size + 1, 0, none⟩)]) (by simp) (by simp [go_sem]) ?_
  refine ((HC.out).1 10 (w.heap.size + 1) _ b3).mono ?_
  rintro e u' w4 ⟨rfl, rfl, ho, hb⟩
  have hB2 : Below w.heap.size w w4 := hB.trans (ho.below hB.size (by simp))
  have r2 := hb.cell
  simp only [settle, Leaves]
  simp [Leaves, settle, results, Try.results20, go_sem, r2]
  exact hB2

set_option maxHeartbeats 4000000 in
set_option maxRecDepth 100000 in
theorem b_Known_clash (b : Bn) (ga : Option Addr) (gc : Nat) (pa : Option Addr) (pc : Nat) (w : World) (hg : GsAt w ga b.gs) (hp : PsAt w pa b.ps) (hv : valid b = true) (hs : csum (countN b.V.toNat b.lo b.hi (knOf b)) = 0) :
    Calls Try.prog 18 #[bv b ga gc pa pc] w fun e w' => e = .returned (.tuple #[.int .i64 0, .int .i64 0, .int .i64 10]) ∧ Below w.heap.size w w' := by
  have hmf : ∀ (fn : Fn) (first cap : Array Value) (w : World), (Instr.makeFunc fn first cap).run Try.prog w = .ok (.func fn first cap) w := fun _ _ _ _ => rfl
  have HO := Lib.hid (fun w' (hb : Below w.heap.size w w')  => b_open_ok b ga gc pa pc 46 #[] w' (hg.below hb) (hp.below hb) hv (fun args W => Try.call46 args W) (fun w2 v _ _ => b_always _ _))
  have HC := Lib.hid catch_Known
  have HS := Lib.hid hs
  clear hs
  unfold bv at *
  go_enter_defers Try.func18, Try.ntmps18
  go_wp2_with (first
    | (go_at_call 45; refine (HO.out _ (by (repeat (first | assumption | exact Below.refl _ _ | refine Below.drew ?_ | refine Below.alloc ?_ (by first | omega | (simp; done) | (simp; omega)) _ | refine Below.setCell ?_ (by first | omega | (simp; done) | (simp; omega)) _ | refine Below.trans ?_ (Below.mono (by assumption) (by first | omega | (simp; done) | (simp; omega)))))) ).mono ?_; rintro e w1 ⟨v, ka, kc, rfl, hvt, hb1, hle⟩)
    | (go_at_call 47; refine at_stop ?_))
  unfold Stop
  refine (b_told_no hvt HS.out).mono ?_
  rintro e w3 ⟨rfl, hb3⟩
  have b2 : Blk w1 (w.heap.size + 1) #[.int .i64 0] 30 := (Blk.new' _ _ _ _ (by simp)).below hb1 (by first | omega | (simp; done) | (simp; omega))
  have b3 := b2.below hb3 b2.lt
  have hB1 : Below w.heap.size w w1 := by (repeat (first | assumption | exact Below.refl _ _ | refine Below.drew ?_ | refine Below.alloc ?_ (by first | omega | (simp; done) | (simp; omega)) _ | refine Below.setCell ?_ (by first | omega | (simp; done) | (simp; omega)) _ | refine Below.trans ?_ (Below.mono (by assumption) (by first | omega | (simp; done) | (simp; omega)))))
  have hB : Below w.heap.size w w3 := hB1.trans (hb3.mono hB1.size)
  refine leaves_cons (f := 62) (args := #[.pointer (some ⟨w.heap.size + 1, 0, none⟩)]) (by simp) (by simp [go_sem]) ?_
  refine ((HC.out).1 10 (w.heap.size + 1) _ b3).mono ?_
  rintro e u' w4 ⟨rfl, rfl, ho, hb⟩
  have hB2 : Below w.heap.size w w4 := hB.trans (ho.below hB.size (by simp))
  have r2 := hb.cell
  simp only [settle, Leaves]
  simp [Leaves, settle, results, Try.results18, go_sem, r2]
  exact hB2

set_option maxHeartbeats 4000000 in
set_option maxRecDepth 100000 in
theorem b_Quiet_clash (b : Bn) (ga : Option Addr) (gc : Nat) (pa : Option Addr) (pc : Nat) (w : World) (hg : GsAt w ga b.gs) (hp : PsAt w pa b.ps) (hv : valid b = true) (hs : csum (countN b.V.toNat b.lo b.hi (knOf b)) = 0) :
    Calls Try.prog 28 #[bv b ga gc pa pc] w fun e w' => e = .returned (.tuple #[.int .i64 0, .int .i64 10]) ∧ Below w.heap.size w w' := by
  have hmf : ∀ (fn : Fn) (first cap : Array Value) (w : World), (Instr.makeFunc fn first cap).run Try.prog w = .ok (.func fn first cap) w := fun _ _ _ _ => rfl
  have HO := Lib.hid (fun w' (hb : Below w.heap.size w w')  => b_open_ok b ga gc pa pc 46 #[] w' (hg.below hb) (hp.below hb) hv (fun args W => Try.call46 args W) (fun w2 v _ _ => b_always _ _))
  have HC := Lib.hid catch_Quiet
  have HS := Lib.hid hs
  clear hs
  unfold bv at *
  go_enter_defers Try.func28, Try.ntmps28
  go_wp2_with (first
    | (go_at_call 45; refine (HO.out _ (by (repeat (first | assumption | exact Below.refl _ _ | refine Below.drew ?_ | refine Below.alloc ?_ (by first | omega | (simp; done) | (simp; omega)) _ | refine Below.setCell ?_ (by first | omega | (simp; done) | (simp; omega)) _ | refine Below.trans ?_ (Below.mono (by assumption) (by first | omega | (simp; done) | (simp; omega)))))) ).mono ?_; rintro e w1 ⟨v, ka, kc, rfl, hvt, hb1, hle⟩)
    | (go_at_call 47; refine at_stop ?_))
  unfold Stop
  refine (b_told_no hvt HS.out).mono ?_
  rintro e w3 ⟨rfl, hb3⟩
  have b2 : Blk w1 (w.heap.size + 1) #[.int .i64 0] 30 := (Blk.new' _ _ _ _ (by simp)).below hb1 (by first | omega | (simp; done) | (simp; omega))
  have b3 := b2.below hb3 b2.lt
  have hB1 : Below w.heap.size w w1 := by (repeat (first | assumption | exact Below.refl _ _ | refine Below.drew ?_ | refine Below.alloc ?_ (by first | omega | (simp; done) | (simp; omega)) _ | refine Below.setCell ?_ (by first | omega | (simp; done) | (simp; omega)) _ | refine Below.trans ?_ (Below.mono (by assumption) (by first | omega | (simp; done) | (simp; omega)))))
  have hB : Below w.heap.size w w3 := hB1.trans (hb3.mono hB1.size)
  refine leaves_cons (f := 80) (args := #[.pointer (some ⟨w.heap.size + 1, 0, none⟩)]) (by simp) (by simp [go_sem]) ?_
  refine ((HC.out).1 10 (w.heap.size + 1) _ b3).mono ?_
  rintro e u' w4 ⟨rfl, rfl, ho, hb⟩
  have hB2 : Below w.heap.size w w4 := hB.trans (ho.below hB.size (by simp))
  have r2 := hb.cell
  simp only [settle, Leaves]
  simp [Leaves, settle, results, Try.results28, go_sem, r2]
  exact hB2

set_option maxHeartbeats 4000000 in
set_option maxRecDepth 100000 in
theorem b_Whites_clash (b : Bn) (ga : Option Addr) (gc : Nat) (pa : Option Addr) (pc : Nat) (w : World) (hg : GsAt w ga b.gs) (hp : PsAt w pa b.ps) (hv : valid b = true) (hs : csum (countN b.V.toNat b.lo b.hi (knOf b)) = 0) :
    Calls Try.prog 14 #[bv b ga gc pa pc] w fun e w' => e = .returned (.tuple #[.agg #[.int .i64 0, .int .i64 0], .int .i64 10]) ∧ Below w.heap.size w w' := by
  have hmf : ∀ (fn : Fn) (first cap : Array Value) (w : World), (Instr.makeFunc fn first cap).run Try.prog w = .ok (.func fn first cap) w := fun _ _ _ _ => rfl
  have HO := Lib.hid (fun w' (hb : Below w.heap.size w w')  => b_open_ok b ga gc pa pc 46 #[] w' (hg.below hb) (hp.below hb) hv (fun args W => Try.call46 args W) (fun w2 v _ _ => b_always _ _))
  have HC := Lib.hid catch_Whites
  have HS := Lib.hid hs
  clear hs
  unfold bv at *
  go_enter_defers Try.func14, Try.ntmps14
  go_wp2_with (first
    | (go_at_call 45; refine (HO.out _ (by (repeat (first | assumption | exact Below.refl _ _ | refine Below.drew ?_ | refine Below.alloc ?_ (by first | omega | (simp; done) | (simp; omega)) _ | refine Below.setCell ?_ (by first | omega | (simp; done) | (simp; omega)) _ | refine Below.trans ?_ (Below.mono (by assumption) (by first | omega | (simp; done) | (simp; omega)))))) ).mono ?_; rintro e w1 ⟨v, ka, kc, rfl, hvt, hb1, hle⟩)
    | (go_at_call 47; refine at_stop ?_))
  unfold Stop
  refine (b_told_no hvt HS.out).mono ?_
  rintro e w3 ⟨rfl, hb3⟩
  have b2 : Blk w1 (w.heap.size + 2) #[.int .i64 0] 30 := (Blk.new' _ _ _ _ (by simp)).below hb1 (by first | omega | (simp; done) | (simp; omega))
  have b3 := b2.below hb3 b2.lt
  have hB1 : Below w.heap.size w w1 := by (repeat (first | assumption | exact Below.refl _ _ | refine Below.drew ?_ | refine Below.alloc ?_ (by first | omega | (simp; done) | (simp; omega)) _ | refine Below.setCell ?_ (by first | omega | (simp; done) | (simp; omega)) _ | refine Below.trans ?_ (Below.mono (by assumption) (by first | omega | (simp; done) | (simp; omega)))))
  have hB : Below w.heap.size w w3 := hB1.trans (hb3.mono hB1.size)
  refine leaves_cons (f := 43) (args := #[.pointer (some ⟨w.heap.size + 2, 0, none⟩)]) (by simp) (by simp [go_sem]) ?_
  refine ((HC.out).1 10 (w.heap.size + 2) _ b3).mono ?_
  rintro e u' w4 ⟨rfl, rfl, ho, hb⟩
  have hB2 : Below w.heap.size w w4 := hB.trans (ho.below hB.size (by simp))
  have r2 := hb.cell
  have b1 : Blk w1 (w.heap.size + 1) #[.int .i64 0, .int .i64 0] 23 := ((Blk.new' _ _ _ _ (by simp)).alloc _).below hb1 (by first | omega | (simp; done) | (simp; omega))
  have r3 := (ho.blk (b1.below hb3 b1.lt) (b1.below hb3 b1.lt).lt (by simp)).cell
  simp only [settle, Leaves]
  simp [Leaves, settle, results, Try.results14, go_sem, r2, r3]
  exact hB2

set_option maxHeartbeats 4000000 in
set_option maxRecDepth 100000 in
theorem b_White_clash (b : Bn) (ga : Option Addr) (gc : Nat) (pa : Option Addr) (pc : Nat) (n : Int) (w : World) (hg : GsAt w ga b.gs) (hp : PsAt w pa b.ps) (hv : valid b = true) (hi : (inB n 0 (wrap64 (b.V - 1))) = true) (hs : csum (countN b.V.toNat b.lo b.hi (knOf b)) = 0) :
    Calls Try.prog 16 #[bv b ga gc pa pc, .int .i64 n] w fun e w' => e = .returned (.tuple #[.int .i64 0, .int .i64 10]) ∧ Below w.heap.size w w' := by
  have hmf : ∀ (fn : Fn) (first cap : Array Value) (w : World), (Instr.makeFunc fn first cap).run Try.prog w = .ok (.func fn first cap) w := fun _ _ _ _ => rfl
  have HO := Lib.hid (fun w' (hb : Below w.heap.size w w') (hc0 : w'.cell? ⟨w.heap.size + 1, 0, none⟩ = some (.int .i64 n)) => b_open_ok b ga gc pa pc 52 #[.pointer (some ⟨w.heap.size + 1, 0, none⟩)] w' (hg.below hb) (hp.below hb) hv (fun args W => Try.call52 args W) (fun w2 v hb2 h0 => by have := b_is_white v _ b.V n w2 h0 (cell_later hb2 hc0); rwa [hi] at this))
  have HC := Lib.hid catch_White
  have HS := Lib.hid hs
  clear hs
  unfold bv at *
  go_enter_defers Try.func16, Try.ntmps16
  go_wp2_with (first
    | (go_at_call 45; refine (HO.out _ (by (repeat (first | assumption | exact Below.refl _ _ | refine Below.drew ?_ | refine Below.alloc ?_ (by first | omega | (simp; done) | (simp; omega)) _ | refine Below.setCell ?_ (by first | omega | (simp; done) | (simp; omega)) _ | refine Below.trans ?_ (Below.mono (by assumption) (by first | omega | (simp; done) | (simp; omega)))))) (by simp [go_sem]; done)).mono ?_; rintro e w1 ⟨v, ka, kc, rfl, hvt, hb1, hle⟩)
    | (go_at_call 47; refine at_stop ?_))
  unfold Stop
  refine (b_told_no hvt HS.out).mono ?_
  rintro e w3 ⟨rfl, hb3⟩
  have b2 : Blk w1 (w.heap.size + 2) #[.int .i64 0] 30 := (Blk.new' _ _ _ _ (by simp)).below hb1 (by first | omega | (simp; done) | (simp; omega))
  have b3 := b2.below hb3 b2.lt
  have hB1 : Below w.heap.size w w1 := by (repeat (first | assumption | exact Below.refl _ _ | refine Below.drew ?_ | refine Below.alloc ?_ (by first | omega | (simp; done) | (simp; omega)) _ | refine Below.setCell ?_ (by first | omega | (simp; done) | (simp; omega)) _ | refine Below.trans ?_ (Below.mono (by assumption) (by first | omega | (simp; done) | (simp; omega)))))
  have hB : Below w.heap.size w w3 := hB1.trans (hb3.mono hB1.size)
  refine leaves_cons (f := 51) (args := #[.pointer (some ⟨w.heap.size + 2, 0, none⟩)]) (by simp) (by simp [go_sem]) ?_
  refine ((HC.out).1 10 (w.heap.size + 2) _ b3).mono ?_
  rintro e u' w4 ⟨rfl, rfl, ho, hb⟩
  have hB2 : Below w.heap.size w w4 := hB.trans (ho.below hB.size (by simp))
  have r2 := hb.cell
  simp only [settle, Leaves]
  simp [Leaves, settle, results, Try.results16, go_sem, r2]
  exact hB2

set_option maxHeartbeats 4000000 in
set_option maxRecDepth 100000 in
theorem b_Tell_clash (b : Bn) (ga : Option Addr) (gc : Nat) (pa : Option Addr) (pc : Nat) (n : Int) (w : World) (hg : GsAt w ga b.gs) (hp : PsAt w pa b.ps) (hv : valid b = true) (hi : (inB n 0 b.V) = true) (hs : csum (countN b.V.toNat b.lo b.hi (knOf b)) = 0) :
    Calls Try.prog 26 #[bv b ga gc pa pc, .int .i64 n] w fun e w' => e = .returned (.tuple #[.int .i64 0, .int .i64 0, .int .i64 10]) ∧ Below w.heap.size w w' := by
  have hmf : ∀ (fn : Fn) (first cap : Array Value) (w : World), (Instr.makeFunc fn first cap).run Try.prog w = .ok (.func fn first cap) w := fun _ _ _ _ => rfl
  have HO := Lib.hid (fun w' (hb : Below w.heap.size w w') (hc0 : w'.cell? ⟨w.heap.size + 1, 0, none⟩ = some (.int .i64 n)) => b_open_ok b ga gc pa pc 74 #[.pointer (some ⟨w.heap.size + 1, 0, none⟩)] w' (hg.below hb) (hp.below hb) hv (fun args W => Try.call74 args W) (fun w2 v hb2 h0 => by have := b_is_tell v _ b.V n w2 h0 (cell_later hb2 hc0); rwa [hi] at this))
  have HC := Lib.hid catch_Tell
  have HS := Lib.hid hs
  clear hs
  unfold bv at *
  go_enter_defers Try.func26, Try.ntmps26
  go_wp2_with (first
    | (go_at_call 45; refine (HO.out _ (by (repeat (first | assumption | exact Below.refl _ _ | refine Below.drew ?_ | refine Below.alloc ?_ (by first | omega | (simp; done) | (simp; omega)) _ | refine Below.setCell ?_ (by first | omega | (simp; done) | (simp; omega)) _ | refine Below.trans ?_ (Below.mono (by assumption) (by first | omega | (simp; done) | (simp; omega)))))) (by simp [go_sem]; done)).mono ?_; rintro e w1 ⟨v, ka, kc, rfl, hvt, hb1, hle⟩)
    | (go_at_call 47; refine at_stop ?_))
  have HTo := Lib.hid (fun w2 (hb : Below w1.heap.size w1 w2) => b_told_no (hvt.below hb) HS.out)
  refine wp_mono (Q := TellPanic w.heap.size w1) ?_ ?_
  · have ht3 : w1.cell? ⟨w.heap.size + 1, 0, none⟩ = some (.int .i64 n) := by rw [hb1.cell (p := ⟨w.heap.size + 1, 0, none⟩) (by first | omega | (simp; done) | (simp; omega))]; simp [go_sem]
    have hz1 : w.heap.size + 3 ≤ w1.heap.size := by have := hb1.size; simpa using this
    refine Ord.wp_regionD [(0, 0), (2, 1), (1, 2), (3, 2), (4, 2)] (fun W => Below w1.heap.size w1 W) (by kernel_rfl) (by kernel_rfl) ?_ (Below.refl _ _).drew ?_
    · rintro c ⟨tm, ds⟩ d v u ⟨o, ho, rfl⟩ h
      have hd : o.dst = some 13 ∨ o.dst = some 14 ∨ o.dst = some 15 ∨ o.dst = some 16 ∨ o.dst = some 17 := by
        simp only [List.mem_toArray, List.mem_cons, List.not_mem_nil, or_false] at ho
        rcases ho with rfl | rfl | rfl | rfl | rfl <;> simp
      unfold TellPanic at *
      rcases hd with e | e | e | e | e <;> rw [e] at h <;> simpa [Act.put, Array.getD_eq_getD_getElem?] using h
    · go_wp2_with (first
        | (go_at_call 47; refine (HTo.out _ (by (repeat (first | assumption | exact Below.refl _ _ | refine Below.drew ?_ | refine Below.alloc ?_ (by first | omega | (simp; done) | (simp; omega)) _ | refine Below.setCell ?_ (by first | omega | (simp; done) | (simp; omega)) _ | refine Below.trans ?_ (Below.mono (by assumption) (by first | omega | (simp; done) | (simp; omega))))))).mono ?_; rintro e w3 ⟨rfl, hb3⟩; refine at_stop ?_)
        | ((with_reducible refine Ord.at_wild ?_); refine Ord.wild_load (ad := ⟨w.heap.size + 1, 0, none⟩) (.int .i64 n) rfl rfl ?_ ?_; (focus (intro W hW; obtain ⟨cW, _, zW⟩ := below_rules hW rfl; simp [go_sem, cW, ↓IntWalk.iteOmega, ht3]; done)); intro K hK)
        | ((with_reducible refine Ord.at_calm ?_); refine Ord.calm_skip rfl ?_ (fun K hK => ?_); (focus (simp [Region.wanted, yielded]; done))) | with_reducible refine Ord.walk_calm rfl rfl (fun K hK => ?_) | ((with_reducible refine Ord.at_wild ?_); refine Ord.wild_fieldAddr rfl rfl (fun W => by simp [go_sem]; rfl) (fun K hK => ?_)) | ((with_reducible refine Ord.at_wild ?_); refine Ord.wild_move rfl rfl (fun K hK => ?_)) | ((with_reducible refine Ord.at_wild ?_); refine Ord.wild_nilCheck rfl rfl (fun K hK => ?_)) | with_reducible refine Ord.walk_eff rfl (by first | (simp; done) | assumption | (go_simp; done) | (repeat (first | assumption | exact Below.refl _ _ | refine Below.drew ?_ | refine Below.alloc ?_ (by first | omega | (simp; done) | (simp; omega)) _ | refine Below.setCell ?_ (by first | omega | (simp; done) | (simp; omega)) _ | refine Below.trans ?_ (Below.mono (by assumption) (by first | omega | (simp; done) | (simp; omega)))))) (fun K hK => ?_) | with_reducible refine Ord.at_fork ?_ ?_ | with_reducible refine Ord.walk_nil ?_ | (with_reducible refine Ord.next_of (by first | (simp; done) | (go_simp; done) | (repeat (first | assumption | exact Below.refl _ _ | refine Below.drew ?_ | refine Below.alloc ?_ (by first | omega | (simp; done) | (simp; omega)) _ | refine Below.setCell ?_ (by first | omega | (simp; done) | (simp; omega)) _ | refine Below.trans ?_ (Below.mono (by assumption) (by first | omega | (simp; done) | (simp; omega)))))) (fun _ => ?_)))
      unfold Stop
      refine ⟨rfl, rfl, rfl, rfl, rfl, ?_⟩
      (repeat (first | assumption | exact Below.refl _ _ | refine Below.drew ?_ | refine Below.alloc ?_ (by first | omega | (simp; done) | (simp; omega)) _ | refine Below.setCell ?_ (by first | omega | (simp; done) | (simp; omega)) _ | refine Below.trans ?_ (Below.mono (by assumption) (by first | omega | (simp; done) | (simp; omega)))))
  rintro e ⟨tm, ds⟩ w3 ⟨rfl, rfl, h4, h5, h6, hb3⟩
  simp only [Array.getD_eq_getD_getElem?] at h4 h5 h6
  have b2 : Blk w1 (w.heap.size + 2) #[.int .i64 0] 30 := (Blk.new' _ _ _ _ (by simp)).below hb1 (by first | omega | (simp; done) | (simp; omega))
  have b3 := b2.below hb3 b2.lt
  have hB1 : Below w.heap.size w w1 := by (repeat (first | assumption | exact Below.refl _ _ | refine Below.drew ?_ | refine Below.alloc ?_ (by first | omega | (simp; done) | (simp; omega)) _ | refine Below.setCell ?_ (by first | omega | (simp; done) | (simp; omega)) _ | refine Below.trans ?_ (Below.mono (by assumption) (by first | omega | (simp; done) | (simp; omega)))))
  have hB : Below w.heap.size w w3 := hB1.trans (hb3.mono hB1.size)
  refine leaves_cons (f := 73) (args := #[.pointer (some ⟨w.heap.size + 2, 0, none⟩)]) (by simp) (by simp [go_sem]) ?_
  refine ((HC.out).1 10 (w.heap.size + 2) _ b3).mono ?_
  rintro e u' w4 ⟨rfl, rfl, ho, hb⟩
  have hB2 : Below w.heap.size w w4 := hB.trans (ho.below hB.size (by simp))
  have r2 := hb.cell
  simp only [settle, Leaves]
  simp [Leaves, settle, results, Try.results26, go_sem, r2, h4, h5, h6]
  exact hB2

set_option maxHeartbeats 4000000 in
set_option maxRecDepth 100000 in
theorem b_Same_clash (b : Bn) (ga : Option Addr) (gc : Nat) (pa : Option Addr) (pc : Nat) (n m : Int) (w : World) (hg : GsAt w ga b.gs) (hp : PsAt w pa b.ps) (hv : valid b = true) (hi : ((inB n 0 (wrap64 (b.V - 1)) && inB m 0 (wrap64 (b.V - 1)))) = true) (hs : csum (countN b.V.toNat b.lo b.hi (knOf b)) = 0) :
    Calls Try.prog 22 #[bv b ga gc pa pc, .int .i64 n, .int .i64 m] w fun e w' => e = .returned (.tuple #[.int .i64 0, .int .i64 10]) ∧ Below w.heap.size w w' := by
  have hmf : ∀ (fn : Fn) (first cap : Array Value) (w : World), (Instr.makeFunc fn first cap).run Try.prog w = .ok (.func fn first cap) w := fun _ _ _ _ => rfl
  have HO := Lib.hid (fun w' (hb : Below w.heap.size w w') (hc0 : w'.cell? ⟨w.heap.size + 1, 0, none⟩ = some (.int .i64 n)) (hc1 : w'.cell? ⟨w.heap.size + 2, 0, none⟩ = some (.int .i64 m)) => b_open_ok b ga gc pa pc 68 #[.pointer (some ⟨w.heap.size + 1, 0, none⟩), .pointer (some ⟨w.heap.size + 2, 0, none⟩)] w' (hg.below hb) (hp.below hb) hv (fun args W => Try.call68 args W) (fun w2 v hb2 h0 => by have := b_is_same v _ _ b.V n m w2 h0 (cell_later hb2 hc0) (cell_later hb2 hc1); rwa [hi] at this))
  have HC := Lib.hid catch_Same
  have HS := Lib.hid hs
  clear hs
  unfold bv at *
  go_enter_defers Try.func22, Try.ntmps22
  go_wp2_with (first
    | (go_at_call 45; refine (HO.out _ (by (repeat (first | assumption | exact Below.refl _ _ | refine Below.drew ?_ | refine Below.alloc ?_ (by first | omega | (simp; done) | (simp; omega)) _ | refine Below.setCell ?_ (by first | omega | (simp; done) | (simp; omega)) _ | refine Below.trans ?_ (Below.mono (by assumption) (by first | omega | (simp; done) | (simp; omega)))))) (by simp [go_sem]; done) (by simp [go_sem]; done)).mono ?_; rintro e w1 ⟨v, ka, kc, rfl, hvt, hb1, hle⟩)
    | (go_at_call 47; refine at_stop ?_))
  unfold Stop
  refine (b_told_no hvt HS.out).mono ?_
  rintro e w3 ⟨rfl, hb3⟩
  have b2 : Blk w1 (w.heap.size + 3) #[.int .i64 0] 30 := (Blk.new' _ _ _ _ (by simp)).below hb1 (by first | omega | (simp; done) | (simp; omega))
  have b3 := b2.below hb3 b2.lt
  have hB1 : Below w.heap.size w w1 := by (repeat (first | assumption | exact Below.refl _ _ | refine Below.drew ?_ | refine Below.alloc ?_ (by first | omega | (simp; done) | (simp; omega)) _ | refine Below.setCell ?_ (by first | omega | (simp; done) | (simp; omega)) _ | refine Below.trans ?_ (Below.mono (by assumption) (by first | omega | (simp; done) | (simp; omega)))))
  have hB : Below w.heap.size w w3 := hB1.trans (hb3.mono hB1.size)
  refine leaves_cons (f := 67) (args := #[.pointer (some ⟨w.heap.size + 3, 0, none⟩)]) (by simp) (by simp [go_sem]) ?_
  refine ((HC.out).1 10 (w.heap.size + 3) _ b3).mono ?_
  rintro e u' w4 ⟨rfl, rfl, ho, hb⟩
  have hB2 : Below w.heap.size w w4 := hB.trans (ho.below hB.size (by simp))
  have r2 := hb.cell
  simp only [settle, Leaves]
  simp [Leaves, settle, results, Try.results22, go_sem, r2]
  exact hB2
end Go.Proofs.Ytjbjmoghloabpaa
set_option linter.unusedVariables false
set_option linter.unusedSimpArgs false
namespace Go.Proofs.Ytjbjmoghloabpaa
open Go.RowKit Go.Proofs
attribute [local irreducible] Ord.walk

theorem noPanic_ret {Q : Exit → Act → World → Prop} {a : Act} {w : World} (h : Q .ret a w) : noPanic Q .ret a w := h
/-- counts from a number on. -/
theorem cl_drop_at (c : Nat → Nat) (n : Nat) (hn : n ≤ 9) (w : World) (bk : Nat) (t : TypeId) (hb : Blk w bk (ocells c) t) : IntsAt w (some ⟨bk, n, none⟩) ((cl c).drop n) := by
  intro i hi
  have h9 : n + i < 9 := by simp [cl] at hi; omega
  refine ⟨_, _, rfl, ?_⟩
  rw [hb.cell]
  have e : (ocells c)[n + i]? = some (.int .i64 (c (n + i))) := cells9 c (n + i) h9
  rw [e]
  have := cl_get c (n + i) h9
  rw [List.getElem_drop]
  rw [List.getElem?_eq_getElem (by simp [cl]; omega)] at this
  simp only [Option.some.injEq] at this
  rw [this]

theorem run_slice9 (bk n : Nat) (hn : n ≤ 8) (w : World) : (Instr.sliceAt 62 (.pointer (some ⟨bk, 0, none⟩)) (some (.int .i64 n)) none none).run Try.prog w = .ok (.slice (some ⟨bk, n, none⟩) (9 - n) (9 - n)) w := by
  rcases (show n = 0 ∨ n = 1 ∨ n = 2 ∨ n = 3 ∨ n = 4 ∨ n = 5 ∨ n = 6 ∨ n = 7 ∨ n = 8 by omega) with rfl | rfl | rfl | rfl | rfl | rfl | rfl | rfl | rfl <;> kernel_rfl

set_option maxHeartbeats 400000 in
set_option maxRecDepth 100000 in
theorem b_Passed_ok (b : Bn) (ga : Option Addr) (gc : Nat) (pa : Option Addr) (pc : Nat) (w : World) (hg : GsAt w ga b.gs) (hp : PsAt w pa b.ps) (hv : valid b = true) (hs : 0 < csum (countN b.V.toNat b.lo b.hi (knOf b))) :
    Calls Try.prog 20 #[bv b ga gc pa pc] w (Gives2 (.int .i64 (grI (((cl (countN b.V.toNat b.lo b.hi (knOf b))).drop b.nd.toNat).sum : Nat) (csum (countN b.V.toNat b.lo b.hi (knOf b)) : Nat))) (.int .i64 0) w) := by
  have hmf : ∀ (fn : Fn) (first cap : Array Value) (w : World), (Instr.makeFunc fn first cap).run Try.prog w = .ok (.func fn first cap) w := fun _ _ _ _ => rfl
  have HO := Lib.hid (fun w' (hb : Below w.heap.size w w') => b_open_ok b ga gc pa pc 46 #[] w' (hg.below hb) (hp.below hb) hv (fun args W => Try.call46 args W) (fun w2 v _ _ => b_always _ _))
  have HC := Lib.hid catch_Passed
  have HS := Lib.hid hs
  have hnd := valid_nd hv
  have hV := valid_V hv
  have hle := countN_sum b.V.toNat (by omega) b.lo b.hi (knOf b)
  have hn9 : b.nd.toNat ≤ 9 := by omega
  have hni : b.nd ≤ 8 := by omega
  have hsl : ∀ bk w, (Instr.sliceAt 62 (.pointer (some ⟨bk, 0, none⟩)) (some (.int .i64 b.nd)) none none).run Try.prog w = .ok (.slice (some ⟨bk, b.nd.toNat, none⟩) (9 - b.nd.toNat) (9 - b.nd.toNat)) w := by
    intro bk w
    have := run_slice9 bk b.nd.toNat (by omega) w
    rwa [Int.toNat_of_nonneg (by omega)] at this
  have hn0 : 0 ≤ b.nd := hnd.1
  clear hs hnd hV
  unfold bv at *
  have HT := Lib.hid (fun w1 v ka kc (hvt : Vt w1 v b b.V.toNat (knOf b) ga gc pa pc ka kc) => b_told_yes hvt HS.out)
  have hda := Lib.hid (cl_drop_at (countN b.V.toNat b.lo b.hi (knOf b)) b.nd.toNat hn9)
  have hds : ((cl (countN b.V.toNat b.lo b.hi (knOf b))).drop b.nd.toNat).length = 9 - b.nd.toNat := by simp [cl]
  have hsum : ((cl (countN b.V.toNat b.lo b.hi (knOf b))).drop b.nd.toNat).sum ≤ csum (countN b.V.toNat b.lo b.hi (knOf b)) := by
    rw [← cl_sum]
    have := congrArg List.sum (List.take_append_drop b.nd.toNat (cl (countN b.V.toNat b.lo b.hi (knOf b))))
    rw [List.sum_append] at this; omega
  have HA := Lib.hid (b_all (countN b.V.toNat b.lo b.hi (knOf b)) (by omega))
  have HX := Lib.hid (fun w' a cc hI => b_sum ((cl (countN b.V.toNat b.lo b.hi (knOf b))).drop b.nd.toNat) a cc (by rw [hds]; omega) (by omega) w' hI)
  rw [hds] at HX
  have q1 := cv_size (countN b.V.toNat b.lo b.hi (knOf b))
  have q2 := cv_ones (countN b.V.toNat b.lo b.hi (knOf b))
  have hcv : Hid (cv (countN b.V.toNat b.lo b.hi (knOf b)) = .agg (ocells (countN b.V.toNat b.lo b.hi (knOf b)))) := rfl
  generalize ((cl (countN b.V.toNat b.lo b.hi (knOf b))).drop b.nd.toNat).sum = SX at *
  generalize csum (countN b.V.toNat b.lo b.hi (knOf b)) = S at *
  generalize cv (countN b.V.toNat b.lo b.hi (knOf b)) = CV at *
  generalize ocells (countN b.V.toNat b.lo b.hi (knOf b)) = OC at *
  obtain rfl := hcv.out
  clear hsum hle hds
  go_enter_defers Try.func20, Try.ntmps20
  refine wp_noPanic ?_
  go_wp2_with fail
  with_reducible refine (HO.out _ (by (repeat (first | assumption | exact Below.refl _ _ | refine Below.drew ?_ | refine Below.alloc ?_ (by first | omega | (simp; done) | (simp; omega)) _ | refine Below.setCell ?_ (by first | omega | (simp; done) | (simp; omega)) _ | refine Below.trans ?_ (Below.mono (by assumption) (by first | omega | (simp; done) | (simp; omega))))))).mono ?_
  rintro e w1 ⟨v, ka, kc, rfl, hvt, hb1, hle⟩
  go_wp2_with fail
  with_reducible refine (HT.out _ _ _ _ hvt).mono ?_
  rintro e w2 ⟨rfl, hb2⟩
  go_wp2_with (first
    | (refine wpList_store_blk 62 (.tmp 4) (.tmp 8) agg_counts rfl rfl rfl rfl (Blk.new _ _ _) rfl q1 q2 ?_; intro w3 h3))
  have z1 := hb1.size
  have z2 := hb2.size
  simp only [World.size_alloc] at z1
  have b1 : Blk w3 w.heap.size #[.int .i64 b.V, .int .i64 b.nd, .int .i64 b.lo, .int .i64 b.hi, .slice ga b.gs.length gc, .slice pa b.ps.length pc] 27 :=
    h3.other (((((Blk.new w _ _).alloc _).below hb1 (by first | omega | (simp; done) | (simp; omega))).below hb2 (by omega)).alloc _) (by omega)
  have b3 : Blk w3 (w.heap.size + 1) #[.int .i64 0] 30 :=
    h3.other ((((Blk.new' _ _ _ _ (by simp)).below hb1 (by first | omega | (simp; done) | (simp; omega))).below hb2 (by omega)).alloc _) (by omega)
  have b4 := h3.blk
  have r1 := b1.cell 1
  have hB : Below w.heap.size w w3 := h3.below ((((((Below.refl _ _).alloc (Nat.le_refl _) _).alloc (by first | omega | (simp; done) | (simp; omega)) _).trans (hb1.mono (by first | omega | (simp; done) | (simp; omega)))).trans (hb2.mono (by omega))).alloc (by omega) _) (by omega)
  have z3 := hB.size
  have l4 := b4.lt
  clear hb1 hb2
  refine Ord.wp_region [(0, 0), (1, 0), (2, 0), (3, 0), (4, 0), (5, 2), (6, 0), (7, 0), (8, 2)] (fun _ => True) (by kernel_rfl) (by kernel_rfl) (fun c a d v w h => by cases d <;> exact h) trivial ?_
  go_wp2_with (first
    | (refine wpList_load_blk 62 (.tmp 4) agg_counts rfl rfl rfl b4.drew q1 ?_)
    | (go_at_call 54; go_loud (refine (HA.out _).mono ?_; rintro e w5 ⟨rfl, hb5⟩; have b5 := b3.drew.below hb5 b3.drew.lt; have r5 := b5.cell; have f5 := b5.free))
    | ((with_reducible refine Ord.at_calm ?_); refine Ord.calm_skip rfl ?_ (fun K hK => ?_); (focus (simp [Region.wanted, yielded]; done))) | with_reducible refine Ord.walk_calm rfl rfl (fun K hK => ?_) | ((with_reducible refine Ord.at_wild ?_); refine Ord.wild_fieldAddr rfl rfl (fun W => by simp [go_sem]; rfl) (fun K hK => ?_)) | ((with_reducible refine Ord.at_wild ?_); refine Ord.wild_move rfl rfl (fun K hK => ?_)) | ((with_reducible refine Ord.at_wild ?_); refine Ord.wild_nilCheck rfl rfl (fun K hK => ?_)) | with_reducible refine Ord.walk_eff rfl (by first | (simp; done) | assumption | (go_simp; done) | (repeat (first | assumption | exact Below.refl _ _ | refine Below.drew ?_ | refine Below.alloc ?_ (by first | omega | (simp; done) | (simp; omega)) _ | refine Below.setCell ?_ (by first | omega | (simp; done) | (simp; omega)) _ | refine Below.trans ?_ (Below.mono (by assumption) (by first | omega | (simp; done) | (simp; omega)))))) (fun K hK => ?_) | with_reducible refine Ord.at_fork ?_ ?_ | with_reducible refine Ord.walk_nil ?_ | (with_reducible refine Ord.next_of (by first | (simp; done) | (go_simp; done) | (repeat (first | assumption | exact Below.refl _ _ | refine Below.drew ?_ | refine Below.alloc ?_ (by first | omega | (simp; done) | (simp; omega)) _ | refine Below.setCell ?_ (by first | omega | (simp; done) | (simp; omega)) _ | refine Below.trans ?_ (Below.mono (by assumption) (by first | omega | (simp; done) | (simp; omega)))))) (fun _ => ?_))
    | ((with_reducible refine Ord.at_calm ?_); refine Ord.calm_call rfl (fun W => Try.call66 _ W) (HX.out _ _ _ (hda.out _ _ _ b4.drew)) (fun K hK => ?_)) | ((with_reducible refine Ord.at_wild ?_); refine Ord.wild_call rfl (fun W => Try.call66 _ W) (fun W hW => HX.out _ _ _ (hda.out _ _ _ b4.drew)) (fun K hK => ?_))
    | ((with_reducible refine Ord.at_calm ?_); refine Ord.calm_call rfl (fun W => Try.call55 _ W) (b_graded _ _ _) (fun K hK => ?_)) | ((with_reducible refine Ord.at_wild ?_); refine Ord.wild_call rfl (fun W => Try.call55 _ W) (fun W hW => b_graded _ _ _) (fun K hK => ?_)))
  refine noPanic_ret ?_
  refine leaves_cons (f := 65) (args := #[.pointer (some ⟨w.heap.size + 1, 0, none⟩)]) (by simp) (by simp [go_sem]) ?_
  refine ((HC.out).2 (w.heap.size + 1) _).mono ?_
  rintro e u' w6 ⟨rfl, rfl, rfl⟩
  have r6 := (b5.set 0 (.int .i64 0)).cell
  have hB5 : Below w.heap.size w w5 := hB.drew.trans (hb5.mono (by simp; omega))
  simp only [settle, Leaves]
  simp [Leaves, settle, results, Try.results20, go_sem, r6]
  exact ⟨rfl, hB5.setCell (by simp) _⟩
end Go.Proofs.Ytjbjmoghloabpaa
