/- Parts of a proof: BnAA, BnAB. -/
import Derived.Test.YtjbjmoghloabpaaM23
/- Package bean: White, Same, Tell, where open panics. (Printed by mkAA.py) -/
set_option linter.unusedVariables false
set_option linter.unusedSimpArgs false
namespace Go.Proofs.Ytjbjmoghloabpaa
open Go.RowKit Go.Proofs
attribute [local irreducible] Ord.walk

set_option maxHeartbeats 4000000 in
set_option maxRecDepth 100000 in
theorem b_White_stop (b : Bn) (ga : Option Addr) (gc : Nat) (pa : Option Addr) (pc : Nat) (n : Int) (w : World) (hg : GsAt w ga b.gs) (hp : PsAt w pa b.ps) (hgl : b.gs.length ≤ 9223372036854775807) (hpl : b.ps.length ≤ 9223372036854775807) (hE : chkE b (inB n 0 (wrap64 (b.V - 1))) ≠ 0) :
    Calls Try.prog 16 #[bv b ga gc pa pc, .int .i64 n] w fun e w' => e = .returned (.tuple #[.int .i64 0, .int .i64 (chkE b (inB n 0 (wrap64 (b.V - 1))))]) ∧ Below w.heap.size w w' := by
  have hmf : ∀ (fn : Fn) (first cap : Array Value) (w : World), (Instr.makeFunc fn first cap).run Try.prog w = .ok (.func fn first cap) w := fun _ _ _ _ => rfl
  have HO := Lib.hid (fun w' (hb : Below w.heap.size w w') (hc0 : w'.cell? ⟨w.heap.size + 1, 0, none⟩ = some (.int .i64 n)) => b_open_stop b ga gc pa pc 52 #[.pointer (some ⟨w.heap.size + 1, 0, none⟩)] (inB n 0 (wrap64 (b.V - 1))) w' (hg.below hb) (hp.below hb) hgl hpl hE (fun args W => Try.call52 args W) (fun w2 v hb2 h0 => b_is_white v _ b.V n w2 h0 (cell_later hb2 hc0)))
  generalize chkE b (inB n 0 (wrap64 (b.V - 1))) = E at *
  have HC := Lib.hid catch_White
  unfold bv at *
  go_enter_defers Try.func16, Try.ntmps16
  go_wp2_with (first
    | (go_at_call 45; refine (HO.out _ (by (repeat (first | assumption | exact Below.refl _ _ | refine Below.drew ?_ | refine Below.alloc ?_ (by first | omega | (simp; done) | (simp; omega)) _ | refine Below.setCell ?_ (by first | omega | (simp; done) | (simp; omega)) _ | refine Below.trans ?_ (Below.mono (by assumption) (by first | omega | (simp; done) | (simp; omega)))))) (by simp [go_sem]; done)).mono ?_; rintro e w1 ⟨rfl, hb1⟩; refine at_stop ?_))
  unfold Stop
  have b3 : Blk w1 (w.heap.size + 2) #[.int .i64 0] 30 := (Blk.new' _ _ _ _ (by simp)).below hb1 (by first | omega | (simp; done) | (simp; omega))
  have hB : Below w.heap.size w w1 := by (repeat (first | assumption | exact Below.refl _ _ | refine Below.drew ?_ | refine Below.alloc ?_ (by first | omega | (simp; done) | (simp; omega)) _ | refine Below.setCell ?_ (by first | omega | (simp; done) | (simp; omega)) _ | refine Below.trans ?_ (Below.mono (by assumption) (by first | omega | (simp; done) | (simp; omega)))))
  refine leaves_cons (f := 51) (args := #[.pointer (some ⟨w.heap.size + 2, 0, none⟩)]) (by simp) (by simp [go_sem]) ?_
  refine ((HC.out).1 E (w.heap.size + 2) _ b3).mono ?_
  rintro e u' w2 ⟨rfl, rfl, ho, hb⟩
  have hB2 : Below w.heap.size w w2 := hB.trans (ho.below hB.size (by simp))
  have r2 := hb.cell
  simp only [settle, Leaves]
  simp [Leaves, settle, results, Try.results16, go_sem, r2]
  exact hB2

set_option maxHeartbeats 4000000 in
set_option maxRecDepth 100000 in
theorem b_Tell_stop (b : Bn) (ga : Option Addr) (gc : Nat) (pa : Option Addr) (pc : Nat) (n : Int) (w : World) (hg : GsAt w ga b.gs) (hp : PsAt w pa b.ps) (hgl : b.gs.length ≤ 9223372036854775807) (hpl : b.ps.length ≤ 9223372036854775807) (hE : chkE b (inB n 0 b.V) ≠ 0) :
    Calls Try.prog 26 #[bv b ga gc pa pc, .int .i64 n] w fun e w' => e = .returned (.tuple #[.int .i64 0, .int .i64 0, .int .i64 (chkE b (inB n 0 b.V))]) ∧ Below w.heap.size w w' := by
  have hmf : ∀ (fn : Fn) (first cap : Array Value) (w : World), (Instr.makeFunc fn first cap).run Try.prog w = .ok (.func fn first cap) w := fun _ _ _ _ => rfl
  have HO := Lib.hid (fun w' (hb : Below w.heap.size w w') (hc0 : w'.cell? ⟨w.heap.size + 1, 0, none⟩ = some (.int .i64 n)) => b_open_stop b ga gc pa pc 74 #[.pointer (some ⟨w.heap.size + 1, 0, none⟩)] (inB n 0 b.V) w' (hg.below hb) (hp.below hb) hgl hpl hE (fun args W => Try.call74 args W) (fun w2 v hb2 h0 => b_is_tell v _ b.V n w2 h0 (cell_later hb2 hc0)))
  generalize chkE b (inB n 0 b.V) = E at *
  have HC := Lib.hid catch_Tell
  unfold bv at *
  go_enter_defers Try.func26, Try.ntmps26
  go_wp2_with (first
    | (go_at_call 45; refine (HO.out _ (by (repeat (first | assumption | exact Below.refl _ _ | refine Below.drew ?_ | refine Below.alloc ?_ (by first | omega | (simp; done) | (simp; omega)) _ | refine Below.setCell ?_ (by first | omega | (simp; done) | (simp; omega)) _ | refine Below.trans ?_ (Below.mono (by assumption) (by first | omega | (simp; done) | (simp; omega)))))) (by simp [go_sem]; done)).mono ?_; rintro e w1 ⟨rfl, hb1⟩; refine at_stop ?_))
  unfold Stop
  have b3 : Blk w1 (w.heap.size + 2) #[.int .i64 0] 30 := (Blk.new' _ _ _ _ (by simp)).below hb1 (by first | omega | (simp; done) | (simp; omega))
  have hB : Below w.heap.size w w1 := by (repeat (first | assumption | exact Below.refl _ _ | refine Below.drew ?_ | refine Below.alloc ?_ (by first | omega | (simp; done) | (simp; omega)) _ | refine Below.setCell ?_ (by first | omega | (simp; done) | (simp; omega)) _ | refine Below.trans ?_ (Below.mono (by assumption) (by first | omega | (simp; done) | (simp; omega)))))
  refine leaves_cons (f := 73) (args := #[.pointer (some ⟨w.heap.size + 2, 0, none⟩)]) (by simp) (by simp [go_sem]) ?_
  refine ((HC.out).1 E (w.heap.size + 2) _ b3).mono ?_
  rintro e u' w2 ⟨rfl, rfl, ho, hb⟩
  have hB2 : Below w.heap.size w w2 := hB.trans (ho.below hB.size (by simp))
  have r2 := hb.cell
  simp only [settle, Leaves]
  simp [Leaves, settle, results, Try.results26, go_sem, r2]
  exact hB2

set_option maxHeartbeats 4000000 in
set_option maxRecDepth 100000 in
theorem b_Same_stop (b : Bn) (ga : Option Addr) (gc : Nat) (pa : Option Addr) (pc : Nat) (n m : Int) (w : World) (hg : GsAt w ga b.gs) (hp : PsAt w pa b.ps) (hgl : b.gs.length ≤ 9223372036854775807) (hpl : b.ps.length ≤ 9223372036854775807) (hE : chkE b ((inB n 0 (wrap64 (b.V - 1)) && inB m 0 (wrap64 (b.V - 1)))) ≠ 0) :
    Calls Try.prog 22 #[bv b ga gc pa pc, .int .i64 n, .int .i64 m] w fun e w' => e = .returned (.tuple #[.int .i64 0, .int .i64 (chkE b (inB n 0 (wrap64 (b.V - 1)) && inB m 0 (wrap64 (b.V - 1))))]) ∧ Below w.heap.size w w' := by
  have hmf : ∀ (fn : Fn) (first cap : Array Value) (w : World), (Instr.makeFunc fn first cap).run Try.prog w = .ok (.func fn first cap) w := fun _ _ _ _ => rfl
  have HO := Lib.hid (fun w' (hb : Below w.heap.size w w') (hc0 : w'.cell? ⟨w.heap.size + 1, 0, none⟩ = some (.int .i64 n)) (hc1 : w'.cell? ⟨w.heap.size + 2, 0, none⟩ = some (.int .i64 m)) => b_open_stop b ga gc pa pc 68 #[.pointer (some ⟨w.heap.size + 1, 0, none⟩), .pointer (some ⟨w.heap.size + 2, 0, none⟩)] ((inB n 0 (wrap64 (b.V - 1)) && inB m 0 (wrap64 (b.V - 1)))) w' (hg.below hb) (hp.below hb) hgl hpl hE (fun args W => Try.call68 args W) (fun w2 v hb2 h0 => b_is_same v _ _ b.V n m w2 h0 (cell_later hb2 hc0) (cell_later hb2 hc1)))
  generalize chkE b ((inB n 0 (wrap64 (b.V - 1)) && inB m 0 (wrap64 (b.V - 1)))) = E at *
  have HC := Lib.hid catch_Same
  unfold bv at *
  go_enter_defers Try.func22, Try.ntmps22
  go_wp2_with (first
    | (go_at_call 45; refine (HO.out _ (by (repeat (first | assumption | exact Below.refl _ _ | refine Below.drew ?_ | refine Below.alloc ?_ (by first | omega | (simp; done) | (simp; omega)) _ | refine Below.setCell ?_ (by first | omega | (simp; done) | (simp; omega)) _ | refine Below.trans ?_ (Below.mono (by assumption) (by first | omega | (simp; done) | (simp; omega)))))) (by simp [go_sem]; done) (by simp [go_sem]; done)).mono ?_; rintro e w1 ⟨rfl, hb1⟩; refine at_stop ?_))
  unfold Stop
  have b3 : Blk w1 (w.heap.size + 3) #[.int .i64 0] 30 := (Blk.new' _ _ _ _ (by simp)).below hb1 (by first | omega | (simp; done) | (simp; omega))
  have hB : Below w.heap.size w w1 := by (repeat (first | assumption | exact Below.refl _ _ | refine Below.drew ?_ | refine Below.alloc ?_ (by first | omega | (simp; done) | (simp; omega)) _ | refine Below.setCell ?_ (by first | omega | (simp; done) | (simp; omega)) _ | refine Below.trans ?_ (Below.mono (by assumption) (by first | omega | (simp; done) | (simp; omega)))))
  refine leaves_cons (f := 67) (args := #[.pointer (some ⟨w.heap.size + 3, 0, none⟩)]) (by simp) (by simp [go_sem]) ?_
  refine ((HC.out).1 E (w.heap.size + 3) _ b3).mono ?_
  rintro e u' w2 ⟨rfl, rfl, ho, hb⟩
  have hB2 : Below w.heap.size w w2 := hB.trans (ho.below hB.size (by simp))
  have r2 := hb.cell
  simp only [settle, Leaves]
  simp [Leaves, settle, results, Try.results22, go_sem, r2]
  exact hB2
end Go.Proofs.Ytjbjmoghloabpaa
/- Package bean: the exported functions, where there is no truth. (Printed by mkAB.py) -/
set_option linter.unusedVariables false
set_option linter.unusedSimpArgs false
namespace Go.Proofs.Ytjbjmoghloabpaa
open Go.RowKit Go.Proofs
attribute [local irreducible] Ord.walk
/-- What a panic within the third region of Tell leaves. -/
def TellPanic (n : Nat) (w1 : World) (e : Exit) (a : Act) (w : World) : Prop :=
  e = .panic [{ v := stopV 10, recovered := false }] ∧ a.defers = [{ target := Target.fn (Fn.func 73) #[Value.pointer (some { block := n + 1 + 1, off := 0 })], args := #[] }] ∧
  a.tmps.getD 4 undef = .int .i64 0 ∧ a.tmps.getD 5 undef = .int .i64 0 ∧ a.tmps.getD 6 undef = .pointer (some ⟨n + 1 + 1, 0, none⟩) ∧ Below w1.heap.size w1 w

set_option maxHeartbeats 4000000 in
set_option maxRecDepth 100000 in
theorem b_Passed_clash (b : Bn) (ga : Option Addr) (gc : Nat) (pa : Option Addr) (pc : Nat) (w : World) (hg : GsAt w ga b.gs) (hp : PsAt w pa b.ps) (hv : valid b = true) (hs : csum (countN b.V.toNat b.lo b.hi (knOf b)) = 0) :
    Calls Try.prog 20 #[bv b ga gc pa pc] w fun e w' => e = .returned (.tuple #[.int .i64 0, .int .i64 10]) ∧ Below w.heap.size w w' := by
  have hmf : ∀ (fn : Fn) (first cap : Array Value) (w : World), (Instr.makeFunc fn first cap).run Try.prog w = .ok (.func fn first cap) w := fun _ _ _ _ => rfl
  have HO := Lib.hid (fun w' (hb : Below w.heap.size w w')  => b_open_ok b ga gc pa pc 46 #[] w' (hg.below hb) (hp.below hb) hv (fun args W => Try.call46 args W) (fun w2 v _ _ => b_always _ _))
  have HC := Lib.hid catch_Passed
  have HS := Lib.hid hs
  clear hs
  unfold bv at *
  go_enter_defers Try.func20, Try.ntmps20
  go_wp2_with (first
    | (go_at_call 45; refine (HO.out _ (by (repeat (first | assumption | exact Below.refl _ _ | refine Below.drew ?_ | refine Below.alloc ?_ (by first | omega | (simp; done) | (simp; omega)) _ | refine Below.setCell ?_ (by first | omega | (simp; done) | (simp; omega)) _ | refine Below.trans ?_ (Below.mono (by assumption) (by first | omega | (simp; done) | (simp; omega)))))) ).mono ?_; rintro e w1 ⟨v, ka, kc, rfl, hvt, hb1, hle⟩)
    | (go_at_call 47; refine at_stop ?_))
  unfold Stop
  refine (b_told_no hvt HS.out).mono ?_
  rintro e w3 ⟨rfl, hb3⟩
  have b2 : Blk w1 (w.heap.size + 1) #[.int .i64 0] 30 := (Blk.new' _ _ _ _ (by simp)).below hb1 (by first | omega | (simp; done) | (simp; omega))
  have b3 := b2.below hb3 b2.lt
  have hB1 : Below w.heap.size w w1 := by (repeat (first | assumption | exact Below.refl _ _ | refine Below.drew ?_ | refine Below.alloc ?_ (by first | omega | (simp; done) | (simp; omega)) _ | refine Below.setCell ?_ (by first | omega | (simp; done) | (simp; omega)) _ | refine Below.trans ?_ (Below.mono (by assumption) (by first | omega | (simp; done) | (simp; omega)))))
  have hB : Below w.heap.size w w3 := hB1.trans (hb3.mono hB1.size)
  refine leaves_cons (f := 65) (args := #[.pointer (some ⟨w.heap.size + 1, 0, none⟩)]) (by simp) (by simp [go_sem]) ?_
  refine ((HC.out).1 10 (w.heap.size + 1) _ b3).mono ?_
  rintro e u' w4 ⟨rfl, rfl, ho, hb⟩
  have hB2 : Below w.heap.size w w4 := hB.trans (ho.below hB.size (by simp))
  have r2 := hb.cell
  simp only [settle, Leaves]
  simp [Leaves, settle, results, Try.results20, go_sem, r2]
  exact hB2

set_option maxHeartbeats 4000000 in
set_option maxRecDepth 100000 in
theorem b_Known_clash (b : Bn) (ga : Option Addr) (gc : Nat) (pa : Option Addr) (pc : Nat) (w : World) (hg : GsAt w ga b.gs) (hp : PsAt w pa b.ps) (hv : valid b = true) (hs : csum (countN b.V.toNat b.lo b.hi (knOf b)) = 0) :
    Calls Try.prog 18 #[bv b ga gc pa pc] w fun e w' => e = .returned (.tuple #[.int .i64 0, .int .i64 0, .int .i64 10]) ∧ Below w.heap.size w w' := by
  have hmf : ∀ (fn : Fn) (first cap : Array Value) (w : World), (Instr.makeFunc fn first cap).run Try.prog w = .ok (.func fn first cap) w := fun _ _ _ _ => rfl
  have HO := Lib.hid (fun w' (hb : Below w.heap.size w w')  => b_open_ok b ga gc pa pc 46 #[] w' (hg.below hb) (hp.below hb) hv (fun args W => Try.call46 args W) (fun w2 v _ _ => b_always _ _))
  have HC := Lib.hid catch_Known
  have HS := Lib.hid hs
  clear hs
  unfold bv at *
  go_enter_defers Try.func18, Try.ntmps18
  go_wp2_with (first
    | (go_at_call 45; refine (HO.out _ (by (repeat (first | assumption | exact Below.refl _ _ | refine Below.drew ?_ | refine Below.alloc ?_ (by first | omega | (simp; done) | (simp; omega)) _ | refine Below.setCell ?_ (by first | omega | (simp; done) | (simp; omega)) _ | refine Below.trans ?_ (Below.mono (by assumption) (by first | omega | (simp; done) | (simp; omega)))))) ).mono ?_; rintro e w1 ⟨v, ka, kc, rfl, hvt, hb1, hle⟩)
    | (go_at_call 47; refine at_stop ?_))
  unfold Stop
  refine (b_told_no hvt HS.out).mono ?_
  rintro e w3 ⟨rfl, hb3⟩
  have b2 : Blk w1 (w.heap.size + 1) #[.int .i64 0] 30 := (Blk.new' _ _ _ _ (by simp)).below hb1 (by first | omega | (simp; done) | (simp; omega))
  have b3 := b2.below hb3 b2.lt
  have hB1 : Below w.heap.size w w1 := by (repeat (first | assumption | exact Below.refl _ _ | refine Below.drew ?_ | refine Below.alloc ?_ (by first | omega | (simp; done) | (simp; omega)) _ | refine Below.setCell ?_ (by first | omega | (simp; done) | (simp; omega)) _ | refine Below.trans ?_ (Below.mono (by assumption) (by first | omega | (simp; done) | (simp; omega)))))
  have hB : Below w.heap.size w w3 := hB1.trans (hb3.mono hB1.size)
  refine leaves_cons (f := 62) (args := #[.pointer (some ⟨w.heap.size + 1, 0, none⟩)]) (by simp) (by simp [go_sem]) ?_
  refine ((HC.out).1 10 (w.heap.size + 1) _ b3).mono ?_
  rintro e u' w4 ⟨rfl, rfl, ho, hb⟩
  have hB2 : Below w.heap.size w w4 := hB.trans (ho.below hB.size (by simp))
  have r2 := hb.cell
  simp only [settle, Leaves]
  simp [Leaves, settle, results, Try.results18, go_sem, r2]
  exact hB2

set_option maxHeartbeats 4000000 in
set_option maxRecDepth 100000 in
theorem b_Quiet_clash (b : Bn) (ga : Option Addr) (gc : Nat) (pa : Option Addr) (pc : Nat) (w : World) (hg : GsAt w ga b.gs) (hp : PsAt w pa b.ps) (hv : valid b = true) (hs : csum (countN b.V.toNat b.lo b.hi (knOf b)) = 0) :
    Calls Try.prog 28 #[bv b ga gc pa pc] w fun e w' => e = .returned (.tuple #[.int .i64 0, .int .i64 10]) ∧ Below w.heap.size w w' := by
  have hmf : ∀ (fn : Fn) (first cap : Array Value) (w : World), (Instr.makeFunc fn first cap).run Try.prog w = .ok (.func fn first cap) w := fun _ _ _ _ => rfl
  have HO := Lib.hid (fun w' (hb : Below w.heap.size w w')  => b_open_ok b ga gc pa pc 46 #[] w' (hg.below hb) (hp.below hb) hv (fun args W => Try.call46 args W) (fun w2 v _ _ => b_always _ _))
  have HC := Lib.hid catch_Quiet
  have HS := Lib.hid hs
  clear hs
  unfold bv at *
  go_enter_defers Try.func28, Try.ntmps28
  go_wp2_with (first
    | (go_at_call 45; refine (HO.out _ (by (repeat (first | assumption | exact Below.refl _ _ | refine Below.drew ?_ | refine Below.alloc ?_ (by first | omega | (simp; done) | (simp; omega)) _ | refine Below.setCell ?_ (by first | omega | (simp; done) | (simp; omega)) _ | refine Below.trans ?_ (Below.mono (by assumption) (by first | omega | (simp; done) | (simp; omega)))))) ).mono ?_; rintro e w1 ⟨v, ka, kc, rfl, hvt, hb1, hle⟩)
    | (go_at_call 47; refine at_stop ?_))
  unfold Stop
  refine (b_told_no hvt HS.out).mono ?_
  rintro e w3 ⟨rfl, hb3⟩
  have b2 : Blk w1 (w.heap.size + 1) #[.int .i64 0] 30 := (Blk.new' _ _ _ _ (by simp)).below hb1 (by first | omega | (simp; done) | (simp; omega))
  have b3 := b2.below hb3 b2.lt
  have hB1 : Below w.heap.size w w1 := by (repeat (first | assumption | exact Below.refl _ _ | refine Below.drew ?_ | refine Below.alloc ?_ (by first | omega | (simp; done) | (simp; omega)) _ | refine Below.setCell ?_ (by first | omega | (simp; done) | (simp; omega)) _ | refine Below.trans ?_ (Below.mono (by assumption) (by first | omega | (simp; done) | (simp; omega)))))
  have hB : Below w.heap.size w w3 := hB1.trans (hb3.mono hB1.size)
  refine leaves_cons (f := 80) (args := #[.pointer (some ⟨w.heap.size + 1, 0, none⟩)]) (by simp) (by simp [go_sem]) ?_
  refine ((HC.out).1 10 (w.heap.size + 1) _ b3).mono ?_
  rintro e u' w4 ⟨rfl, rfl, ho, hb⟩
  have hB2 : Below w.heap.size w w4 := hB.trans (ho.below hB.size (by simp))
  have r2 := hb.cell
  simp only [settle, Leaves]
  simp [Leaves, settle, results, Try.results28, go_sem, r2]
  exact hB2

set_option maxHeartbeats 4000000 in
set_option maxRecDepth 100000 in
theorem b_Whites_clash (b : Bn) (ga : Option Addr) (gc : Nat) (pa : Option Addr) (pc : Nat) (w : World) (hg : GsAt w ga b.gs) (hp : PsAt w pa b.ps) (hv : valid b = true) (hs : csum (countN b.V.toNat b.lo b.hi (knOf b)) = 0) :
    Calls Try.prog 14 #[bv b ga gc pa pc] w fun e w' => e = .returned (.tuple #[.agg #[.int .i64 0, .int .i64 0], .int .i64 10]) ∧ Below w.heap.size w w' := by
  have hmf : ∀ (fn : Fn) (first cap : Array Value) (w : World), (Instr.makeFunc fn first cap).run Try.prog w = .ok (.func fn first cap) w := fun _ _ _ _ => rfl
  have HO := Lib.hid (fun w' (hb : Below w.heap.size w w')  => b_open_ok b ga gc pa pc 46 #[] w' (hg.below hb) (hp.below hb) hv (fun args W => Try.call46 args W) (fun w2 v _ _ => b_always _ _))
  have HC := Lib.hid catch_Whites
  have HS := Lib.hid hs
  clear hs
  unfold bv at *
  go_enter_defers Try.func14, Try.ntmps14
  go_wp2_with (first
    | (go_at_call 45; refine (HO.out _ (by (repeat (first | assumption | exact Below.refl _ _ | refine Below.drew ?_ | refine Below.alloc ?_ (by first | omega | (simp; done) | (simp; omega)) _ | refine Below.setCell ?_ (by first | omega | (simp; done) | (simp; omega)) _ | refine Below.trans ?_ (Below.mono (by assumption) (by first | omega | (simp; done) | (simp; omega)))))) ).mono ?_; rintro e w1 ⟨v, ka, kc, rfl, hvt, hb1, hle⟩)
    | (go_at_call 47; refine at_stop ?_))
  unfold Stop
  refine (b_told_no hvt HS.out).mono ?_
  rintro e w3 ⟨rfl, hb3⟩
  have b2 : Blk w1 (w.heap.size + 2) #[.int .i64 0] 30 := (Blk.new' _ _ _ _ (by simp)).below hb1 (by first | omega | (simp; done) | (simp; omega))
  have b3 := b2.below hb3 b2.lt
  have hB1 : Below w.heap.size w w1 := by (repeat (first | assumption | exact Below.refl _ _ | refine Below.drew ?_ | refine Below.alloc ?_ (by first | omega | (simp; done) | (simp; omega)) _ | refine Below.setCell ?_ (by first | omega | (simp; done) | (simp; omega)) _ | refine Below.trans ?_ (Below.mono (by assumption) (by first | omega | (simp; done) | (simp; omega)))))
  have hB : Below w.heap.size w w3 := hB1.trans (hb3.mono hB1.size)
  refine leaves_cons (f := 43) (args := #[.pointer (some ⟨w.heap.size + 2, 0, none⟩)]) (by simp) (by simp [go_sem]) ?_
  refine ((HC.out).1 10 (w.heap.size + 2) _ b3).mono ?_
  rintro e u' w4 ⟨rfl, rfl, ho, hb⟩
  have hB2 : Below w.heap.size w w4 := hB.trans (ho.below hB.size (by simp))
  have r2 := hb.cell
  have b1 : Blk w1 (w.heap.size + 1) #[.int .i64 0, .int .i64 0] 23 := ((Blk.new' _ _ _ _ (by simp)).alloc _).below hb1 (by first | omega | (simp; done) | (simp; omega))
  have r3 := (ho.blk (b1.below hb3 b1.lt) (b1.below hb3 b1.lt).lt (by simp)).cell
  simp only [settle, Leaves]
  simp [Leaves, settle, results, Try.results14, go_sem, r2, r3]
  exact hB2

set_option maxHeartbeats 4000000 in
set_option maxRecDepth 100000 in
theorem b_White_clash (b : Bn) (ga : Option Addr) (gc : Nat) (pa : Option Addr) (pc : Nat) (n : Int) (w : World) (hg : GsAt w ga b.gs) (hp : PsAt w pa b.ps) (hv : valid b = true) (hi : (inB n 0 (wrap64 (b.V - 1))) = true) (hs : csum (countN b.V.toNat b.lo b.hi (knOf b)) = 0) :
    Calls Try.prog 16 #[bv b ga gc pa pc, .int .i64 n] w fun e w' => e = .returned (.tuple #[.int .i64 0, .int .i64 10]) ∧ Below w.heap.size w w' := by
  have hmf : ∀ (fn : Fn) (first cap : Array Value) (w : World), (Instr.makeFunc fn first cap).run Try.prog w = .ok (.func fn first cap) w := fun _ _ _ _ => rfl
  have HO := Lib.hid (fun w' (hb : Below w.heap.size w w') (hc0 : w'.cell? ⟨w.heap.size + 1, 0, none⟩ = some (.int .i64 n)) => b_open_ok b ga gc pa pc 52 #[.pointer (some ⟨w.heap.size + 1, 0, none⟩)] w' (hg.below hb) (hp.below hb) hv (fun args W => Try.call52 args W) (fun w2 v hb2 h0 => by have := b_is_white v _ b.V n w2 h0 (cell_later hb2 hc0); rwa [hi] at this))
  have HC := Lib.hid catch_White
  have HS := Lib.hid hs
  clear hs
  unfold bv at *
  go_enter_defers Try.func16, Try.ntmps16
  go_wp2_with (first
    | (go_at_call 45; refine (HO.out _ (by (repeat (first | assumption | exact Below.refl _ _ | refine Below.drew ?_ | refine Below.alloc ?_ (by first | omega | (simp; done) | (simp; omega)) _ | refine Below.setCell ?_ (by first | omega | (simp; done) | (simp; omega)) _ | refine Below.trans ?_ (Below.mono (by assumption) (by first | omega | (simp; done) | (simp; omega)))))) (by simp [go_sem]; done)).mono ?_; rintro e w1 ⟨v, ka, kc, rfl, hvt, hb1, hle⟩)
    | (go_at_call 47; refine at_stop ?_))
  unfold Stop
  refine (b_told_no hvt HS.out).mono ?_
  rintro e w3 ⟨rfl, hb3⟩
  have b2 : Blk w1 (w.heap.size + 2) #[.int .i64 0] 30 := (Blk.new' _ _ _ _ (by simp)).below hb1 (by first | omega | (simp; done) | (simp; omega))
  have b3 := b2.below hb3 b2.lt
  have hB1 : Below w.heap.size w w1 := by (repeat (first | assumption | exact Below.refl _ _ | refine Below.drew ?_ | refine Below.alloc ?_ (by first | omega | (simp; done) | (simp; omega)) _ | refine Below.setCell ?_ (by first | omega | (simp; done) | (simp; omega)) _ | refine Below.trans ?_ (Below.mono (by assumption) (by first | omega | (simp; done) | (simp; omega)))))
  have hB : Below w.heap.size w w3 := hB1.trans (hb3.mono hB1.size)
  refine leaves_cons (f := 51) (args := #[.pointer (some ⟨w.heap.size + 2, 0, none⟩)]) (by simp) (by simp [go_sem]) ?_
  refine ((HC.out).1 10 (w.heap.size + 2) _ b3).mono ?_
  rintro e u' w4 ⟨rfl, rfl, ho, hb⟩
  have hB2 : Below w.heap.size w w4 := hB.trans (ho.below hB.size (by simp))
  have r2 := hb.cell
  simp only [settle, Leaves]
  simp [Leaves, settle, results, Try.results16, go_sem, r2]
  exact hB2

set_option maxHeartbeats 4000000 in
set_option maxRecDepth 100000 in
theorem b_Tell_clash (b : Bn) (ga : Option Addr) (gc : Nat) (pa : Option Addr) (pc : Nat) (n : Int) (w : World) (hg : GsAt w ga b.gs) (hp : PsAt w pa b.ps) (hv : valid b = true) (hi : (inB n 0 b.V) = true) (hs : csum (countN b.V.toNat b.lo b.hi (knOf b)) = 0) :
    Calls Try.prog 26 #[bv b ga gc pa pc, .int .i64 n] w fun e w' => e = .returned (.tuple #[.int .i64 0, .int .i64 0, .int .i64 10]) ∧ Below w.heap.size w w' := by
  have hmf : ∀ (fn : Fn) (first cap : Array Value) (w : World), (Instr.makeFunc fn first cap).run Try.prog w = .ok (.func fn first cap) w := fun _ _ _ _ => rfl
  have HO := Lib.hid (fun w' (hb : Below w.heap.size w w') (hc0 : w'.cell? ⟨w.heap.size + 1, 0, none⟩ = some (.int .i64 n)) => b_open_ok b ga gc pa pc 74 #[.pointer (some ⟨w.heap.size + 1, 0, none⟩)] w' (hg.below hb) (hp.below hb) hv (fun args W => Try.call74 args W) (fun w2 v hb2 h0 => by have := b_is_tell v _ b.V n w2 h0 (cell_later hb2 hc0); rwa [hi] at this))
  have HC := Lib.hid catch_Tell
  have HS := Lib.hid hs
  clear hs
  unfold bv at *
  go_enter_defers Try.func26, Try.ntmps26
  go_wp2_with (first
    | (go_at_call 45; refine (HO.out _ (by (repeat (first | assumption | exact Below.refl _ _ | refine Below.drew ?_ | refine Below.alloc ?_ (by first | omega | (simp; done) | (simp; omega)) _ | refine Below.setCell ?_ (by first | omega | (simp; done) | (simp; omega)) _ | refine Below.trans ?_ (Below.mono (by assumption) (by first | omega | (simp; done) | (simp; omega)))))) (by simp [go_sem]; done)).mono ?_; rintro e w1 ⟨v, ka, kc, rfl, hvt, hb1, hle⟩)
    | (go_at_call 47; refine at_stop ?_))
  have HTo := Lib.hid (fun w2 (hb : Below w1.heap.size w1 w2) => b_told_no (hvt.below hb) HS.out)
  refine wp_mono (Q := TellPanic w.heap.size w1) ?_ ?_
  · have ht3 : w1.cell? ⟨w.heap.size + 1, 0, none⟩ = some (.int .i64 n) := by rw [hb1.cell (p := ⟨w.heap.size + 1, 0, none⟩) (by first | omega | (simp; done) | (simp; omega))]; simp [go_sem]
    have hz1 : w.heap.size + 3 ≤ w1.heap.size := by have := hb1.size; simpa using this
    refine Ord.wp_regionD [(0, 0), (2, 1), (1, 2), (3, 2), (4, 2)] (fun W => Below w1.heap.size w1 W) (by kernel_rfl) (by kernel_rfl) ?_ (Below.refl _ _).drew ?_
    · rintro c ⟨tm, ds⟩ d v u ⟨o, ho, rfl⟩ h
      have hd : o.dst = some 13 ∨ o.dst = some 14 ∨ o.dst = some 15 ∨ o.dst = some 16 ∨ o.dst = some 17 := by
        simp only [List.mem_toArray, List.mem_cons, List.not_mem_nil, or_false] at ho
        rcases ho with rfl | rfl | rfl | rfl | rfl <;> simp
      unfold TellPanic at *
      rcases hd with e | e | e | e | e <;> rw [e] at h <;> simpa [Act.put, Array.getD_eq_getD_getElem?] using h
    · go_wp2_with (first
        | (go_at_call 47; refine (HTo.out _ (by (repeat (first | assumption | exact Below.refl _ _ | refine Below.drew ?_ | refine Below.alloc ?_ (by first | omega | (simp; done) | (simp; omega)) _ | refine Below.setCell ?_ (by first | omega | (simp; done) | (simp; omega)) _ | refine Below.trans ?_ (Below.mono (by assumption) (by first | omega | (simp; done) | (simp; omega))))))).mono ?_; rintro e w3 ⟨rfl, hb3⟩; refine at_stop ?_)
        | ((with_reducible refine Ord.at_wild ?_); refine Ord.wild_load (ad := ⟨w.heap.size + 1, 0, none⟩) (.int .i64 n) rfl rfl ?_ ?_; (focus (intro W hW; obtain ⟨cW, _, zW⟩ := below_rules hW rfl; simp [go_sem, cW, ↓IntWalk.iteOmega, ht3]; done)); intro K hK)
        | ((with_reducible refine Ord.at_calm ?_); refine Ord.calm_skip rfl ?_ (fun K hK => ?_); (focus (simp [Region.wanted, yielded]; done))) | with_reducible refine Ord.walk_calm rfl rfl (fun K hK => ?_) | ((with_reducible refine Ord.at_wild ?_); refine Ord.wild_fieldAddr rfl rfl (fun W => by simp [go_sem]; rfl) (fun K hK => ?_)) | ((with_reducible refine Ord.at_wild ?_); refine Ord.wild_move rfl rfl (fun K hK => ?_)) | ((with_reducible refine Ord.at_wild ?_); refine Ord.wild_nilCheck rfl rfl (fun K hK => ?_)) | with_reducible refine Ord.walk_eff rfl (by first | (simp; done) | assumption | (go_simp; done) | (repeat (first | assumption | exact Below.refl _ _ | refine Below.drew ?_ | refine Below.alloc ?_ (by first | omega | (simp; done) | (simp; omega)) _ | refine Below.setCell ?_ (by first | omega | (simp; done) | (simp; omega)) _ | refine Below.trans ?_ (Below.mono (by assumption) (by first | omega | (simp; done) | (simp; omega)))))) (fun K hK => ?_) | with_reducible refine Ord.at_fork ?_ ?_ | with_reducible refine Ord.walk_nil ?_ | (with_reducible refine Ord.next_of (by first | (simp; done) | (go_simp; done) | (repeat (first | assumption | exact Below.refl _ _ | refine Below.drew ?_ | refine Below.alloc ?_ (by first | omega | (simp; done) | (simp; omega)) _ | refine Below.setCell ?_ (by first | omega | (simp; done) | (simp; omega)) _ | refine Below.trans ?_ (Below.mono (by assumption) (by first | omega | (simp; done) | (simp; omega)))))) (fun _ => ?_)))
      unfold Stop
      refine ⟨rfl, rfl, rfl, rfl, rfl, ?_⟩
      (repeat (first | assumption | exact Below.refl _ _ | refine Below.drew ?_ | refine Below.alloc ?_ (by first | omega | (simp; done) | (simp; omega)) _ | refine Below.setCell ?_ (by first | omega | (simp; done) | (simp; omega)) _ | refine Below.trans ?_ (Below.mono (by assumption) (by first | omega | (simp; done) | (simp; omega)))))
  rintro e ⟨tm, ds⟩ w3 ⟨rfl, rfl, h4, h5, h6, hb3⟩
  simp only [Array.getD_eq_getD_getElem?] at h4 h5 h6
  have b2 : Blk w1 (w.heap.size + 2) #[.int .i64 0] 30 := (Blk.new' _ _ _ _ (by simp)).below hb1 (by first | omega | (simp; done) | (simp; omega))
  have b3 := b2.below hb3 b2.lt
  have hB1 : Below w.heap.size w w1 := by (repeat (first | assumption | exact Below.refl _ _ | refine Below.drew ?_ | refine Below.alloc ?_ (by first | omega | (simp; done) | (simp; omega)) _ | refine Below.setCell ?_ (by first | omega | (simp; done) | (simp; omega)) _ | refine Below.trans ?_ (Below.mono (by assumption) (by first | omega | (simp; done) | (simp; omega)))))
  have hB : Below w.heap.size w w3 := hB1.trans (hb3.mono hB1.size)
  refine leaves_cons (f := 73) (args := #[.pointer (some ⟨w.heap.size + 2, 0, none⟩)]) (by simp) (by simp [go_sem]) ?_
  refine ((HC.out).1 10 (w.heap.size + 2) _ b3).mono ?_
  rintro e u' w4 ⟨rfl, rfl, ho, hb⟩
  have hB2 : Below w.heap.size w w4 := hB.trans (ho.below hB.size (by simp))
  have r2 := hb.cell
  simp only [settle, Leaves]
  simp [Leaves, settle, results, Try.results26, go_sem, r2, h4, h5, h6]
  exact hB2

set_option maxHeartbeats 4000000 in
set_option maxRecDepth 100000 in
theorem b_Same_clash (b : Bn) (ga : Option Addr) (gc : Nat) (pa : Option Addr) (pc : Nat) (n m : Int) (w : World) (hg : GsAt w ga b.gs) (hp : PsAt w pa b.ps) (hv : valid b = true) (hi : ((inB n 0 (wrap64 (b.V - 1)) && inB m 0 (wrap64 (b.V - 1)))) = true) (hs : csum (countN b.V.toNat b.lo b.hi (knOf b)) = 0) :
    Calls Try.prog 22 #[bv b ga gc pa pc, .int .i64 n, .int .i64 m] w fun e w' => e = .returned (.tuple #[.int .i64 0, .int .i64 10]) ∧ Below w.heap.size w w' := by
  have hmf : ∀ (fn : Fn) (first cap : Array Value) (w : World), (Instr.makeFunc fn first cap).run Try.prog w = .ok (.func fn first cap) w := fun _ _ _ _ => rfl
  have HO := Lib.hid (fun w' (hb : Below w.heap.size w w') (hc0 : w'.cell? ⟨w.heap.size + 1, 0, none⟩ = some (.int .i64 n)) (hc1 : w'.cell? ⟨w.heap.size + 2, 0, none⟩ = some (.int .i64 m)) => b_open_ok b ga gc pa pc 68 #[.pointer (some ⟨w.heap.size + 1, 0, none⟩), .pointer (some ⟨w.heap.size + 2, 0, none⟩)] w' (hg.below hb) (hp.below hb) hv (fun args W => Try.call68 args W) (fun w2 v hb2 h0 => by have := b_is_same v _ _ b.V n m w2 h0 (cell_later hb2 hc0) (cell_later hb2 hc1); rwa [hi] at this))
  have HC := Lib.hid catch_Same
  have HS := Lib.hid hs
  clear hs
  unfold bv at *
  go_enter_defers Try.func22, Try.ntmps22
  go_wp2_with (first
    | (go_at_call 45; refine (HO.out _ (by (repeat (first | assumption | exact Below.refl _ _ | refine Below.drew ?_ | refine Below.alloc ?_ (by first | omega | (simp; done) | (simp; omega)) _ | refine Below.setCell ?_ (by first | omega | (simp; done) | (simp; omega)) _ | refine Below.trans ?_ (Below.mono (by assumption) (by first | omega | (simp; done) | (simp; omega)))))) (by simp [go_sem]; done) (by simp [go_sem]; done)).mono ?_; rintro e w1 ⟨v, ka, kc, rfl, hvt, hb1, hle⟩)
    | (go_at_call 47; refine at_stop ?_))
  unfold Stop
  refine (b_told_no hvt HS.out).mono ?_
  rintro e w3 ⟨rfl, hb3⟩
  have b2 : Blk w1 (w.heap.size + 3) #[.int .i64 0] 30 := (Blk.new' _ _ _ _ (by simp)).below hb1 (by first | omega | (simp; done) | (simp; omega))
  have b3 := b2.below hb3 b2.lt
  have hB1 : Below w.heap.size w w1 := by (repeat (first | assumption | exact Below.refl _ _ | refine Below.drew ?_ | refine Below.alloc ?_ (by first | omega | (simp; done) | (simp; omega)) _ | refine Below.setCell ?_ (by first | omega | (simp; done) | (simp; omega)) _ | refine Below.trans ?_ (Below.mono (by assumption) (by first | omega | (simp; done) | (simp; omega)))))
  have hB : Below w.heap.size w w3 := hB1.trans (hb3.mono hB1.size)
  refine leaves_cons (f := 67) (args := #[.pointer (some ⟨w.heap.size + 3, 0, none⟩)]) (by simp) (by simp [go_sem]) ?_
  refine ((HC.out).1 10 (w.heap.size + 3) _ b3).mono ?_
  rintro e u' w4 ⟨rfl, rfl, ho, hb⟩
  have hB2 : Below w.heap.size w w4 := hB.trans (ho.below hB.size (by simp))
  have r2 := hb.cell
  simp only [settle, Leaves]
  simp [Leaves, settle, results, Try.results22, go_sem, r2]
  exact hB2
end Go.Proofs.Ytjbjmoghloabpaa
