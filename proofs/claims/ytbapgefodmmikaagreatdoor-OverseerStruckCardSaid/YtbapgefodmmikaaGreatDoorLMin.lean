/- Short words: theorems whose default argument is a tactic. -/
import Derived.WalkKit
import Derived.ProofKit
import Derived.KernelRfl
set_option linter.unusedVariables false
namespace Go
universe u
open Go.RowKit
theorem ar_ {p : Prop} (h : p := by first | omega | (simp; done) | (simp; omega)) : p := h
theorem om_ {p : Prop} (h : p := by omega) : p := h
theorem sp_ {p : Prop} (h : p := by simp) : p := h
theorem de_ {p : Prop} (h : p := by decide) : p := h
theorem bel_ {p : Prop} (h : p := by (repeat (first | assumption | exact Below.refl _ _ | refine Below.drew ?_ | refine Below.alloc ?_ (by first | omega | (simp; done) | (simp; omega)) _ | refine Below.setCell ?_ (by first | omega | (simp; done) | (simp; omega)) _ | refine Below.trans ?_ (Below.mono (by assumption) (by first | omega | (simp; done) | (simp; omega)))))) : p := h
theorem be_ {p : Prop} (h : p := by first | (simp; done) | assumption | (go_simp; done) | exact bel_) : p := h
theorem bn_ {p : Prop} (h : p := by first | (simp; done) | (go_simp; done) | exact bel_) : p := h
theorem sw_ {p : Prop} (h : p := by (simp [Region.wanted, yielded]; done)) : p := h
theorem nl_ {n : Nat} : n ≤ n := Nat.le_refl n
theorem br_ {n : Nat} {w : World} : Below n w w := Below.refl n w
theorem kr_ {α : Sort u} {a b : α} (h : a = b := by kernel_rfl) : a = b := h
theorem as_ {p : Prop} (h : p := by assumption) : p := h
theorem hd_ {p : Prop} (h : p) : RowKit.Hid p := h
abbrev bl_ := @World.block_lt_of_cell?
theorem hmf_ (P : Program) : ∀ (fn : Fn) (first cap : Array Value) (w : World), (Instr.makeFunc fn first cap).run P w = .ok (.func fn first cap) w := fun _ _ _ _ => rfl
instance ci_:Coe Int Value:=⟨fun x=>.int .i64 x⟩
instance cn_:Coe Nat Value:=⟨fun x=>.int .i64 (x:Int)⟩
instance cz_:Coe Unit Value:=⟨fun _=>.int .i64 0⟩
instance ca_:Coe Nat (Option Addr):=⟨fun n=>some ⟨n,0,none⟩⟩
instance cf_:CoeFun World (fun _=>World→Prop):=⟨fun w w'=>RowKit.Below w.heap.size w w'⟩
theorem o_ {p q:Prop}(k:q)(h:q→p:=by
 intro k
 first|(with_reducible refine Go.Ord.Zyg ?_;refine Go.Ord.Zyk rfl ?_ k;(simp [Region.wanted,yielded];done))|with_reducible exact Go.Ord.Zyi rfl rfl k|((with_reducible refine Go.Ord.Zye ?_);first|exact Go.Ord.Zyl rfl rfl (fun W=>by simp [go_sem];rfl) k|exact Go.Ord.Zym rfl rfl k|exact Go.Ord.Zyn rfl rfl k)|with_reducible exact Go.Ord.Zyh rfl be_ k):p:=h k
end Go
namespace Go.Ord
end Go.Ord
