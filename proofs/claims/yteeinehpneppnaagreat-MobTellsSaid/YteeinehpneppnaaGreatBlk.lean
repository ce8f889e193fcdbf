/- Whole blocks of cells, as facts. -/
import Derived.Test.YteeinehpneppnaaGreatBase
import Derived.Laws.Tables
import Derived.Laws.Rows
import Derived.Laws.ResultCell
set_option linter.unusedVariables false
namespace Go
open Go.RowKit
/-- Block b holds these cells, none of them frozen. -/
def Blk (w : World) (b : Nat) (A : Array Value) (t : TypeId) : Prop := w.heap[b]? = some (.cells A t (0, 0))
namespace Blk
variable {w w' : World} {b : Nat} {A : Array Value} {t : TypeId}
theorem lt (h : Blk w b A t) : b < w.heap.size := lt_of_block h
theorem cell (h : Blk w b A t) : ∀ i, w.cell? ⟨b, i, none⟩ = A[i]? := fun i => cell_of_row w b i A t (0, 0) h
theorem free (h : Blk w b A t) : ∀ i, w.frozen? ⟨b, i, none⟩ = false := fun i => frozen_of_row w b i A t h
theorem new (w : World) (A : Array Value) (t : TypeId) : Blk (w.alloc (.cells A t)) w.heap.size A t := by
  show (w.heap.push _)[w.heap.size]? = _
  simp
theorem new' (w : World) (A : Array Value) (t : TypeId) (n : Nat) (hn : w.heap.size = n) : Blk (w.alloc (.cells A t)) n A t := by subst hn; exact new w A t
theorem alloc (h : Blk w b A t) (o : Obj) : Blk (w.alloc o) b A t := (Below.heap_alloc w o b h.lt).trans h
theorem drew (h : Blk w b A t) : Blk w.drew b A t := h
theorem set (h : Blk w b A t) (i : Nat) (v : Value) : Blk (w.setCell ⟨b, i, none⟩ v) b (A.setIfInBounds i v) t := heap_setCell_same w b i A t v h
theorem other (h : Blk w b A t) {p : Addr} (hp : b ≠ p.block) (v : Value) : Blk (w.setCell p v) b A t := (Below.heap_setCell w p v b hp).trans h
theorem below {n : Nat} (h : Blk w b A t) (hb : Below n w w') (hn : b < n) : Blk w' b A t := (hb.block b hn).trans h
theorem setRow (h : Blk w b A t) (B : Array Value) : Blk (w.setRow b B) b B t := setRow_heap w b A B t (0, 0) h
theorem setRow_other (h : Blk w b A t) (g : Nat) (hg : b ≠ g) (B : Array Value) : Blk (w.setRow g B) b A t := (Go.setRow_other w g b B hg).trans h
end Blk
/-- A type of aggregates, and how many cells it has. -/
def AggTy (P : Program) (ty : TypeId) (n : Nat) : Prop := ∃ d, P.underlying ty = some d ∧ (match d with | .struct _ | .array _ _ => true | _ => false) = true ∧ (P.info? ty).map (·.size) = some n
/-- A world in which block b holds other cells. -/
structure Rowed (w : World) (b : Nat) (B : Array Value) (t : TypeId) (w' : World) : Prop where
  blk : Blk w' b B t
  size : w'.heap.size = w.heap.size
  heap : ∀ k, k ≠ b → w'.heap[k]? = w.heap[k]?
  cell : ∀ c i, w'.cell? ⟨c, i, none⟩ = if c = b then B[i]? else w.cell? ⟨c, i, none⟩
  free : ∀ c i, w'.frozen? ⟨c, i, none⟩ = if c = b then false else w.frozen? ⟨c, i, none⟩
  other : ∀ {c : Nat} {A : Array Value} {u : TypeId}, Blk w c A u → c ≠ b → Blk w' c A u
  below : ∀ {n : Nat} {W : World}, Below n W w → n ≤ b → Below n W w'
theorem Rowed.of {w : World} {b : Nat} {A B : Array Value} {t : TypeId} (h : Blk w b A t) : Rowed w b B t (w.setRow b B) where
  blk := h.setRow B
  size := by simp
  heap k hk := Go.setRow_other w b k B hk
  cell c i := by
    by_cases hc : c = b
    · subst hc; rw [if_pos rfl]; exact (h.setRow B).cell i
    · rw [if_neg hc]; exact cell_setRow_other w b B ⟨c, i, none⟩ hc
  free c i := by
    by_cases hc : c = b
    · subst hc; rw [if_pos rfl]; exact (h.setRow B).free i
    · rw [if_neg hc]; simp [World.frozen?, Go.setRow_other w b c B hc]
  other h' hc := h'.setRow_other b hc B
  below hb hn := hb.trans ⟨rfl, rfl, rfl, by simp, fun k hk => Go.setRow_other w b k B (by omega)⟩
section
variable {P : Program} {ops : Array Oper} {rest : List Oper} {o : Oper} {a : Act} {w : World} {Q : Exit → Act → World → Prop}
theorem wpList_load_blk (ty : TypeId) (x : Operand) {n : Nat} (hk : AggTy P ty n) (hgd : o.guard = none) (ho : o.op = .load ty x) {b : Nat} (hx : a.eval x = .pointer (some ⟨b, 0, none⟩)) {A : Array Value} {t : TypeId} (hb : Blk w b A t) (hs : A.size = n)
    (h : wpList P ops Q rest (a.put o.dst (.agg A)) w) : wpList P ops Q (o :: rest) a w := by
  obtain ⟨d, hu, hd, hi⟩ := hk
  subst hs
  exact wpList_load_row hgd ty x ho b hx t A (0, 0) d hb hu (by cases d <;> simp at hd ⊢) hi h
theorem wpList_store_blk (ty : TypeId) (x y : Operand) {n : Nat} (hk : AggTy P ty n) (hgd : o.guard = none) (ho : o.op = .store ty x y) {b : Nat} (hx : a.eval x = .pointer (some ⟨b, 0, none⟩)) {B : Array Value} (hy : a.eval y = .agg B) {A : Array Value} {t : TypeId} (hb : Blk w b A t) (hA : A.size = n) (hB : B.size = n)
    (h1 : B.all (·.oneCell') = true) (h : ∀ w', Rowed w b B t w' → wpList P ops Q rest (a.put o.dst undef) w') : wpList P ops Q (o :: rest) a w := by
  obtain ⟨d, hu, hd, hi⟩ := hk
  subst hB
  exact wpList_store_row hgd ty x y ho b B hx hy t A hb hi hA h1 (h _ (Rowed.of hb))
theorem loadVar_blk {ty : TypeId} {n : Nat} (hk : AggTy P ty n) {b : Nat} {A : Array Value} {t : TypeId} (hb : Blk w b A t) (hs : A.size = n) : (loadVar ty ⟨b, 0, none⟩).run P w = .ok (.agg A) w := by
  obtain ⟨d, hu, hd, hi⟩ := hk
  subst hs
  exact run_loadVar_row w b t ty A (0, 0) d hb hu (by cases d <;> simp at hd ⊢) hi
theorem results_cell_blk {fn : Func} {p : Tmp} {ty : TypeId} (h : fn.results = #[.cell p ty]) (tmps : Array Value) {n : Nat} (hk : AggTy P ty n) {b : Nat} (hp : tmps.getD p undef = .pointer (some ⟨b, 0, none⟩)) {A : Array Value} {t : TypeId} (hb : Blk w b A t) (hs : A.size = n) :
    (results fn tmps).run P w = .ok (.agg A) w := by
  have hp' : tmps[p]?.getD undef = .pointer (some ⟨b, 0, none⟩) := by simpa using hp
  simp [results, h, hp', asAddr, loadVar_blk hk hb hs]
theorem results_cell_tmp_blk {fn : Func} {p u : Tmp} {ty : TypeId} (h : fn.results = #[.cell p ty, .tmp u]) (tmps : Array Value) {n : Nat} (hk : AggTy P ty n) {b : Nat} (hp : tmps.getD p undef = .pointer (some ⟨b, 0, none⟩)) {A : Array Value} {t : TypeId} (hb : Blk w b A t) (hs : A.size = n) :
    (results fn tmps).run P w = .ok (.tuple #[.agg A, tmps.getD u undef]) w := by
  rw [results_cell_tmp h, hp]
  simp [asAddr, Result.andThen, loadVar_blk hk hb hs]
end
end Go
