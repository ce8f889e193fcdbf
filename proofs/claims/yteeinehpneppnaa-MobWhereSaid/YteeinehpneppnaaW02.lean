/- Parts of a proof: Base, Blk, BlkB, OrdB, OrdC, RoundK, OrdD. -/
import Derived.Test.YteeinehpneppnaaProg
import Derived.Test.YteeinehpneppnaaW01
import Derived.WalkKit
import Derived.WalkLawsBesides
import Derived.Lib.Hide
import Derived.Deep.DeepMust
import Derived.Laws.BitsAllLaws
import Derived.Lib.QuoteBits
import Derived.Laws.AppendOwn
import Derived.Laws.Tables
import Derived.Laws.Rows
import Derived.Laws.ResultCell
import Derived.Laws.MakeOwn
import Derived.OwnWalk
import Derived.RangeFuncIn
import Derived.RangeFuncCalls
import Derived.TacticsIn
import Derived.OrdersIn
/- What is general: endings, worlds, owned rows, lists that are read. (Picked by mkgen.py) -/
set_option linter.unusedVariables false
set_option linter.unusedSimpArgs false
namespace Go.Proofs.Yteeinehpneppnaa
open Go.RowKit Go.Proofs
theorem ret_bool {a b : Bool} (h : a = b) : Ending.returned (.bool a) = .returned (.bool b) := by rw [h]
theorem ret_int {k : IntKind} {a b : Int} (h : a = b) : Ending.returned (.int k a) = .returned (.int k b) := by rw [h]
/-- It returns this value; the world is the same. -/
def Same (v : Value) (w : World) (e : Ending) (w' : World) : Prop := e = .returned v ∧ w = w'
/-- It returns this value; nothing that was there has turned. -/
def Gives (v : Value) (w : World) (e : Ending) (w' : World) : Prop := e = .returned v ∧ Below w.heap.size w w'
/-- cell?, frozen? under names that no rule turns. -/
def cellX (w : World) (b o : Nat) : Option Value := w.cell? ⟨b, o, none⟩
def frozenX (w : World) (b o : Nat) : Bool := w.frozen? ⟨b, o, none⟩
/-- What a call leaves, as rules for the walk. -/
theorem after {W w' : World} {n : Nat} (hb : Below W.heap.size W w') (hn : W.heap.size = n) :
    (∀ b o, w'.cell? ⟨b, o, none⟩ = if b < n then W.cell? ⟨b, o, none⟩ else cellX w' b o) ∧
    (∀ b o, w'.frozen? ⟨b, o, none⟩ = if b < n then W.frozen? ⟨b, o, none⟩ else frozenX w' b o) ∧ n ≤ w'.heap.size := by
  subst hn
  refine ⟨fun b o => ?_, fun b o => ?_, hb.size⟩
  · split
    · exact hb.cell (p := ⟨b, o, none⟩) (by assumption)
    · rfl
  · split
    · exact hb.frozen (p := ⟨b, o, none⟩) (by assumption)
    · rfl
theorem below_rules {W w' : World} {n m : Nat} (hb : Below n W w') (hn : W.heap.size = m) :
    (∀ b o, w'.cell? ⟨b, o, none⟩ = if b < n then W.cell? ⟨b, o, none⟩ else cellX w' b o) ∧
    (∀ b o, w'.frozen? ⟨b, o, none⟩ = if b < n then W.frozen? ⟨b, o, none⟩ else frozenX w' b o) ∧ m ≤ w'.heap.size := by
  subst hn
  refine ⟨fun b o => ?_, fun b o => ?_, hb.size⟩
  · split
    · exact hb.cell (p := ⟨b, o, none⟩) (by assumption)
    · rfl
  · split
    · exact hb.frozen (p := ⟨b, o, none⟩) (by assumption)
    · rfl
/-- in -/
def inB (n lo hi : Int) : Bool := decide (lo ≤ n ∧ n ≤ hi)
def hasB (s n : Nat) : Bool := s / 2 ^ n % 2 == 1
/-- How many are in a set. -/
def szN : Nat → Nat → Nat
  | 0, _ => 0
  | f + 1, s => s % 2 + szN f (s / 2)
def sz (s : Nat) : Nat := szN 62 s
theorem szN_succ (f s : Nat) : szN (f + 1) s = s % 2 + szN f (s / 2) := rfl
theorem szN_zero (f : Nat) : szN f 0 = 0 := by induction f with | zero => rfl | succ f ih => simp [szN, ih]
theorem szN_le (f s : Nat) : szN f s ≤ f := by
  induction f generalizing s with
  | zero => simp [szN]
  | succ f ih => have := ih (s / 2); simp only [szN]; omega
theorem cell_later {w w' : World} {a : Addr} {v : Value} (hb : Below w.heap.size w w') (h : w.cell? a = some v) : w'.cell? a = some v :=
  (hb.cell (World.block_lt_of_cell? w _ h)).trans h
def Gives2 (a b : Value) (w : World) (e : Ending) (w' : World) : Prop := e = .returned (.tuple #[a, b]) ∧ Below w.heap.size w w'
def Gives3 (a b c : Value) (w : World) (e : Ending) (w' : World) : Prop := e = .returned (.tuple #[a, b, c]) ∧ Below w.heap.size w w'
theorem ret_tup {a b : Value} (h : a = b) : Ending.returned a = .returned b := by rw [h]
theorem ownsRow_below {W w' : World} {base : Nat} {e : TypeId} {size : Nat} {v : Value} {n : Nat} {xs : List Value} (h : W.ownsRow base e size v n xs) (hb : Below W.heap.size W w') : w'.ownsRow base e size v n xs := by
  obtain ⟨h1, h2⟩ := h
  refine ⟨h1, h2.imp id ?_⟩
  rintro ⟨g, cap, cur, hv, hg, hh, r⟩
  exact ⟨g, cap, cur, hv, hg, (hb.block g (Array.getElem?_eq_some_iff.1 hh).1).trans hh, r⟩
end Go.Proofs.Yteeinehpneppnaa
/- Whole blocks of cells, as facts. -/
set_option linter.unusedVariables false
namespace Go
open Go.RowKit
/-- Block b holds these cells, none of them frozen. -/
def Blk (w : World) (b : Nat) (A : Array Value) (t : TypeId) : Prop := w.heap[b]? = some (.cells A t (0, 0))
namespace Blk
variable {w w' : World} {b : Nat} {A : Array Value} {t : TypeId}
theorem lt (h : Blk w b A t) : b < w.heap.size := lt_of_block h
theorem cell (h : Blk w b A t) : ∀ i, w.cell? ⟨b, i, none⟩ = A[i]? := fun i => cell_of_row w b i A t (0, 0) h
theorem free (h : Blk w b A t) : ∀ i, w.frozen? ⟨b, i, none⟩ = false := fun i => frozen_of_row w b i A t h
theorem new (w : World) (A : Array Value) (t : TypeId) : Blk (w.alloc (.cells A t)) w.heap.size A t := by
  show (w.heap.push _)[w.heap.size]? = _
  simp
theorem new' (w : World) (A : Array Value) (t : TypeId) (n : Nat) (hn : w.heap.size = n) : Blk (w.alloc (.cells A t)) n A t := by subst hn; exact new w A t
theorem alloc (h : Blk w b A t) (o : Obj) : Blk (w.alloc o) b A t := (Below.heap_alloc w o b h.lt).trans h
theorem drew (h : Blk w b A t) : Blk w.drew b A t := h
theorem set (h : Blk w b A t) (i : Nat) (v : Value) : Blk (w.setCell ⟨b, i, none⟩ v) b (A.setIfInBounds i v) t := heap_setCell_same w b i A t v h
theorem other (h : Blk w b A t) {p : Addr} (hp : b ≠ p.block) (v : Value) : Blk (w.setCell p v) b A t := (Below.heap_setCell w p v b hp).trans h
theorem below {n : Nat} (h : Blk w b A t) (hb : Below n w w') (hn : b < n) : Blk w' b A t := (hb.block b hn).trans h
theorem setRow (h : Blk w b A t) (B : Array Value) : Blk (w.setRow b B) b B t := setRow_heap w b A B t (0, 0) h
theorem setRow_other (h : Blk w b A t) (g : Nat) (hg : b ≠ g) (B : Array Value) : Blk (w.setRow g B) b A t := (Go.setRow_other w g b B hg).trans h
end Blk
/-- A type of aggregates, and how many cells it has. -/
def AggTy (P : Program) (ty : TypeId) (n : Nat) : Prop := ∃ d, P.underlying ty = some d ∧ (match d with | .struct _ | .array _ _ => true | _ => false) = true ∧ (P.info? ty).map (·.size) = some n
/-- A world in which block b holds other cells. -/
structure Rowed (w : World) (b : Nat) (B : Array Value) (t : TypeId) (w' : World) : Prop where
  blk : Blk w' b B t
  size : w'.heap.size = w.heap.size
  heap : ∀ k, k ≠ b → w'.heap[k]? = w.heap[k]?
  cell : ∀ c i, w'.cell? ⟨c, i, none⟩ = if c = b then B[i]? else w.cell? ⟨c, i, none⟩
  free : ∀ c i, w'.frozen? ⟨c, i, none⟩ = if c = b then false else w.frozen? ⟨c, i, none⟩
  other : ∀ {c : Nat} {A : Array Value} {u : TypeId}, Blk w c A u → c ≠ b → Blk w' c A u
  below : ∀ {n : Nat} {W : World}, Below n W w → n ≤ b → Below n W w'
theorem Rowed.of {w : World} {b : Nat} {A B : Array Value} {t : TypeId} (h : Blk w b A t) : Rowed w b B t (w.setRow b B) where
  blk := h.setRow B
  size := by simp
  heap k hk := Go.setRow_other w b k B hk
  cell c i := by
    by_cases hc : c = b
    · subst hc; rw [if_pos rfl]; exact (h.setRow B).cell i
    · rw [if_neg hc]; exact cell_setRow_other w b B ⟨c, i, none⟩ hc
  free c i := by
    by_cases hc : c = b
    · subst hc; rw [if_pos rfl]; exact (h.setRow B).free i
    · rw [if_neg hc]; simp [World.frozen?, Go.setRow_other w b c B hc]
  other h' hc := h'.setRow_other b hc B
  below hb hn := hb.trans ⟨rfl, rfl, rfl, by simp, fun k hk => Go.setRow_other w b k B (by omega)⟩
section
variable {P : Program} {ops : Array Oper} {rest : List Oper} {o : Oper} {a : Act} {w : World} {Q : Exit → Act → World → Prop}
theorem wpList_load_blk (ty : TypeId) (x : Operand) {n : Nat} (hk : AggTy P ty n) (hgd : o.guard = none) (ho : o.op = .load ty x) {b : Nat} (hx : a.eval x = .pointer (some ⟨b, 0, none⟩)) {A : Array Value} {t : TypeId} (hb : Blk w b A t) (hs : A.size = n)
    (h : wpList P ops Q rest (a.put o.dst (.agg A)) w) : wpList P ops Q (o :: rest) a w := by
  obtain ⟨d, hu, hd, hi⟩ := hk
  subst hs
  exact wpList_load_row hgd ty x ho b hx t A (0, 0) d hb hu (by cases d <;> simp at hd ⊢) hi h
theorem wpList_store_blk (ty : TypeId) (x y : Operand) {n : Nat} (hk : AggTy P ty n) (hgd : o.guard = none) (ho : o.op = .store ty x y) {b : Nat} (hx : a.eval x = .pointer (some ⟨b, 0, none⟩)) {B : Array Value} (hy : a.eval y = .agg B) {A : Array Value} {t : TypeId} (hb : Blk w b A t) (hA : A.size = n) (hB : B.size = n)
    (h1 : B.all (·.oneCell') = true) (h : ∀ w', Rowed w b B t w' → wpList P ops Q rest (a.put o.dst undef) w') : wpList P ops Q (o :: rest) a w := by
  obtain ⟨d, hu, hd, hi⟩ := hk
  subst hB
  exact wpList_store_row hgd ty x y ho b B hx hy t A hb hi hA h1 (h _ (Rowed.of hb))
theorem loadVar_blk {ty : TypeId} {n : Nat} (hk : AggTy P ty n) {b : Nat} {A : Array Value} {t : TypeId} (hb : Blk w b A t) (hs : A.size = n) : (loadVar ty ⟨b, 0, none⟩).run P w = .ok (.agg A) w := by
  obtain ⟨d, hu, hd, hi⟩ := hk
  subst hs
  exact run_loadVar_row w b t ty A (0, 0) d hb hu (by cases d <;> simp at hd ⊢) hi
theorem results_cell_blk {fn : Func} {p : Tmp} {ty : TypeId} (h : fn.results = #[.cell p ty]) (tmps : Array Value) {n : Nat} (hk : AggTy P ty n) {b : Nat} (hp : tmps.getD p undef = .pointer (some ⟨b, 0, none⟩)) {A : Array Value} {t : TypeId} (hb : Blk w b A t) (hs : A.size = n) :
    (results fn tmps).run P w = .ok (.agg A) w := by
  have hp' : tmps[p]?.getD undef = .pointer (some ⟨b, 0, none⟩) := by simpa using hp
  simp [results, h, hp', asAddr, loadVar_blk hk hb hs]
theorem results_cell_tmp_blk {fn : Func} {p u : Tmp} {ty : TypeId} (h : fn.results = #[.cell p ty, .tmp u]) (tmps : Array Value) {n : Nat} (hk : AggTy P ty n) {b : Nat} (hp : tmps.getD p undef = .pointer (some ⟨b, 0, none⟩)) {A : Array Value} {t : TypeId} (hb : Blk w b A t) (hs : A.size = n) :
    (results fn tmps).run P w = .ok (.tuple #[.agg A, tmps.getD u undef]) w := by
  rw [results_cell_tmp h, hp]
  simp [asAddr, Result.andThen, loadVar_blk hk hb hs]
end
end Go
/- A slice that is made with room to spare. -/
set_option linter.unusedVariables false
namespace Go
open Go.RowKit
section
variable {P : Program} {ops : Array Oper} {rest : List Oper} {o : Oper} {a : Act} {w : World} {Q : Exit → Act → World → Prop}
theorem madeCells_one (z : Value) (hz : z.cells = #[z]) (m : Nat) : madeCells z.cells m = Array.replicate m z := by
  apply Array.ext_getElem?
  intro i
  rw [hz]
  simp only [madeCells]
  by_cases h : i < m
  · simp [h, Nat.mod_one]
  · simp [h]
theorem wpList_make_blk (hg : o.guard = none) (l c : Operand) (t : TypeId) (hop : o.op = Op.makeSlice t l c) (e : TypeId) (i : TypeInfo) (z : Value) (h1 : P.underlying t = some (.slice e)) (h2 : P.info? e = some i) (h3 : i.zero = some z) (h4 : i.size = 1) (hz1 : z.cells = #[z])
    (kl kc : IntKind) (L C : Int) (k m : Nat) (hl : a.eval l = .int kl L) (hc : a.eval c = .int kc C) (hL : L = (k : Int)) (hC : C = (m : Int)) (hkm : k ≤ m) (b2 : i.bytes * m ≤ 281474976710656) (b3 : m ≤ maxLen)
    (hK : wpList P ops Q rest (a.put o.dst (.slice (some ⟨w.heap.size, 0, none⟩) k m)) (w.alloc (.cells (Array.replicate m z) e))) :
    wpList P ops Q (o :: rest) a w := by
  refine wpList_plain hg fun K hK' => ?_
  subst hL hC
  have h63' : (m : Int) ≤ 9223372036854775807 := by
    have h := b3
    simp [maxLen] at h
    omega
  have hb' : (i.bytes : Int) * (m : Int) ≤ 281474976710656 := by
    have h : ((i.bytes * m : Nat) : Int) ≤ 281474976710656 := by omega
    rwa [Int.natCast_mul] at h
  have hr := run_make (P := P) w t e i z h1 h2 h3 kl kc k m (by omega) (by omega) hb' h63'
  simp only [Int.toNat_natCast, h4, Nat.mul_one, madeCells_one z hz1] at hr
  unfold Oper.wp
  simp [execOp, hop, hl, hc, hr, Result.andThen]
  exact hK' _ _ hK
/-- A block of one-cell elements as an owned row. -/
theorem own_of_blk {b base : Nat} {A : Array Value} {e : TypeId} (h : Blk w b A e) (hb : base ≤ b) {k m : Nat} (hA : A.size = m) (hkm : k ≤ m) (hm : m ≤ maxLen) : w.ownsRow base e 1 (.slice (some ⟨b, 0, none⟩) k m) k (A.toList.take k) :=
  ⟨by simp; omega, .inr ⟨b, m, A, rfl, hb, h, hkm, hm, by omega, by simp⟩⟩
theorem own_cells {base b k m : Nat} {e : TypeId} {xs : List Value} (h : w.ownsRow base e 1 (.slice (some ⟨b, 0, none⟩) k m) k xs) : ∀ i, (hi : i < xs.length) → w.cell? ⟨b, i, none⟩ = some xs[i] := by
  intro i hi
  obtain ⟨hl, h | ⟨g, cap, cur, hv, hg, hh, hn, hc, hs, ht⟩⟩ := h
  · obtain ⟨h, -⟩ := h
    simp at h
  · simp only [Value.slice.injEq, Option.some.injEq, Addr.mk.injEq] at hv
    obtain ⟨⟨rfl, -, -⟩, -, rfl⟩ := hv
    rw [cell_of_row w b i cur e (0, 0) hh]
    have h1 : (cur.toList.take (k * 1))[i]? = some xs[i] := by rw [ht]; simp [hi]
    rw [List.getElem?_take] at h1
    split at h1
    · simpa using h1
    · cases h1
end
end Go
/- More steps of drawn regions. -/
set_option linter.unusedVariables false
namespace Go.Ord
section
variable {P : Program} {H : World → Prop} {Q : Exit → Act → World → Prop} {k : Nat} {l : List (Nat × Nat)} {a : Act} {w : World} {lo : List Oper}
variable {d : Option Tmp} {ty t : TypeId} {pos : String} {af : Array Edge} {g : Option (Nat × Bool)} {x y i : Operand}
/-- An element's address among effects. -/
theorem wild_idx (v : Value) (ho : lo[k]? = some ⟨d, .indexAddr t x i, ty, pos, af, g⟩) (hv : ∀ W, H W → yields P ⟨d, .indexAddr t x i, ty, pos, af, g⟩ a W v)
    (h : ∀ K : Act → World → Prop, (∀ a, walk P lo.toArray H Q l a w → K a w) → wpList P lo.toArray (Exit.then K (fun _ _ _ => False)) [⟨d, .move (.const v), ty, pos, af, g⟩] a w) : walk P lo.toArray H Q ((k, 1) :: l) a w :=
  walk_wild_as ho v hv h
/-- A struct that is built among effects. -/
theorem wild_build (v : Value) {fs : Array (Nat × Operand)} (ho : lo[k]? = some ⟨d, .build t fs, ty, pos, af, g⟩) (hv : ∀ W, H W → yields P ⟨d, .build t fs, ty, pos, af, g⟩ a W v)
    (h : ∀ K : Act → World → Prop, (∀ a, walk P lo.toArray H Q l a w → K a w) → wpList P lo.toArray (Exit.then K (fun _ _ _ => False)) [⟨d, .move (.const v), ty, pos, af, g⟩] a w) : walk P lo.toArray H Q ((k, 1) :: l) a w :=
  walk_wild_as ho v hv h
end
end Go.Ord
/- Drawn regions in which, behind some reads, two effects are ready at once. -/
set_option linter.unusedVariables false
namespace Go.Ord
section
variable {P : Program} {ops : Array Oper} {H : World → Prop} {Q : Exit → Act → World → Prop} {eff : Nat → Bool}
/-- An exit, of which the plain one is another one. -/
def Qn (Q : Exit → Act → World → Prop) (R : Act → World → Prop) : Exit → Act → World → Prop
  | .normal, a, w => R a w
  | e, a, w => Q e a w
/-- Reads alone. -/
def pre (ops : Array Oper) (eff : Nat → Bool) : List (Nat × Nat) → Array Bool → Option (Array Bool)
  | [], listed => some listed
  | (k, c) :: l, listed =>
    if !eff k && decide (c < 2) && (Region.ready .any ops listed).contains k && Region.free .any ops listed k && (c == 1 || calm ops eff k listed) then pre ops eff l (listed.setIfInBounds k true) else none
theorem any_of_pre {R : Act → World → Prop} {m : Nat} {L : Array Bool} (hs : Region.noSelect ops = true) (hQ : ∀ c a d v w, Q (.panic c) (a.put d v) w → Q (.panic c) a w)
    (hR : ∀ a w, H w → R a w → any P ops eff H Q m L a w) :
    ∀ (l : List (Nat × Nat)) (listed : Array Bool) (a : Act) (w : World), listed.size = ops.size → H w →
    pre ops eff l listed = some L → walk P ops H (Qn Q R) l a w → any P ops eff H Q (l.length + m) listed a w
  | [], listed, a, w, _, hw, hB, h => by
    simp only [pre, Option.some.injEq] at hB
    subst hB
    simp only [List.length_nil, Nat.zero_add]
    exact hR a w hw h
  | (k, c) :: l, listed, a, w, hsz, hw, hB, h => by
    rw [pre] at hB
    split at hB
    · rename_i hb
      simp only [Bool.and_eq_true, Bool.or_eq_true, beq_iff_eq, decide_eq_true_eq, Bool.not_eq_true'] at hb
      obtain ⟨⟨⟨⟨he, hc2⟩, hr⟩, hf⟩, hcc⟩ := hb
      rw [walk] at h
      cases ho : ops[k]? with
      | none => simp only [ho] at h
      | some o =>
        simp only [ho] at h
        have hsz' : (listed.setIfInBounds k true).size = ops.size := by simp [hsz]
        have ih : ∀ a w, H w → walk P ops H (Qn Q R) l a w → any P ops eff H Q (l.length + m) (listed.setIfInBounds k true) a w := fun a w h1 h2 => any_of_pre hs hQ hR l _ a w hsz' h1 hB h2
        have hr' : k ∈ Region.ready .any ops listed := by simpa using hr
        have hlen : ((k, c) :: l).length + m = l.length + m + 1 := by simp; omega
        rw [hlen]
        by_cases hwt : Region.wanted o (yielded ops a.tmps) = true
        · simp only [hwt, if_true] at h
          match c, hc2, h with
          | 0, _, h =>
            obtain ⟨v, h1, h2⟩ := h
            have hcalm : calm ops eff k listed = true := hcc.resolve_left (by simp)
            obtain ⟨L', hL⟩ := calm_spec hsz hcalm
            exact any_calm ho he (Region.noSelect_spec hs) (fun c a w => hQ c a _ _ w) (l.length + m) listed a hL (Region.free_spec ho hf) hr' (.inl ⟨hwt, fun w' e => by subst e; exact h1⟩) (ih _ _ hw h2)
          | 1, _, h =>
            obtain ⟨v, h1, h2⟩ := h
            exact any_first ho he (Region.noSelect_spec hs) (fun c a w => hQ c a _ _ w) (l.length + m) listed a w hw (Region.free_spec ho hf) hr' (.inl ⟨hwt, h1⟩) (ih _ _ hw h2)
          | (n + 2), hc2, _ => exact absurd hc2 (by omega)
        · have hwt' : Region.wanted o (yielded ops a.tmps) = false := by simpa using hwt
          simp only [hwt', Bool.false_eq_true, if_false] at h
          exact any_first ho he (Region.noSelect_spec hs) (fun c a w => hQ c a _ _ w) (l.length + m) listed a w hw (Region.free_spec ho hf) hr' (.inr ⟨hwt', rfl⟩) (ih _ _ hw h)
    · cases hB

/-- One of the effects that are ready, and what is behind it. -/
theorem op_of_walk {l : List (Nat × Nat)} {listed : Array Bool} {k : Nat} {a : Act} {w : World} (hs : Region.noSelect ops = true) (hQ : ∀ c a d v w, Q (.panic c) (a.put d v) w → Q (.panic c) a w)
    (hsz : listed.size = ops.size) (hw : H w) (he : eff k = true) (hB : plan ops eff l (listed.setIfInBounds k true) = true) (h : walk P ops H Q ((k, 2) :: l) a w) :
    op P ops eff H Q k (any P ops eff H Q l.length (listed.setIfInBounds k true)) a w := by
  rw [walk] at h
  cases ho : ops[k]? with
  | none => simp only [ho] at h
  | some o =>
    simp only [ho] at h
    have hsz' : (listed.setIfInBounds k true).size = ops.size := by simp [hsz]
    have ih : ∀ a w, H w → walk P ops H Q l a w → any P ops eff H Q l.length (listed.setIfInBounds k true) a w := fun a w h1 h2 => any_of_walk hs hQ l _ a w hsz' h1 hB h2
    unfold op
    simp only [ho, he, if_true]
    split
    · rename_i hwt
      simp only [hwt, if_true] at h
      exact h.imp (Oper.wp_mono (fun a w hk => ⟨hk.1, ih a w hk.1 hk.2⟩)) id
    · rename_i hwt
      simp only [hwt] at h
      exact ih _ _ hw h

/-- The plan: reads 'l0', then the effects 'k1', 'k2' in either order, then each its own rest. -/
def forkOk (ops : Array Oper) (l0 : List (Nat × Nat)) (k1 : Nat) (l1 : List (Nat × Nat)) (k2 : Nat) (l2 : List (Nat × Nat)) : Bool :=
  let eff := fun i => i == k1 || l1.any fun (k, c) => k == i && c == 2
  Region.noSelect ops && l0.length + l1.length + 1 == ops.size && l1.length == l2.length && eff k2 &&
  match pre ops eff l0 (Array.replicate ops.size false) with
  | none => false
  | some L => decide (L.size = ops.size) && decide (Region.ready .any ops L = [k1, k2]) && plan ops eff l1 (L.setIfInBounds k1 true) && plan ops eff l2 (L.setIfInBounds k2 true)
/-- What is owed at the fork. -/
def Fork (P : Program) (ops : Array Oper) (H : World → Prop) (Q : Exit → Act → World → Prop) (k1 : Nat) (l1 : List (Nat × Nat)) (k2 : Nat) (l2 : List (Nat × Nat)) (a : Act) (w : World) : Prop :=
  walk P ops H Q ((k1, 2) :: l1) a w ∧ walk P ops H Q ((k2, 2) :: l2) a w
theorem wp_fork {id : Nat} {a : Act} {w : World} {lo : List Oper} (l0 : List (Nat × Nat)) (k1 : Nat) (l1 : List (Nat × Nat)) (k2 : Nat) (l2 : List (Nat × Nat)) (H : World → Prop) (hm : P.follows .mixedOrders = true)
    (hp : forkOk lo.toArray l0 k1 l1 k2 l2 = true)
    (hQ : ∀ c a d v w, Q (.panic c) (a.put d v) w → Q (.panic c) a w) (hH : H w.drew)
    (h : walk P lo.toArray H (Qn Q (Fork P lo.toArray H Q k1 l1 k2 l2)) l0 a w.drew) : (Code.region id lo.toArray true).wp P Q a w := by
  simp only [forkOk, Bool.and_eq_true, beq_iff_eq] at hp
  obtain ⟨⟨⟨⟨hs, hl⟩, hl2⟩, he2⟩, hp⟩ := hp
  cases hpre : pre lo.toArray (fun i => i == k1 || l1.any fun (k, c) => k == i && c == 2) l0 (Array.replicate lo.toArray.size false) with
  | none => simp only [hpre] at hp; cases hp
  | some L =>
    simp only [hpre, Bool.and_eq_true, decide_eq_true_eq] at hp
    obtain ⟨⟨⟨hsz, hr⟩, hp1⟩, hp2⟩ := hp
    have he1 : (fun i => i == k1 || l1.any fun (k, c) => k == i && c == 2) k1 = true := by simp
    refine wp_region_any hm (wpAny_of_any (H := H) (eff := fun i => i == k1 || l1.any fun (k, c) => k == i && c == 2) _ _ _ _ ?_)
    have h2 := any_of_pre (m := l1.length + 1) (R := Fork P lo.toArray H Q k1 l1 k2 l2) (L := L) (H := H) (P := P) hs hQ (fun a w hw hf => ?_) l0 (Array.replicate lo.toArray.size false) a w.drew (by simp) hH hpre h
    · have e1 : l0.length + (l1.length + 1) = lo.toArray.size := by omega
      rw [e1] at h2
      exact h2
    · refine ⟨fun h0 => (by rw [h0] at hr; cases hr), fun j hj => ?_⟩
      rw [hr] at hj
      rcases List.mem_cons.1 hj with rfl | hj
      · exact op_of_walk hs hQ hsz hw he1 hp1 hf.1
      · have hj2 : j = k2 := by simpa using hj
        subst hj2
        have := op_of_walk (l := l2) hs hQ hsz hw he2 hp2 hf.2
        rw [← hl2] at this
        exact this
end
section
variable {P : Program} {H : World → Prop} {Q : Exit → Act → World → Prop} {a : Act} {w : World} {lo : List Oper} {k1 k2 : Nat} {l1 l2 : List (Nat × Nat)}
theorem at_fork (h1 : walk P lo.toArray H Q ((k1, 2) :: l1) a w) (h2 : walk P lo.toArray H Q ((k2, 2) :: l2) a w) : walk P lo.toArray H (Qn Q (Fork P lo.toArray H Q k1 l1 k2 l2)) [] a w := ⟨h1, h2⟩
end
end Go.Ord
/- What is walked in an activation's frame holds in a round's frame too, where nothing is deferred (at the fence that asks nothing). -/
set_option linter.unusedVariables false
namespace Go
variable {P : Program} {ops : Array Oper} {Q : Exit → Act → World → Prop} {K : Act → World → Prop} {a : Act} {w : World} {o : Oper} {l n : Nat}

def noDefer (o : Oper) : Bool := match o.op with | .defer _ => false | _ => true
theorem noDefer_ne (h : noDefer o = true) : ∀ c, o.op ≠ .defer c := by
  intro c hc
  simp [noDefer, hc] at h

theorem rowsIn_wide' {row : String} {args : Array Value} {R : Value → World → Prop} (h : Rows P row args w R) : RowsIn (Fence.wide.inRound l) n P row args w R := by
  intro c cs hr
  obtain ⟨v, w', r, s⟩ := h c cs
  exact ⟨v, w', r, stepsIn_wide.2 s⟩

theorem Oper.wpIn_of_wp (hd : noDefer o = true) (h : o.wp P a w K Q) : o.wpIn (Fence.wide.inRound l) n P a w K Q := by
  unfold Oper.wpIn
  refine ⟨fun f _ => trivial, ?_⟩
  rw [Oper.semAt_eq _ _ _ (noDefer_ne hd)]
  unfold Oper.wp at h
  generalize (execOp a.eval o).run P w = r at h
  cases r with
  | ok x w' =>
    cases x <;> simp only [Oper.upon, Oper.uponIn] at h ⊢ <;>
      first
        | exact h
        | exact ⟨fun h0 => (by simp [Fence.wide] at h0), CallsIn.inRound l (callsIn_wide.2 h)⟩
        | exact ⟨fun h0 => (by simp [Fence.wide] at h0), rowsIn_wide' h⟩
        | exact h.elim
  | halt x w' => cases x <;> simp only [Oper.upon, Oper.uponIn] at h ⊢ <;> exact h

theorem wpListIn_of (hQ : ¬ LetsOut Q) : ∀ (lo : List Oper) (a : Act) (w : World), (∀ o ∈ lo, noDefer o = true) → wpList P ops Q lo a w → wpListIn (Fence.wide.inRound l) n P ops Q lo a w
  | [], a, w, _, h => h
  | o :: rest, a, w, hd, h => by
    simp only [wpList, wpListIn] at h ⊢
    split
    · rename_i hw
      simp only [hw, if_true] at h
      rcases h with h | h
      · exact Oper.wpIn_mono (fun a w h => wpListIn_of hQ rest a w (fun o ho => hd o (by simp [ho])) h) (Oper.wpIn_of_wp (hd o (by simp)) h)
      · exact absurd h.2 hQ
    · rename_i hw
      simp only [hw] at h
      exact ⟨fun f _ => trivial, wpListIn_of hQ rest _ w (fun o ho => hd o (by simp [ho])) h⟩
theorem wpIn_region_of {id : Nat} {lo : List Oper} (hQ : ¬ LetsOut Q) (hd : lo.all noDefer = true) (h : wpList P lo.toArray Q lo a w) : (Code.region id lo.toArray false).wpIn (Fence.wide.inRound l) n P Q a w :=
  wpIn_region_lit (wpListIn_of hQ lo a w (fun o ho => List.all_eq_true.1 hd o ho) h)

theorem wpAnyIn_of (hQ : ¬ LetsOut Q) (hd : ∀ (i : Nat) (o : Oper), ops[i]? = some o → noDefer o = true) : ∀ (fuel : Nat) (listed : Array Bool) (a : Act) (w : World), wpAny P .any ops Q fuel listed a w → wpAnyIn (Fence.wide.inRound l) n P .any ops Q fuel listed a w
  | 0, _, _, _, h => h
  | fuel + 1, listed, a, w, h => by
    refine ⟨h.1, fun i hi => ?_⟩
    have h2 := h.2 i hi
    unfold wpOp at h2
    unfold wpOpIn
    split
    · rename_i ho
      simp only [ho] at h2
      exact wpAnyIn_of hQ hd fuel _ _ _ h2
    · rename_i o ho
      simp only [ho] at h2
      split
      · rename_i hw
        simp only [hw, if_true] at h2
        rcases h2 with h2 | h2
        · exact Oper.wpIn_mono (fun a w h => wpAnyIn_of hQ hd fuel _ a w h) (Oper.wpIn_of_wp (hd i o ho) h2)
        · exact absurd h2.2 hQ
      · rename_i hw
        simp only [hw] at h2
        exact ⟨fun f _ => trivial, wpAnyIn_of hQ hd fuel _ _ _ h2⟩

/-- A region that draws its order, in a round's frame. -/
theorem Ord.wpIn_region {id : Nat} {lo : List Oper} (hO : ¬ LetsOut Q) (pl : List (Nat × Nat)) (H : World → Prop) (hm : P.follows .mixedOrders = true) (hp : Ord.planOk lo.toArray pl = true) (hd : lo.all noDefer = true)
    (hQ : ∀ c a d v w, Q (.panic c) (a.put d v) w → Q (.panic c) a w) (hH : H w.drew) (h : Ord.walk P lo.toArray H Q pl a w.drew) : (Code.region id lo.toArray true).wpIn (Fence.wide.inRound l) n P Q a w := by
  simp only [Ord.planOk, Bool.and_eq_true, beq_iff_eq] at hp
  obtain ⟨⟨hs, hl⟩, hp⟩ := hp
  refine wpIn_region_any hm (wpAnyIn_of hO (fun i o ho => List.all_eq_true.1 hd o (List.mem_of_getElem? (by simpa using ho))) _ _ _ _ (Ord.wpAny_of_any (H := H) (eff := fun i => pl.any fun (k, c) => k == i && c == 2) _ _ _ _ ?_))
  have h2 := Ord.any_of_walk (H := H) (eff := fun i => pl.any fun (k, c) => k == i && c == 2) hs hQ pl (Array.replicate lo.toArray.size false) a _ (by simp) hH hp h
  rw [hl] at h2
  exact h2
end Go
/- More steps of drawn regions. -/
set_option linter.unusedVariables false
namespace Go.Ord
section
variable {P : Program} {H : World → Prop} {Q : Exit → Act → World → Prop} {k : Nat} {l : List (Nat × Nat)} {a : Act} {w : World} {lo : List Oper}
variable {d : Option Tmp} {ty t t' : TypeId} {pos : String} {af : Array Edge} {g : Option (Nat × Bool)} {x y i : Operand} {bo : BinOp}
/-- A sum, a shift .. among effects. -/
theorem wild_bin (v : Value) (ho : lo[k]? = some ⟨d, .binOp bo t x y t', ty, pos, af, g⟩) (hv : ∀ W, H W → yields P ⟨d, .binOp bo t x y t', ty, pos, af, g⟩ a W v)
    (h : ∀ K : Act → World → Prop, (∀ a, walk P lo.toArray H Q l a w → K a w) → wpList P lo.toArray (Exit.then K (fun _ _ _ => False)) [⟨d, .move (.const v), ty, pos, af, g⟩] a w) : walk P lo.toArray H Q ((k, 1) :: l) a w :=
  walk_wild_as ho v hv h
end
end Go.Ord
