/- Blocks and owned rows; what a walk leaves; appending. (Picked by mkgen.py) -/
import Derived.Test.YteeinehpneppnaaGreatBlk
import Derived.Test.YteeinehpneppnaaGreatBlkB
import Derived.Test.YteeinehpneppnaaGreatRoundK
import Derived.Test.YteeinehpneppnaaGreatOrdD
import Derived.Test.YteeinehpneppnaaGreatOrdE
import Derived.RangeFuncRecord
import Derived.LoopIn
import Derived.BigFrameIn
set_option linter.unusedVariables false
set_option linter.unusedSimpArgs false
namespace Go.Ord
/-- A binary operation among effects. -/
theorem wild_binOp {P : Program} {lo : List Oper} {Q : Exit → Act → World → Prop} {H : World → Prop} {k : Nat} {l : List (Nat × Nat)} {a : Act} {w : World} {d : Option Tmp} {ty t1 t2 : TypeId} {pos : String} {af : Array Edge} {g : Option (Nat × Bool)} {bo : BinOp} {x y : Operand}
    (v : Value) (ho : lo[k]? = some ⟨d, .binOp bo t1 x y t2, ty, pos, af, g⟩) (hr : ∀ W, (execOp a.eval ⟨d, .binOp bo t1 x y t2, ty, pos, af, g⟩).run P W = .ok (.value v) W)
    (h : ∀ K : Act → World → Prop, (∀ a, walk P lo.toArray H Q l a w → K a w) → wpList P lo.toArray (Exit.then K (fun _ _ _ => False)) [⟨d, .move (.const v), ty, pos, af, g⟩] a w) : walk P lo.toArray H Q ((k, 1) :: l) a w :=
  walk_wild_as ho v (fun W _ => by unfold yields; rw [hr W]; exact ⟨rfl, rfl⟩) h
/-- An operation that is not wanted. -/
theorem walk_skip {P : Program} {lo : List Oper} {Q : Exit → Act → World → Prop} {H : World → Prop} {k c : Nat} {l : List (Nat × Nat)} {a : Act} {w : World} {o : Oper} (ho : lo[k]? = some o) (hw : Region.wanted o (yielded lo.toArray a.tmps) = false)
    (h : ∀ K : Act → World → Prop, (∀ a, walk P lo.toArray H Q l a w → K a w) → wpList P lo.toArray (Exit.then K (fun _ _ _ => False)) [{ o with op := .move (.const undef) }] a w) : walk P lo.toArray H Q ((k, c) :: l) a w := by
  have := h (fun a' w' => w' = w ∧ walk P lo.toArray H Q l a' w) (fun _ h => ⟨rfl, h⟩)
  rw [walk]; simp only [at_list ho, hw, Bool.false_eq_true, if_false]
  simp only [wpList] at this
  have hwt : Region.wanted { o with op := .move (.const undef) } (yielded lo.toArray a.tmps) = Region.wanted o (yielded lo.toArray a.tmps) := rfl
  rw [hwt, hw] at this
  exact this.2
/-- The guard: an effect is next. -/
theorem at_eff {P : Program} {ops : Array Oper} {Q : Exit → Act → World → Prop} {H : World → Prop} {k : Nat} {l : List (Nat × Nat)} {a : Act} {w : World} (h : walk P ops H Q ((k, 2) :: l) a w) : walk P ops H Q ((k, 2) :: l) a w := h
end Go.Ord
set_option linter.unusedVariables false
set_option linter.unusedSimpArgs false
namespace Go.Proofs.YteeinehpneppnaaGreat
open Go.RowKit Go.Proofs
/-- Blocks below n are as they were, but those of a list. -/
structure Off (T : List Nat) (n : Nat) (w w' : World) : Prop where
  os : w'.os = w.os
  tape : w'.tape = w.tape
  output : w'.output = w.output
  size : w.heap.size ≤ w'.heap.size
  block : ∀ k, k < n → k ∉ T → w'.heap[k]? = w.heap[k]?
namespace Off
variable {T : List Nat} {n : Nat} {w w' w'' : World}
theorem refl (T : List Nat) (n : Nat) (w : World) : Off T n w w := ⟨rfl, rfl, rfl, Nat.le_refl _, fun _ _ _ => rfl⟩
theorem trans (h : Off T n w w') (k : Off T n w' w'') : Off T n w w'' :=
  ⟨k.os.trans h.os, k.tape.trans h.tape, k.output.trans h.output, Nat.le_trans h.size k.size, fun i hi ht => (k.block i hi ht).trans (h.block i hi ht)⟩
theorem mono {T' : List Nat} {m : Nat} (h : Off T n w w') (hm : m ≤ n) (hT : ∀ k, k < m → k ∈ T → k ∈ T') : Off T' m w w' :=
  ⟨h.os, h.tape, h.output, h.size, fun k hk ht => h.block k (by omega) (fun e => ht (hT k hk e))⟩
theorem of_below {m : Nat} (h : Below m w w') (hm : n ≤ m) : Off T n w w' := ⟨h.os, h.tape, h.output, h.size, fun k hk _ => h.block k (by omega)⟩
theorem below {m : Nat} (h : Off T n w w') (hm : m ≤ n) (hT : ∀ k ∈ T, m ≤ k) : Below m w w' := ⟨h.os, h.tape, h.output, h.size, fun k hk => h.block k (by omega) (fun e => absurd (hT k e) (by omega))⟩
theorem blk (h : Off T n w w') {b : Nat} {A : Array Value} {t : TypeId} (hb : Blk w b A t) (hn : b < n) (ht : b ∉ T) : Blk w' b A t := (h.block b hn ht).trans hb
theorem cell (h : Off T n w w') {a : Addr} (hn : a.block < n) (ht : a.block ∉ T) : w'.cell? a = w.cell? a := World.cell?_of_block (h.block _ hn ht)
theorem of_eq (ho : w'.os = w.os) (ht : w'.tape = w.tape) (hp : w'.output = w.output) (hs : w.heap.size ≤ w'.heap.size) (hb : ∀ k, k < n → k ∉ T → w'.heap[k]? = w.heap[k]?) : Off T n w w' := ⟨ho, ht, hp, hs, hb⟩
theorem alloc (h : Off T n w w') (hn : n ≤ w'.heap.size) (o : Obj) : Off T n w (w'.alloc o) := h.trans (of_below ((Below.refl n w').alloc hn o) (Nat.le_refl _))
theorem drew (h : Off T n w w') : Off T n w w'.drew := ⟨h.os, h.tape, h.output, h.size, h.block⟩
theorem setCell (h : Off T n w w') {p : Addr} (hp : p.block ∈ T ∨ n ≤ p.block) (v : Value) : Off T n w (w'.setCell p v) :=
  h.trans ⟨rfl, rfl, rfl, by simp, fun k hk ht => Below.heap_setCell w' p v k (fun e => by subst e; rcases hp with hp | hp; exact ht hp; omega)⟩
theorem putObj (h : Off T n w w') {p : Nat} (hp : p ∈ T ∨ n ≤ p) (o : Obj) : Off T n w (w'.putObj p o) :=
  h.trans ⟨rfl, rfl, rfl, by simp, fun k hk ht => World.putObj_heap_other (fun e => by subst e; rcases hp with hp | hp; exact ht hp; omega)⟩
theorem rowed {b : Nat} {B : Array Value} {t : TypeId} (h : Off T n w w') (hr : Rowed w' b B t w'') (hp : b ∈ T ∨ n ≤ b) : Off T n w w'' := by
  have hb := hr.below (Below.refl b w') (Nat.le_refl _)
  refine h.trans ⟨hb.os, hb.tape, hb.output, by rw [hr.size]; exact Nat.le_refl _, fun k hk ht => ?_⟩
  exact hr.heap k (fun e => by subst e; rcases hp with hp | hp; exact ht hp; omega)
end Off
def sL : Code → Code
  | .seq a _ => a
  | c => c
def sR : Code → Code
  | .seq _ b => b
  | c => c
def sI : Code → Code
  | .loop c => c
  | .block _ c => c
  | .scope c => c
  | .rangeFunc _ _ _ c => c
  | c => c
theorem news_blk {w : World} {b : Nat} {A : Array Value} {t : TypeId} (h : Blk w b A t) : ∀ (j : Nat) (u : Value), A.toList[j]? = some u → w.cell? ((⟨b, 0, none⟩ : Addr).add j) = some u := by
  intro j u hu
  have : (⟨b, 0, none⟩ : Addr).add j = ⟨b, j, none⟩ := by simp [Addr.add]; try omega
  rw [this, h.cell]
  simpa using hu
/-- A walk is to stop here. -/
def Stop (p : Prop) : Prop := p
theorem at_stop {p : Prop} (h : Stop p) : p := h
theorem own_row {w : World} {base : Nat} {e : TypeId} {size : Nat} {v : Value} {n : Nat} {xs : List Value} (h : w.ownsRow base e size v n xs) : ∀ g, v.ownBlock = some g → base ≤ g := by
  intro g hg
  obtain ⟨hl, ⟨rfl, -⟩ | ⟨g', cap, cur, rfl, hg', hh, hn, hc, hs, ht⟩⟩ := h
  · cases hg
  · simp only [Value.ownBlock, Option.some.injEq] at hg
    omega
theorem own_slice {w : World} {base : Nat} {e : TypeId} {size : Nat} {v : Value} {n : Nat} {xs : List Value} (h : w.ownsRow base e size v n xs) (hn : 0 < n) : ∃ g c, v = .slice (some ⟨g, 0, none⟩) n c := by
  obtain ⟨hl, ⟨-, h0⟩ | ⟨g', cap, cur, rfl, hg', hh, hn, hc, hs, ht⟩⟩ := h
  · omega
  · exact ⟨_, _, rfl⟩
theorem own_nil3 {w : World} {base : Nat} {e : TypeId} {v : Value} {n : Nat} {xs : List Value} (h : w.ownsRow base e 3 v n xs) : ∃ a c, v = .slice a n c := by
  obtain ⟨hl, ⟨rfl, h0⟩ | ⟨g, cap, cur, rfl, hg, hh, hn, hc, hs, ht⟩⟩ := h
  · exact ⟨none, 0, by rw [h0]⟩
  · exact ⟨_, _, rfl⟩
theorem ownBlock_ne {w : World} {b1 b2 s1 s2 n1 n2 : Nat} {e1 e2 : TypeId} {v1 v2 : Value} {x1 x2 : List Value} (h1 : w.ownsRow b1 e1 s1 v1 n1 x1) (h2 : w.ownsRow b2 e2 s2 v2 n2 x2) (he : e1 ≠ e2) : v1.ownBlock = none ∨ v1.ownBlock ≠ v2.ownBlock := by
  obtain ⟨-, ⟨rfl, -⟩ | ⟨g, cap, cur, rfl, -, hh, -⟩⟩ := h1
  · left; rfl
  · right
    obtain ⟨-, ⟨rfl, -⟩ | ⟨g', cap', cur', rfl, -, hh', -⟩⟩ := h2
    · simp [Value.ownBlock]
    · intro e
      simp only [Value.ownBlock, Option.some.injEq] at e
      subst e
      rw [hh] at hh'
      simp only [Option.some.injEq, Obj.cells.injEq] at hh'
      exact he hh'.2.1
theorem own_move {w w' : World} {base base' : Nat} {e : TypeId} {size : Nat} {v : Value} {n : Nat} {xs : List Value} (h : w.ownsRow base e size v n xs) (hb : base' ≤ base) (hk : ∀ g, v.ownBlock = some g → w'.heap[g]? = w.heap[g]?) : w'.ownsRow base' e size v n xs := by
  obtain ⟨hl, h | ⟨g, cap, cur, rfl, hg, hh, r⟩⟩ := h
  · exact ⟨hl, .inl h⟩
  · exact ⟨hl, .inr ⟨g, cap, cur, rfl, by omega, (hk g rfl).trans hh, r⟩⟩
theorem own_ne_blk {w : World} {base : Nat} {e t : TypeId} {size : Nat} {v : Value} {n b : Nat} {xs : List Value} {A : Array Value} (h : w.ownsRow base e size v n xs) (hb : Blk w b A t) (he : e ≠ t) : v.ownBlock ≠ some b := by
  obtain ⟨-, ⟨rfl, -⟩ | ⟨g, cap, cur, rfl, -, hh, -⟩⟩ := h
  · simp [Value.ownBlock]
  · intro e'
    simp only [Value.ownBlock, Option.some.injEq] at e'
    subst e'
    rw [show w.heap[g]? = _ from hb] at hh
    simp only [Option.some.injEq, Obj.cells.injEq] at hh
    exact he hh.2.1.symm
theorem own_store {w w' : World} {base base' : Nat} {e t : TypeId} {size : Nat} {v : Value} {n b : Nat} {xs : List Value} {A : Array Value} (h : w.ownsRow base e size v n xs) (hb : base' ≤ base) (h1 : Blk w b A t) (he : e ≠ t) (hk : ∀ k, k ≠ b → w'.heap[k]? = w.heap[k]?) : w'.ownsRow base' e size v n xs :=
  own_move h hb fun g hg => hk g fun e' => own_ne_blk h h1 he (e' ▸ hg)
/-- A list's cells, or nil. -/
def SrcAt (w : World) (sv : Value) (m size : Nat) (news : List Value) : Prop :=
  news.length = m * size ∧ ((∃ c, sv = .slice none m c ∧ m = 0) ∨ ∃ ad c, sv = .slice (some ad) m c ∧ ∀ j u, news[j]? = some u → w.cell? (ad.add j) = some u)
section
variable {P : Program} {w : World}
theorem run_append_none (base : Nat) (t ty e : TypeId) (i : TypeInfo) (ht : P.underlying t = some (.slice e)) (hi : P.info? e = some i)
    (v : Value) (n : Nat) (size : Nat) (xs : List Value) (hown : w.ownsRow base e size v n xs) (c : Nat) :
    (Builtin.append_ #[t, t] ty #[v, .slice none 0 c]).run P w = .ok v w := by
  rcases hown.2 with ⟨rfl, rfl⟩ | ⟨g, cap, cur, rfl, hbg, hg, hnc, hcm, hcs, htake⟩
  · simp [Builtin.append_, run_underlying ht, sizeOf, typeInfo, hi, Builtin.lenOf, Builtin.firstCells]
  · simp [Builtin.append_, run_underlying ht, sizeOf, typeInfo, hi, Builtin.lenOf, Builtin.firstCells, storeCells, hnc]
theorem wpList_append_src {ops : Array Oper} {rest : List Oper} {o : Oper} {a : Act} {Q : Exit → Act → World → Prop} (hgd : o.guard = none) (s x : Operand) (t : TypeId)
    (ho : o.op = .call { callee := .builtin .append, args := #[s, x], argTypes := #[t, t] })
    (base : Nat) (e : TypeId) (i : TypeInfo) (z : Value) (size bytes : Nat) (ht : P.underlying t = some (.slice e)) (hi : P.info? e = some i) (hz : i.zero = some z)
    (hsize : i.size = size) (hby : i.bytes = bytes) (hzs : z.cells.size = size) (hsz : 0 < size)
    (v : Value) (n : Nat) (xs : List Value) (hs : a.eval s = v) (hown : w.ownsRow base e size v n xs)
    (sv : Value) (m : Nat) (news : List Value) (hx : a.eval x = sv) (hsrc : SrcAt w sv m size news) (h1 : ∀ u ∈ news, u.oneCell' = true)
    (h63 : n + m ≤ maxLen) (hbytes : (n + m) * bytes ≤ 140737488355328) (hbase : base ≤ w.heap.size)
    (h : ∀ v' w', w'.ownsRow base e size v' (n + m) (xs ++ news) → w.grownBy w' v.ownBlock → wpList P ops Q rest (a.put o.dst v') w') : wpList P ops Q (o :: rest) a w := by
  obtain ⟨hl, ⟨c, rfl, rfl⟩ | ⟨ad, c, rfl, hnews⟩⟩ := hsrc
  · have hn : news = [] := List.eq_nil_of_length_eq_zero (by simpa using hl)
    subst hn
    refine wpList_plain hgd fun K hK => ?_
    have hr := run_append_none (P := P) (w := w) base t o.type e i ht hi v n size xs hown c
    unfold Oper.wp execOp
    simp only [ho, resolve, invoke, builtin, Sem.run_bind, Sem.run_pure, Result.andThen_ok, List.map_toArray, List.map_cons, List.map_nil, hs, hx, hr]
    refine hK _ _ (h v w (by simpa using hown) ⟨rfl, rfl, rfl, Nat.le_refl _, fun _ _ _ => rfl⟩)
  · exact wpList_append_own w hgd s x t ho base e i z size bytes ht hi hz hsize hby hzs hsz v n xs hs hown ad m c news hx hl hnews h1 h63 hbytes hbase (fun v' w' h2 h3 _ => h v' w' h2 h3)
end
end Go.Proofs.YteeinehpneppnaaGreat
