/- Parts of a proof: Rng, MoA. -/
import Derived.Test.YteeinehpneppnaaQ05
import Derived.RangeFuncNested
import Derived.Test.YteeinehpneppnaaQ06
import Derived.Test.YteeinehpneppnaaQ03
set_option linter.unusedVariables false
set_option linter.unusedSimpArgs false
namespace Go
open Go.RowKit
theorem RowKit.Below.undrew {w w' : World} (h : Below w.drew.heap.size w.drew w') : Below w.heap.size w w' := (Below.refl _ w).drew.trans h
/-- Blocks that X does not name are as they were. -/
structure Lets (X : Nat → Option Obj → Prop) (w w' : World) : Prop where
  os : w'.os = w.os
  tape : w'.tape = w.tape
  output : w'.output = w.output
  size : w.heap.size ≤ w'.heap.size
  block : ∀ k, k < w.heap.size → ¬ X k w.heap[k]? → w'.heap[k]? = w.heap[k]?
namespace Lets
variable {X Y : Nat → Option Obj → Prop} {w w' w'' : World}
theorem refl (X : Nat → Option Obj → Prop) (w : World) : Lets X w w := ⟨rfl, rfl, rfl, Nat.le_refl _, fun _ _ _ => rfl⟩
theorem trans (h : Lets X w w') (k : Lets X w' w'') : Lets X w w'' :=
  ⟨k.os.trans h.os, k.tape.trans h.tape, k.output.trans h.output, Nat.le_trans h.size k.size, fun i hi hx => by
    have e := h.block i hi hx
    exact (k.block i (by have := h.size; omega) (by rw [e]; exact hx)).trans e⟩
theorem mono (h : Lets X w w') (hm : ∀ k, k < w.heap.size → X k w.heap[k]? → Y k w.heap[k]?) : Lets Y w w' :=
  ⟨h.os, h.tape, h.output, h.size, fun k hk hy => h.block k hk fun hx => hy (hm k hk hx)⟩
theorem of_below (h : Below w.heap.size w w') : Lets X w w' := ⟨h.os, h.tape, h.output, h.size, fun k hk _ => h.block k hk⟩
theorem none {w w' : World} (h : Lets (fun _ _ => False) w w') : Below w.heap.size w w' := ⟨h.os, h.tape, h.output, h.size, fun k hk => h.block k hk (fun e => e)⟩
theorem below {n : Nat} (h : Lets X w w') (hn : n ≤ w.heap.size) (hx : ∀ k, k < n → ¬ X k w.heap[k]?) : Below n w w' := ⟨h.os, h.tape, h.output, h.size, fun k hk => h.block k (by omega) (hx k hk)⟩
theorem alloc (h : Lets X w w') (o : Obj) : Lets X w (w'.alloc o) := h.trans (of_below ((Below.refl _ _).alloc (Nat.le_refl _) _))
theorem drew (h : Lets X w w') : Lets X w w'.drew := ⟨h.os, h.tape, h.output, h.size, h.block⟩
theorem setCell (h : Lets X w w') {p : Addr} (hp : X p.block w'.heap[p.block]?) (v : Value) : Lets X w (w'.setCell p v) :=
  h.trans ⟨rfl, rfl, rfl, by simp, fun k hk hx => Below.heap_setCell w' p v k (fun e => by subst e; exact hx hp)⟩
theorem putObj (h : Lets X w w') {p : Nat} (hp : X p w'.heap[p]?) (o : Obj) : Lets X w (w'.putObj p o) :=
  h.trans ⟨rfl, rfl, rfl, by simp, fun k hk hx => World.putObj_heap_other (fun e => by subst e; exact hx hp)⟩
theorem rowed {b : Nat} {B : Array Value} {t : TypeId} (h : Lets X w w') (hr : Rowed w' b B t w'') (hp : X b w'.heap[b]?) : Lets X w w'' := by
  have hb := hr.below (Below.refl b w') (Nat.le_refl _)
  refine h.trans ⟨hb.os, hb.tape, hb.output, by rw [hr.size]; exact Nat.le_refl _, fun k hk hx => ?_⟩
  exact hr.heap k (fun e => by subst e; exact hx hp)
theorem grown {row : Option Nat} (h : Lets X w w') (hg : w'.grownBy w'' row) (hr : ∀ k, row = some k → k < w'.heap.size → X k w'.heap[k]?) : Lets X w w'' :=
  h.trans ⟨hg.os, hg.tape, hg.output, hg.size, fun k hk hx => hg.block k hk (fun e => hx (hr k e.symm hk))⟩
theorem blk (h : Lets X w w') {b : Nat} {A : Array Value} {t : TypeId} (hb : Blk w b A t) (hx : ¬ X b w.heap[b]?) : Blk w' b A t := (h.block b hb.lt hx).trans hb
theorem cell (h : Lets X w w') {a : Addr} {v : Value} (hc : w.cell? a = some v) (hx : ¬ X a.block w.heap[a.block]?) : w'.cell? a = some v := (World.cell?_of_block (h.block _ (World.block_lt_of_cell? w _ hc) hx)).trans hc
theorem next (h : Lets X w w') (k : Lets Y w' w'') (hY : ∀ i, i < w.heap.size → ¬ X i w.heap[i]? → ¬ Y i w'.heap[i]?) : Lets X w w'' :=
  ⟨k.os.trans h.os, k.tape.trans h.tape, k.output.trans h.output, Nat.le_trans h.size k.size, fun i hi hx => (k.block i (by have := h.size; omega) (hY i hi hx)).trans (h.block i hi hx)⟩
end Lets

/-- The contract of an iterator at a call of it: it yields these; XI: what it may turn itself; XR: what a round may turn; Mid: what holds at each round's begin and end. -/
def SeqAt {α : Type} (P : Program) (gf : Nat) (lb : Array Value) (encs : α → Array Value) (xs : List α) (XI XR : Nat → Option Obj → Prop) (Mid : World → Prop) (l : Nat) (W : World) : Prop :=
  ∀ (J : Nat → World → Prop) (Jx : World → Prop),
    (∀ k A B, J k A → Lets XI A B → J k B) → (∀ A B, Jx A → Lets XI A B → Jx B) →
    (∀ k (h : k < xs.length) W1, J k W1 → Mid W1 → YieldAt Fence.wide 0 P l (encs xs[k]) W1 fun e W' =>
      Lets XR W1 W' ∧ Mid W' ∧ ((e = .returned (.bool true) ∧ J (k + 1) W') ∨ (e = .returned (.bool false) ∧ Jx W'))) →
    J 0 W → CallsIn Fence.wide 0 P gf (#[.func (.yield l) #[] #[]] ++ lb) W fun e W' => (∃ v, e = .returned v) ∧ Mid W' ∧ (J xs.length W' ∨ Jx W')

/-- How a round's body may be left. -/
def rngPost (XB : Nat → Option Obj → Prop) (Mid : World → Prop) (I : World → Prop) (Ix : Code → World → Prop) (W : World) : Exit → Act → World → Prop
  | .normal, _, W' => Lets XB W W' ∧ Mid W' ∧ I W'
  | .ret, _, W' => Lets XB W W' ∧ Mid W' ∧ Ix .ret W'
  | .exit id, _, W' => Lets XB W W' ∧ Mid W' ∧ Ix (.exit id) W'
  | .goto t, _, W' => Lets XB W W' ∧ Mid W' ∧ Ix (.goto t) W'
  | .panic _, _, _ => False
  | .outgrown, _, _ => False
theorem below_lets {n : Nat} {X : Nat → Option Obj → Prop} {w A B : World} (h : RowKit.Below n w A) (hl : Lets X A B) (hn : n ≤ w.heap.size) (hx : ∀ k o, k < n → ¬ X k o) : RowKit.Below n w B :=
  h.trans ⟨hl.os, hl.tape, hl.output, hl.size, fun k hk => hl.block k (by have := h.size; omega) (hx k _ hk)⟩
theorem blk_lets {X : Nat → Option Obj → Prop} {A B : World} {b : Nat} {c : Array Value} {t : TypeId} (h : Blk A b c t) (hl : Lets X A B) (hx : ∀ o, ¬ X b o) : Blk B b c t := hl.blk h (hx _)
/-- Leaving with one mark. -/
theorem post_ret1 {P : Program} {fn : Func} {v : Value} {a : Act} {w : World} {R : Ending → World → Prop} {D : Nat} (hd : a.defers = [{ target := .collected D, args := #[] }]) (hD : w.heap[D]? = some (.deferred (some [])))
    (h : ∀ w', Lets (fun k _ => k = D) w w' → w'.heap.size = w.heap.size → (results fn a.tmps).run P w' = .ok v w' ∧ R (.returned v) w') : bodyPostM Fence.wide 0 P fn R .ret a w := by
  show LeavesInM _ _ _ _ _ _ a.defers _ _
  rw [hd]
  refine ⟨by simp, .inl ⟨D, w.putObj D (.deferred none), rfl, run_takeDeferred hD, ?_⟩⟩
  have := h (w.putObj D (.deferred none)) ((Lets.refl _ _).putObj rfl _) (by simp)
  exact ⟨v, this.1, this.2⟩
variable {P : Program}
/-- What is asked of a round: assignment, body. -/
def RoundOk (P : Program) (L : Nat) (XB : Nat → Option Obj → Prop) (Mid : World → Prop) (I0 I1 : World → Prop) (Ix : Code → World → Prop) (assign body : Code) (tmps : Array Value) (W : World) : Prop :=
  assign.wpIn (Fence.wide.inRound L) 0 P (Exit.then (fun a₁ W₁ => Lets (fun _ _ => False) W W₁ ∧ ∀ W₂, Lets (fun j _ => j = L) W₁ W₂ → W₂.heap.size = W₁.heap.size → I0 W₂ → Mid W₂ →
    body.wpIn (Fence.wide.inRound L) 0 P (rngPost XB Mid I1 Ix W₂) a₁ W₂) (fun _ _ _ => False)) { tmps, defers := [] } W

theorem range_core {α : Type} {gf : Nat} {lb : Array Value} {encs : α → Array Value} {xs : List α} {XI XB : Nat → Option Obj → Prop} {Mid : World → Prop} {I : Nat → World → Prop} {Ix : Code → World → Prop} {L D : Nat} {W1 : World}
    {fn : FuncId} {tmps : Array Value} {ps : Array Tmp} {assign body : Code}
    (hL : W1.heap[L]? = some (.loop { state := .ready, pending := none, fn, tmps, params := ps, assign, body, defers := D }))
    (hps : ∀ x, (encs x).size = ps.size)
    (hseq : SeqAt P gf lb encs xs XI (fun j o => XB j o ∨ j = L) Mid L W1)
    (hXI : ∀ o, ¬ XI L o) (hXB : ∀ o, ¬ XB L o)
    (hI : ∀ k A B, I k A → Lets XI A B → I k B) (hIx : ∀ c A B, Ix c A → Lets XI A B → Ix c B)
    (hI2 : ∀ k A B, I k A → Lets (fun j _ => j = L) A B → I k B) (hIx2 : ∀ c A B, Ix c A → Lets (fun j _ => j = L) A B → Ix c B) (hM2 : ∀ A B, Mid A → Lets (fun j _ => j = L) A B → Mid B)
    (h0 : I 0 W1)
    (hround : ∀ k (h : k < xs.length) W, I k W → Mid W → (∃ r, W.heap[L]? = some (.loop r) ∧ r.defers = D) → RoundOk P L XB Mid (I k) (I (k + 1)) Ix assign body ((ps.zip (encs xs[k])).foldl (fun t (p, v) => t.setIfInBounds p v) tmps) W) :
    CallsIn Fence.wide 0 P gf (#[.func (.yield L) #[] #[]] ++ lb) W1 fun e W2 => (∃ v, e = .returned v) ∧
      ((∃ W', (Instr.endLoop L).run P W2 = .ok none W' ∧ I xs.length W' ∧ Mid W') ∨ (∃ c W', (Instr.endLoop L).run P W2 = .ok (some c) W' ∧ Ix c W' ∧ Mid W')) := by
  obtain ⟨rec, hrec⟩ : ∃ rec : LoopState → Option Code → Loop, rec = fun st pe => { state := st, pending := pe, fn, tmps, params := ps, assign, body, defers := D } := ⟨_, rfl⟩
  have hL1 : W1.heap[L]? = some (.loop (rec .ready none)) := by rw [hrec]; exact hL
  clear hL
  have hturn : ∀ (A : World) (o : Obj), Lets (fun j _ => j = L) A (A.putObj L o) := fun A o => (Lets.refl _ _).putObj rfl _
  refine (hseq (fun k W => I k W ∧ W.heap[L]? = some (.loop (rec .ready none))) (fun W => ∃ c, Ix c W ∧ W.heap[L]? = some (.loop (rec .done (some c))))
    (fun k A B h hl => ⟨hI k A B h.1 hl, (hl.block L (Array.getElem?_eq_some_iff.1 h.2).1 (hXI _)).trans h.2⟩)
    (fun A B h hl => by obtain ⟨c, h1, h2⟩ := h; exact ⟨c, hIx c A B h1 hl, (hl.block L (Array.getElem?_eq_some_iff.1 h2).1 (hXI _)).trans h2⟩)
    ?_ ⟨h0, hL1⟩).mono ?_
  · rintro k hk W ⟨hi, hl⟩ hmid
    have hlt : L < W.heap.size := (Array.getElem?_eq_some_iff.1 hl).1
    have hy := run_yield (P := P) (args := encs xs[k]) hl (by rw [hrec]; exact hps _)
    rw [hrec] at hy
    refine ⟨fn, _, assign, body, hy, roundIn_of_wpIn trivial (wpIn_mono (hround k hk W hi hmid ⟨_, hl, by rw [hrec]⟩) ?_)⟩
    clear hy
    rintro e a₁ Wa ha
    cases e with
    | normal =>
      obtain ⟨hWa, hbody⟩ := ha
      have hla : Wa.heap[L]? = some (.loop (rec .ready none)) := (hWa.block L hlt (fun e => e)).trans hl
      have hlta : L < Wa.heap.size := (Array.getElem?_eq_some_iff.1 hla).1
      refine ⟨_, run_beginRound hla (by rw [hrec]), ?_⟩
      obtain ⟨W₂, hW₂⟩ : ∃ W₂, Wa.putObj L (.loop { rec .ready none with state := .busy }) = W₂ := ⟨_, rfl⟩
      rw [hW₂]
      have h2 : Lets (fun j _ => j = L) Wa W₂ := by rw [← hW₂]; exact hturn _ _
      have hl2 : W₂.heap[L]? = some (.loop { rec .ready none with state := .busy }) := by rw [← hW₂]; exact World.putObj_heap_same hlta
      have hs2 : W₂.heap.size = Wa.heap.size := by rw [← hW₂]; simp
      have hWa' : Lets (fun j _ => j = L) W Wa := hWa.mono (fun _ _ e => e.elim)
      refine wpIn_mono (hbody W₂ h2 hs2 (hI2 k _ _ hi (hWa'.trans h2)) (hM2 _ _ hmid (hWa'.trans h2))) ?_
      have fin : ∀ (jump : Option Code) (W3 : World), Lets XB W₂ W3 →
          (Instr.endRound L jump).run P W3 = .ok (.bool jump.isNone) (W3.putObj L (.loop (rec (if jump.isNone then .ready else .done) jump))) ∧
          (W3.putObj L (.loop (rec (if jump.isNone then .ready else .done) jump))).heap[L]? = some (.loop (rec (if jump.isNone then .ready else .done) jump)) ∧
          Lets (fun j o => XB j o ∨ j = L) W (W3.putObj L (.loop (rec (if jump.isNone then .ready else .done) jump))) := fun jump W3 h3 => by
        have hl3 := (h3.block L (Array.getElem?_eq_some_iff.1 hl2).1 (hXB _)).trans hl2
        have := run_endRound (P := P) jump hl3
        rw [hrec] at this ⊢
        refine ⟨this, World.putObj_heap_same (Array.getElem?_eq_some_iff.1 hl3).1, ?_⟩
        exact ((((hWa'.trans h2).mono (fun _ _ e => .inr e)) : Lets (fun j o => XB j o ∨ j = L) W W₂).trans (h3.mono (fun _ _ e => .inl e))).putObj (.inr rfl) _
      rintro e a3 W3 hp
      cases e with
      | normal =>
        obtain ⟨h3, hm3, hi3⟩ := hp
        obtain ⟨hr, hl4, h4⟩ := fin none W3 h3
        exact ⟨_, _, hr, h4, hM2 _ _ hm3 (hturn _ _), .inl ⟨rfl, hI2 _ _ _ hi3 (hturn _ _), hl4⟩⟩
      | ret =>
        obtain ⟨h3, hm3, hi3⟩ := hp
        obtain ⟨hr, hl4, h4⟩ := fin (some .ret) W3 h3
        exact ⟨_, _, hr, h4, hM2 _ _ hm3 (hturn _ _), .inr ⟨rfl, .ret, hIx2 _ _ _ hi3 (hturn _ _), hl4⟩⟩
      | exit id =>
        obtain ⟨h3, hm3, hi3⟩ := hp
        obtain ⟨hr, hl4, h4⟩ := fin (some (.exit id)) W3 h3
        exact ⟨_, _, hr, h4, hM2 _ _ hm3 (hturn _ _), .inr ⟨rfl, .exit id, hIx2 _ _ _ hi3 (hturn _ _), hl4⟩⟩
      | goto t =>
        obtain ⟨h3, hm3, hi3⟩ := hp
        obtain ⟨hr, hl4, h4⟩ := fin (some (.goto t)) W3 h3
        exact ⟨_, _, hr, h4, hM2 _ _ hm3 (hturn _ _), .inr ⟨rfl, .goto t, hIx2 _ _ _ hi3 (hturn _ _), hl4⟩⟩
      | panic ch => exact hp.elim
      | outgrown => exact hp.elim
    | ret => exact ha.elim
    | exit id => exact ha.elim
    | goto t => exact ha.elim
    | panic ch => exact ha.elim
    | outgrown => exact ha.elim
  · rintro e W2 ⟨hv, hm, (⟨hi, hl⟩ | ⟨c, hi, hl⟩)⟩
    · refine ⟨hv, .inl ⟨W2.putObj L (.loop (rec .exhausted none)), ?_, hI2 _ _ _ hi (hturn _ _), hM2 _ _ hm (hturn _ _)⟩⟩
      exact (by have := run_endLoop (P := P) hl (by rw [hrec]; simp); rw [hrec] at this ⊢; exact this)
    · refine ⟨hv, .inr ⟨c, W2.putObj L (.loop (rec .exhausted (some c))), ?_, hIx2 _ _ _ hi (hturn _ _), hM2 _ _ hm (hturn _ _)⟩⟩
      exact (by have := run_endLoop (P := P) hl (by rw [hrec]; simp); rw [hrec] at this ⊢; exact this)

/-- An outermost loop. -/
theorem wp_range {α : Type} {g : Operand} {ps : Array Tmp} {assign body : Code} {Q : Exit → Act → World → Prop} {a : Act} {w : World} {gf : Nat} {lb : Array Value}
    {encs : α → Array Value} {xs : List α} {XI XB : Nat → Option Obj → Prop} {Mid : World → Prop} (I : Nat → World → Prop) (Ix : Code → World → Prop)
    (hg : a.eval g = .func (.func gf) #[] lb) (eg : ∀ args w, (callFunc gf args).run P w = .ok (.enter gf args) w) (hps : ∀ x, (encs x).size = ps.size)
    (hseq : ∀ W1, Below w.heap.size w W1 → W1.heap.size = w.heap.size + 2 → SeqAt P gf lb encs xs XI (fun j o => XB j o ∨ j = w.heap.size + 1) Mid (w.heap.size + 1) W1)
    (hXI : ∀ j o, w.heap.size ≤ j → j ≤ w.heap.size + 1 → ¬ XI j o) (hXB : ∀ j o, w.heap.size ≤ j → j ≤ w.heap.size + 1 → ¬ XB j o)
    (hI : ∀ k A B, I k A → Lets XI A B → I k B) (hIx : ∀ c A B, Ix c A → Lets XI A B → Ix c B)
    (hI2 : ∀ k A B, I k A → Lets (fun j _ => w.heap.size ≤ j ∧ j ≤ w.heap.size + 1) A B → I k B) (hIx2 : ∀ c A B, Ix c A → Lets (fun j _ => w.heap.size ≤ j ∧ j ≤ w.heap.size + 1) A B → Ix c B) (hM2 : ∀ A B, Mid A → Lets (fun j _ => w.heap.size ≤ j ∧ j ≤ w.heap.size + 1) A B → Mid B)
    (h0 : I 0 w)
    (hround : ∀ k (h : k < xs.length) W, I k W → Mid W → w.heap.size + 2 ≤ W.heap.size → (∃ r, W.heap[w.heap.size + 1]? = some (.loop r)) → RoundOk P (w.heap.size + 1) XB Mid (I k) (I (k + 1)) Ix assign body ((ps.zip (encs xs[k])).foldl (fun t (p, v) => t.setIfInBounds p v) a.tmps) W)
    (hdone : ∀ W, I xs.length W → Mid W → W.heap[w.heap.size]? = some (.deferred (some [])) → Q .normal { a with defers := { target := .collected w.heap.size, args := #[] } :: a.defers } W)
    (hstop : ∀ c W, Ix c W → Mid W → W.heap[w.heap.size]? = some (.deferred (some [])) → c.wpIn Fence.wide 0 P Q { a with defers := { target := .collected w.heap.size, args := #[] } :: a.defers } W) :
    (Code.rangeFunc g ps assign body).wpIn Fence.wide 0 P Q a w := by
  refine wpIn_rangeFunc ?_
  intro fn _
  obtain ⟨W1, hW1⟩ : ∃ W1, (w.alloc (.deferred (some []))).alloc (.loop { state := .ready, pending := none, fn, tmps := a.tmps, params := ps, assign, body, defers := w.heap.size }) = W1 := ⟨_, rfl⟩
  have hL1 : W1.heap[w.heap.size + 1]? = some (.loop { state := .ready, pending := none, fn, tmps := a.tmps, params := ps, assign, body, defers := w.heap.size }) := by
    rw [← hW1]; have := World.alloc_heap_new (w.alloc (.deferred (some []))) (.loop { state := .ready, pending := none, fn, tmps := a.tmps, params := ps, assign, body, defers := w.heap.size }); rwa [World.size_alloc] at this
  have hK1 : W1.heap[w.heap.size]? = some (.deferred (some [])) := by
    rw [← hW1]; exact (Below.heap_alloc _ _ _ (by simp)).trans (World.alloc_heap_new w _)
  have hb1 : Below w.heap.size w W1 := by rw [← hW1]; exact ((Below.refl _ w).alloc (Nat.le_refl _) _).alloc (by simp) _
  have hs1 : W1.heap.size = w.heap.size + 2 := by rw [← hW1]; simp
  have hn1 : ∀ Y, Lets Y w W1 := fun Y => Lets.of_below hb1
  have hLD : ∀ {A B : World}, Lets (fun j _ => j = w.heap.size + 1) A B → Lets (fun j _ => w.heap.size ≤ j ∧ j ≤ w.heap.size + 1) A B := fun h => h.mono (fun k _ e => by omega)
  have hkeep : ∀ {A B : World} {Y : Nat → Option Obj → Prop}, Lets Y A B → ¬ Y w.heap.size A.heap[w.heap.size]? → A.heap[w.heap.size]? = some (.deferred (some [])) → B.heap[w.heap.size]? = some (.deferred (some [])) := fun h hy hd => (h.block _ (Array.getElem?_eq_some_iff.1 hd).1 hy).trans hd
  refine ⟨w.heap.size + 1, [{ target := .collected w.heap.size, args := #[] }], W1, { target := .fn (.func gf) lb, args := #[.func (.yield (w.heap.size + 1)) #[] #[]] }, W1, gf,
    #[.func (.yield (w.heap.size + 1)) #[] #[]] ++ lb, W1, ?_, ?_, fun _ _ => trivial, ?_, fun h => by simp [Fence.wide] at h, ?_⟩
  · rw [← hW1]; exact run_enterLoop_outer _ _ _ _ _
  · simp only [resolve, hg]
    simp [go_sem]
  · simp [invoke, go_sem, eg]
  · refine (range_core (I := fun k W => I k W ∧ W.heap[w.heap.size]? = some (.deferred (some [])) ∧ w.heap.size + 2 ≤ W.heap.size) (Ix := fun c W => Ix c W ∧ W.heap[w.heap.size]? = some (.deferred (some []))) hL1 hps (hseq W1 hb1 hs1) (fun o => hXI _ o (by omega) (by omega)) (fun o => hXB _ o (by omega) (by omega))
      (fun k A B h hl => ⟨hI k A B h.1 hl, hkeep hl (hXI _ _ (Nat.le_refl _) (by omega)) h.2.1, by have := hl.size; omega⟩) (fun c A B h hl => ⟨hIx c A B h.1 hl, hkeep hl (hXI _ _ (Nat.le_refl _) (by omega)) h.2⟩)
      (fun k A B h hl => ⟨hI2 k A B h.1 (hLD hl), hkeep hl (by omega) h.2.1, by have := hl.size; omega⟩) (fun c A B h hl => ⟨hIx2 c A B h.1 (hLD hl), hkeep hl (by omega) h.2⟩)
      (fun A B h hl => hM2 A B h (hLD hl)) ⟨hI2 0 _ _ h0 (hn1 _), hK1, by omega⟩ ?_).mono ?_
    · rintro k hk W ⟨hi, hd, hsz⟩ hm ⟨r, hr, -⟩
      have h := hround k hk W hi hm hsz ⟨r, hr⟩
      unfold RoundOk at h ⊢
      refine wpIn_mono h ?_
      rintro e a₁ Wa ha
      cases e with
      | normal =>
        obtain ⟨h1, h2⟩ := ha
        refine ⟨h1, fun W₂ hl hs hi2 hm2 => wpIn_mono (h2 W₂ hl hs hi2.1 hm2) ?_⟩
        have hsz2 : w.heap.size + 2 ≤ W₂.heap.size := by have := h1.size; omega
        rintro e a3 W3 hp
        cases e with
        | normal => exact ⟨hp.1, hp.2.1, hp.2.2, hkeep hp.1 (hXB _ _ (Nat.le_refl _) (by omega)) hi2.2.1, by have := hp.1.size; omega⟩
        | ret => exact ⟨hp.1, hp.2.1, hp.2.2, hkeep hp.1 (hXB _ _ (Nat.le_refl _) (by omega)) hi2.2.1⟩
        | exit id => exact ⟨hp.1, hp.2.1, hp.2.2, hkeep hp.1 (hXB _ _ (Nat.le_refl _) (by omega)) hi2.2.1⟩
        | goto t => exact ⟨hp.1, hp.2.1, hp.2.2, hkeep hp.1 (hXB _ _ (Nat.le_refl _) (by omega)) hi2.2.1⟩
        | panic ch => exact hp.elim
        | outgrown => exact hp.elim
      | ret => exact ha.elim
      | exit id => exact ha.elim
      | goto t => exact ha.elim
      | panic ch => exact ha.elim
      | outgrown => exact ha.elim
    · rintro e W2 ⟨⟨v, rfl⟩, (⟨W', he, hi, hm⟩ | ⟨c, W', he, hi, hm⟩)⟩
      · exact ⟨none, W', he, hdone W' hi.1 hm hi.2.1⟩
      · exact ⟨some c, W', he, hstop c W' hi.1 hm hi.2⟩

/-- A loop within a round. -/
theorem wp_rangeN {α : Type} {g : Operand} {ps : Array Tmp} {assign body : Code} {Q : Exit → Act → World → Prop} {a : Act} {w : World} {gf : Nat} {lb : Array Value} {l₀ : Nat}
    {encs : α → Array Value} {xs : List α} {XI XB : Nat → Option Obj → Prop} {Mid : World → Prop} (I : Nat → World → Prop) (Ix : Code → World → Prop)
    (hl₀ : ∃ r, w.heap[l₀]? = some (.loop r))
    (hg : a.eval g = .func (.func gf) #[] lb) (eg : ∀ args w, (callFunc gf args).run P w = .ok (.enter gf args) w) (hps : ∀ x, (encs x).size = ps.size)
    (hseq : ∀ W1, Below w.heap.size w W1 → W1.heap.size = w.heap.size + 1 → SeqAt P gf lb encs xs XI (fun j o => XB j o ∨ j = w.heap.size) Mid w.heap.size W1)
    (hXI : ∀ o, ¬ XI w.heap.size o) (hXB : ∀ o, ¬ XB w.heap.size o)
    (hI : ∀ k A B, I k A → Lets XI A B → I k B) (hIx : ∀ c A B, Ix c A → Lets XI A B → Ix c B)
    (hI2 : ∀ k A B, I k A → Lets (fun j _ => j = w.heap.size) A B → I k B) (hIx2 : ∀ c A B, Ix c A → Lets (fun j _ => j = w.heap.size) A B → Ix c B) (hM2 : ∀ A B, Mid A → Lets (fun j _ => j = w.heap.size) A B → Mid B)
    (h0 : I 0 w)
    (hround : ∀ k (h : k < xs.length) W, I k W → Mid W → (∃ r, W.heap[w.heap.size]? = some (.loop r)) → RoundOk P w.heap.size XB Mid (I k) (I (k + 1)) Ix assign body ((ps.zip (encs xs[k])).foldl (fun t (p, v) => t.setIfInBounds p v) a.tmps) W)
    (hdone : ∀ W, I xs.length W → Mid W → Q .normal a W)
    (hstop : ∀ c W, Ix c W → Mid W → c.wpIn (Fence.wide.inRound l₀) 0 P Q a W) :
    (Code.rangeFunc g ps assign body).wpIn (Fence.wide.inRound l₀) 0 P Q a w := by
  obtain ⟨r₀, hr₀⟩ := hl₀
  refine wpIn_rangeFunc ?_
  intro fn _
  obtain ⟨W1, hW1⟩ : ∃ W1, w.alloc (.loop { state := .ready, pending := none, fn, tmps := a.tmps, params := ps, assign, body, defers := r₀.defers }) = W1 := ⟨_, rfl⟩
  have hL1 : W1.heap[w.heap.size]? = some (.loop { state := .ready, pending := none, fn, tmps := a.tmps, params := ps, assign, body, defers := r₀.defers }) := by rw [← hW1]; exact World.alloc_heap_new w _
  have hb1 : Below w.heap.size w W1 := by rw [← hW1]; exact (Below.refl _ w).alloc (Nat.le_refl _) _
  have hs1 : W1.heap.size = w.heap.size + 1 := by rw [← hW1]; simp
  refine ⟨w.heap.size, [], W1, { target := .fn (.func gf) lb, args := #[.func (.yield w.heap.size) #[] #[]] }, W1, gf,
    #[.func (.yield w.heap.size) #[] #[]] ++ lb, W1, ?_, ?_, fun _ _ => trivial, ?_, fun h => by simp [Fence.wide, Fence.inRound] at h, ?_⟩
  · rw [← hW1]; exact run_enterLoop_inner hr₀ _ _ _ _ _
  · simp only [resolve, hg]
    simp [go_sem]
  · simp [invoke, go_sem, eg]
  · refine CallsIn.inRound l₀ ((range_core (I := I) (Ix := Ix) hL1 hps (hseq W1 hb1 hs1) hXI hXB hI hIx hI2 hIx2 hM2 (hI2 0 _ _ h0 (Lets.of_below hb1)) (fun k hk W hi hm ⟨r, hr, _⟩ => hround k hk W hi hm ⟨r, hr⟩)).mono ?_)
    rintro e W2 ⟨⟨v, rfl⟩, (⟨W', he, hi, hm⟩ | ⟨c, W', he, hi, hm⟩)⟩
    · exact ⟨none, W', he, hdone W' hi hm⟩
    · exact ⟨some c, W', he, hstop c W' hi hm⟩
end Go
set_option linter.unusedVariables false
set_option linter.unusedSimpArgs false
namespace Go.Proofs.Yteeinehpneppnaa
open Go.RowKit Go.Proofs
attribute [local irreducible] Ord.walk
theorem m_within (n lo hi : Int) (w : World) :
    Calls Try.prog 93 #[.int .i64 n, .int .i64 lo, .int .i64 hi] w (Same (.bool (inB n lo hi)) w) := by
  go_enter Try.func93, Try.ntmps93
  go_wp2
  all_goals go_ret
  all_goals (refine ⟨ret_bool ?_, rfl⟩; simp [inB]; try omega)
/-- The value that a panic of this error bears. -/
def stopV (e : Int) : Value := .iface 133 (.agg #[.int .i64 e])
/-- It panics with this error; nothing that was there has turned. -/
def Stops (e : Int) (w : World) (x : Ending) (w' : World) : Prop := x = .panicked [{ v := stopV e, recovered := false }] ∧ Below w.heap.size w w'
def StopsS (e : Int) (w : World) (x : Ending) (w' : World) : Prop := x = .panicked [{ v := stopV e, recovered := false }] ∧ w = w'
theorem m_must_yes (e : Int) (w : World) :
    Calls Try.prog 68 #[.bool true, .int .i64 e] w (Same (.tuple #[]) w) := by
  go_enter Try.func68, Try.ntmps68
  go_wp2
  go_end0
  exact ⟨rfl, rfl⟩
theorem m_must_no (e : Int) (w : World) :
    Calls Try.prog 68 #[.bool false, .int .i64 e] w (StopsS e w) := by
  go_enter Try.func68, Try.ntmps68
  go_wp2
  exact ⟨rfl, rfl, rfl⟩
theorem m_always (v : Value) (w : World) :
    Calls Try.prog 61 #[v] w (Same (.bool true) w) := by
  go_enter Try.func61, Try.ntmps61
  go_wp2
  go_ret
  exact ⟨rfl, rfl⟩
/-- The grade of what is so in each truth, or in some. -/
def grB (each some : Bool) : Int := if each then 2 else if some then 1 else 0
theorem m_graded (x y : Bool) (w : World) :
    Calls Try.prog 49 #[.bool x, .bool y] w (Same (.int .i64 (grB x y)) w) := by
  cases x <;> cases y
  all_goals
    go_enter Try.func49, Try.ntmps49
    go_wp2
    go_ret
    exact ⟨rfl, rfl⟩
theorem m_isDay (n : Int) (w : World) : Calls Try.prog 55 #[.int .i64 n] w (Same (.bool (inB n 0 100)) w) := by
  go_enter Try.func55, Try.ntmps55
  go_wp2_with (go_at_call 93; refine (m_within _ _ _ _).mono ?_; rintro e w' ⟨rfl, rfl⟩)
  go_ret
  exact ⟨rfl, rfl⟩
theorem m_isSpan (lo hi low high much : Int) (h1 : -1000 ≤ low) (h2 : high ≤ 1000) (w : World) :
    Calls Try.prog 92 #[.agg #[.int .i64 lo, .int .i64 hi], .int .i64 low, .int .i64 high, .int .i64 much] w (Gives (.bool (spanM lo hi low high much)) w) := by
  go_enter Try.func92, Try.ntmps92
  go_wp2
  all_goals go_ret
  all_goals (refine ⟨ret_bool ?_, (Below.refl _ _).alloc (Nat.le_refl _) _⟩; simp [spanM, *]; try omega)
theorem agg_span : AggTy Try.prog 39 2 := ⟨_, Try.underlying39, rfl, by kernel_rfl⟩
abbrev spv (s : Int × Int) : Value := .agg #[.int .i64 s.1, .int .i64 s.2]
theorem m_moved (lo hi n : Int) (h1 : -1000000 ≤ lo ∧ lo ≤ 1000000) (h2 : -1000000 ≤ hi ∧ hi ≤ 1000000) (h3 : -1000000 ≤ n ∧ n ≤ 1000000) (w : World) :
    Calls Try.prog 103 #[spv (lo, hi), .int .i64 n] w (Gives (spv (lo + n, hi + n)) w) := by
  unfold spv
  go_enter Try.func103, Try.ntmps103
  go_wp2_with (refine wpList_store_blk 39 (.tmp 4) (.tmp 13) agg_span rfl rfl rfl rfl (Blk.new' _ _ _ _ (by simp)) rfl rfl (by simp [Value.oneCell']) ?_; intro w2 h2)
  (try simp only [Exit.inBlock, Exit.then])
  refine bodyPost_ret (v := .agg #[.int .i64 (lo + n), .int .i64 (hi + n)]) (results_cell_blk rfl _ agg_span rfl h2.blk rfl) rfl ⟨rfl, ?_⟩
  exact h2.below (((Below.refl _ _).alloc (Nat.le_refl _) _).alloc (by simp) _) (by omega)
def spotV (p : Bool × Int) : Value := if p.1 then .iface 140 (.agg #[.int .i64 p.2]) else .iface 136 (.agg #[])
theorem m_bare_on (d : Int) (w : World) : Calls Try.prog 132 #[.agg #[], .int .i64 d] w (Gives (.int .i64 d) w) := by
  go_enter Try.func132, Try.ntmps132
  go_wp2
  go_ret
  exact ⟨rfl, by (repeat (first | assumption | exact Below.refl _ _ | refine Below.drew ?_ | refine Below.alloc ?_ (by first | omega | (simp; done) | (simp; omega)) _ | refine Below.setCell ?_ (by first | omega | (simp; done) | (simp; omega)) _ | refine Below.trans ?_ (Below.mono (by assumption) (by first | omega | (simp; done) | (simp; omega)))))⟩
theorem m_bare_drinks (w : World) : Calls Try.prog 131 #[.agg #[]] w (Gives (.bool false) w) := by
  go_enter Try.func131, Try.ntmps131
  go_wp2
  go_ret
  exact ⟨rfl, by (repeat (first | assumption | exact Below.refl _ _ | refine Below.drew ?_ | refine Below.alloc ?_ (by first | omega | (simp; done) | (simp; omega)) _ | refine Below.setCell ?_ (by first | omega | (simp; done) | (simp; omega)) _ | refine Below.trans ?_ (Below.mono (by assumption) (by first | omega | (simp; done) | (simp; omega)))))⟩
theorem m_pool_drinks (r : Int) (w : World) : Calls Try.prog 133 #[.agg #[.int .i64 r]] w (Gives (.bool true) w) := by
  go_enter Try.func133, Try.ntmps133
  go_wp2
  go_ret
  exact ⟨rfl, by (repeat (first | assumption | exact Below.refl _ _ | refine Below.drew ?_ | refine Below.alloc ?_ (by first | omega | (simp; done) | (simp; omega)) _ | refine Below.setCell ?_ (by first | omega | (simp; done) | (simp; omega)) _ | refine Below.trans ?_ (Below.mono (by assumption) (by first | omega | (simp; done) | (simp; omega)))))⟩
theorem Try.byteOfCell_pool : byteOfCell Try.prog Try.prog.depth 140 0 = some 0 := by kernel_rfl
theorem Try.cellsOf_pool : Try.prog.cellsOf 140 = 1 := by kernel_rfl
/-- The address of the part of size zero. -/
theorem part_pool (W : World) (b : Nat) (r : Value) (h : Blk W b #[r] 140) : (partAt ⟨b, 0, none⟩ 0 0).run Try.prog W = .ok ⟨b, 0, none⟩ W := by
  have hh : W.heap[b]? = some (.cells #[r] 140 (0, 0)) := h
  have hs : W.shape? b = some (140, 1) := by simp [World.shape?, hh]
  simp [partAt, byteOf, noView, viewAt, Sem.run_bind, Result.andThen, Sem.run, shape, hs, go_sem, Try.byteOfCell_pool, Try.cellsOf_pool, program]
theorem m_pool_on (r d : Int) (hr : 0 ≤ r ∧ r ≤ 1000) (hd : -1000000 ≤ d ∧ d ≤ 1000000) (w : World) : Calls Try.prog 134 #[.agg #[.int .i64 r], .int .i64 d] w (Gives (.int .i64 (d + r)) w) := by
  go_enter Try.func134, Try.ntmps134
  have b1 := Blk.new w #[.int .i64 r] 140
  have r1 := b1.cell
  have hp := part_pool _ _ _ b1.drew
  go_wp2_with fail
  refine Ord.wp_region [(0, 0), (1, 0), (2, 0), (4, 1), (5, 1), (3, 2), (6, 0), (7, 0)] (fun W' => Below (w.heap.size + 1) (w.alloc (.cells #[.int .i64 r] 140)) W') (by kernel_rfl) (by kernel_rfl) (fun c a d v w h => by cases d <;> exact h) (Below.refl _ _).drew ?_
  go_wp2_with (first
    | (go_at_call 132; refine (m_bare_on _ _).mono ?_; rintro e w2 ⟨rfl, hb2⟩)
    | ((with_reducible refine Ord.at_wild ?_); refine Ord.wild_load (ad := ⟨w.heap.size, 0, none⟩) (.int .i64 r) rfl rfl ?_ ?_; (focus (intro W hW; obtain ⟨cW, _, zW⟩ := below_rules hW rfl; simp [go_sem, cW, ↓IntWalk.iteOmega, r1]; done)); intro K hK)
    | ((with_reducible refine Ord.at_calm ?_); refine Ord.calm_skip rfl ?_ (fun K hK => ?_); (focus (simp [Region.wanted, yielded]; done))) | with_reducible refine Ord.walk_calm rfl rfl (fun K hK => ?_) | ((with_reducible refine Ord.at_wild ?_); refine Ord.wild_fieldAddr rfl rfl (fun W => by simp [go_sem]; rfl) (fun K hK => ?_)) | ((with_reducible refine Ord.at_wild ?_); refine Ord.wild_move rfl rfl (fun K hK => ?_)) | ((with_reducible refine Ord.at_wild ?_); refine Ord.wild_nilCheck rfl rfl (fun K hK => ?_)) | with_reducible refine Ord.walk_eff rfl (by first | (simp; done) | assumption | (go_simp; done) | (repeat (first | assumption | exact Below.refl _ _ | refine Below.drew ?_ | refine Below.alloc ?_ (by first | omega | (simp; done) | (simp; omega)) _ | refine Below.setCell ?_ (by first | omega | (simp; done) | (simp; omega)) _ | refine Below.trans ?_ (Below.mono (by assumption) (by first | omega | (simp; done) | (simp; omega)))))) (fun K hK => ?_) | with_reducible refine Ord.at_fork ?_ ?_ | with_reducible refine Ord.walk_nil ?_ | (with_reducible refine Ord.next_of (by first | (simp; done) | (go_simp; done) | (repeat (first | assumption | exact Below.refl _ _ | refine Below.drew ?_ | refine Below.alloc ?_ (by first | omega | (simp; done) | (simp; omega)) _ | refine Below.setCell ?_ (by first | omega | (simp; done) | (simp; omega)) _ | refine Below.trans ?_ (Below.mono (by assumption) (by first | omega | (simp; done) | (simp; omega)))))) (fun _ => ?_)))
  go_ret
  exact ⟨rfl, ((Below.refl _ _).alloc (Nat.le_refl _) _).trans (Below.mono (by assumption) (by omega))⟩
abbrev wcells (m : Mb) (A : Ma) (pa : Option Addr) (pc mb : Nat) : Array Value := #[.slice A.pa m.places.length A.pc, .slice A.la m.legs.length A.lc, .slice A.ha m.herds.length A.hc, .slice A.sa m.seen.length A.sc, .slice pa m.places.length pc, .map (some mb)]
structure WayAt (w : World) (wp : Nat) (m : Mb) (A : Ma) (pa : Option Addr) (pc mb : Nat) : Prop where
  blk : Blk w wp (wcells m A pa pc mb) 126
  args : MbAt w m A
  spots : RowsAt w pa 1 (fun p => [spotV p]) m.places
theorem WayAt.lets {X : Nat → Option Obj → Prop} {w w' : World} {wp : Nat} {m : Mb} {A : Ma} {pa : Option Addr} {pc mb : Nat} (h : WayAt w wp m A pa pc mb) (hl : Lets X w w') (hX : ∀ k c t f, w.heap[k]? = some (.cells c t f) → ¬ X k w.heap[k]?) : WayAt w' wp m A pa pc mb := by
  have hc : ∀ {a : Addr} {v : Value}, w.cell? a = some v → w'.cell? a = some v := fun {a v} h => by
    refine hl.cell h ?_
    obtain ⟨o, ho, hk⟩ := cells_of_cell h
    cases o with
    | cells c t f => exact hX _ c t f ho
    | _ => simp [Obj.isCells] at hk
  have hr : ∀ {α : Type} {a : Option Addr} {n : Nat} {f : α → List Value} {l : List α}, RowsAt w a n f l → RowsAt w' a n f l := fun h i hi =>
    let ⟨gb, go, h0, h1⟩ := h i hi
    ⟨gb, go, h0, fun j u hj => hc (h1 j u hj)⟩
  exact ⟨hl.blk h.blk (hX _ _ _ _ h.blk), ⟨hr h.args.places, hr h.args.legs, hr h.args.herds, hr h.args.seen⟩, hr h.spots⟩
theorem WayAt.below {w w' : World} {wp : Nat} {m : Mb} {A : Ma} {pa : Option Addr} {pc mb : Nat} (h : WayAt w wp m A pa pc mb) (hb : Below w.heap.size w w') : WayAt w' wp m A pa pc mb :=
  h.lets (X := fun _ _ => False) (Lets.of_below hb) (fun _ _ _ _ _ e => e)
def herdB (m : Mb) (n : Int) : Bool := inB n 0 (m.herds.length - 1)
def fromP (m : Mb) (h n : Int) : Bool := herdB m h && inB n (startI m h) (m.places.length - 1)
theorem m_isHerd (wp : Nat) (m : Mb) (A : Ma) (pa : Option Addr) (pn pc mb : Nat) (n : Int) (w : World) (hl : m.herds.length ≤ 40) (h : w.cell? ⟨wp, 2, none⟩ = some (.slice A.ha m.herds.length A.hc)) :
    Calls Try.prog 44 #[.pointer (some ⟨wp, 0, none⟩), .int .i64 n] w (Same (.bool (herdB m n)) w) := by
  have hl2 : (m.herds.length : Int) ≤ 40 := by omega
  go_enter Try.func44, Try.ntmps44
  go_wp2_with (go_at_call 93; refine (m_within _ _ _ _).mono ?_; rintro e w' ⟨rfl, rfl⟩)
  go_ret
  exact ⟨rfl, rfl⟩
theorem m_every (wp : Nat) (n c : Nat) (a : Option Addr) (w : World) (hl : n ≤ 5) (h : w.cell? ⟨wp, 3, none⟩ = some (.slice a n c)) :
    Calls Try.prog 47 #[.pointer (some ⟨wp, 0, none⟩)] w (Same (.int .u64 ((2 ^ n - 1 : Nat) : Int)) w) := by
  go_enter Try.func47, Try.ntmps47
  go_wp2
  go_ret
  refine ⟨ret_int ?_, rfl⟩
  rcases (show n = 0 ∨ n = 1 ∨ n = 2 ∨ n = 3 ∨ n = 4 ∨ n = 5 by omega) with rfl | rfl | rfl | rfl | rfl | rfl <;> rfl
set_option maxHeartbeats 4000000 in
set_option maxRecDepth 100000 in
theorem m_isFrom (wp : Nat) (m : Mb) (A : Ma) (h n : Int) (w : World) (hl : Mlen m) (h0 : w.cell? ⟨wp, 0, none⟩ = some (.slice A.pa m.places.length A.pc)) (h2 : w.cell? ⟨wp, 2, none⟩ = some (.slice A.ha m.herds.length A.hc)) (hh : RowsAt w A.ha 4 i4c m.herds) :
    Calls Try.prog 75 #[.pointer (some ⟨wp, 0, none⟩), .int .i64 h, .int .i64 n] w (fun e w' => e = .returned (.bool (fromP m h n)) ∧ Below w.heap.size w w') := by
  have H1 := Lib.hid (fun W (hc : W.cell? ⟨wp, 2, none⟩ = some (.slice A.ha m.herds.length A.hc)) => m_isHerd wp m A none 0 0 0 h W hl.herds hc)
  have HR : Hid (fromP m h n = (herdB m h && inB n (startI m h) (m.places.length - 1))) := rfl
  have hp1 := hl.places
  have hp2 := hl.herds
  have hp3 : (m.places.length : Int) ≤ 40 := by omega
  generalize fromP m h n = R at *
  cases h1 : herdB m h
  · rw [h1] at H1 HR
    go_enter Try.func75, Try.ntmps75
    go_wp2_with fail
    refine Ord.wp_region [(0, 0), (1, 0), (2, 0), (3, 0), (4, 0), (5, 0), (6, 0), (7, 0), (8, 0), (9, 0), (10, 0), (11, 0), (12, 0), (13, 0), (14, 0), (15, 0), (16, 0), (17, 0), (18, 0), (19, 0), (20, 0), (21, 0), (22, 0), (23, 0)] (fun _ => True) (by kernel_rfl) (by kernel_rfl) (fun c a d v w h => by cases d <;> exact h) trivial ?_
    go_wp2_with (first
      | ((with_reducible refine Ord.at_wild ?_); refine Ord.walk_skip rfl rfl (fun K hK => ?_)) | ((with_reducible refine Ord.at_eff ?_); refine Ord.walk_skip rfl rfl (fun K hK => ?_))
      | ((with_reducible refine Ord.at_calm ?_); refine Ord.calm_skip rfl ?_ (fun K hK => ?_); (focus (simp [Region.wanted, yielded]; done))) | with_reducible refine Ord.walk_calm rfl rfl (fun K hK => ?_) | ((with_reducible refine Ord.at_wild ?_); refine Ord.wild_fieldAddr rfl rfl (fun W => by simp [go_sem]; rfl) (fun K hK => ?_)) | ((with_reducible refine Ord.at_wild ?_); refine Ord.wild_move rfl rfl (fun K hK => ?_)) | ((with_reducible refine Ord.at_wild ?_); refine Ord.wild_nilCheck rfl rfl (fun K hK => ?_)) | with_reducible refine Ord.walk_eff rfl (by first | (simp; done) | assumption | (go_simp; done) | (repeat (first | assumption | exact Below.refl _ _ | refine Below.drew ?_ | refine Below.alloc ?_ (by first | omega | (simp; done) | (simp; omega)) _ | refine Below.setCell ?_ (by first | omega | (simp; done) | (simp; omega)) _ | refine Below.trans ?_ (Below.mono (by assumption) (by first | omega | (simp; done) | (simp; omega)))))) (fun K hK => ?_) | with_reducible refine Ord.at_fork ?_ ?_ | with_reducible refine Ord.walk_nil ?_ | (with_reducible refine Ord.next_of (by first | (simp; done) | (go_simp; done) | (repeat (first | assumption | exact Below.refl _ _ | refine Below.drew ?_ | refine Below.alloc ?_ (by first | omega | (simp; done) | (simp; omega)) _ | refine Below.setCell ?_ (by first | omega | (simp; done) | (simp; omega)) _ | refine Below.trans ?_ (Below.mono (by assumption) (by first | omega | (simp; done) | (simp; omega)))))) (fun _ => ?_))
      | ((with_reducible refine Ord.at_calm ?_); refine Ord.calm_call rfl (fun W => Try.call44 _ W) (H1.out _ (by assumption)) (fun K hK => ?_)) | ((with_reducible refine Ord.at_wild ?_); refine Ord.wild_call rfl (fun W => Try.call44 _ W) (fun W hW => H1.out _ (by assumption)) (fun K hK => ?_)))
    go_ret
    exact ⟨by rw [HR.out]; rfl, (Below.refl _ _).drew⟩
  · have h1' := inB_of h1
    obtain ⟨i, rfl⟩ : ∃ i : Nat, h = (i : Int) := ⟨h.toNat, by omega⟩
    have hi : i < m.herds.length := by omega
    have hii : (i : Int) < (m.herds.length : Int) := by omega
    have hs : startI m (i : Int) = m.herds[i].1 := by unfold startI; simp [hi]
    obtain ⟨gb, go, e0, e1, -⟩ := hh.get4 hi
    rw [h1] at H1 HR
    rw [hs] at HR
    rcases A with ⟨pa, pc, la, lc, ha, hc, sa, sc⟩
    simp only at e0
    subst e0
    simp only at *
    generalize m.herds[i].1 = st at *
    clear hs h1 h1' hh
    go_enter Try.func75, Try.ntmps75
    go_wp2_with fail
    refine Ord.wp_region [(0, 0), (1, 0), (2, 0), (3, 0), (4, 0), (5, 0), (6, 0), (7, 0), (8, 0), (9, 0), (10, 0), (11, 0), (12, 0), (13, 0), (14, 0), (15, 0), (16, 0), (17, 0), (18, 0), (19, 0), (20, 0), (21, 0), (22, 0), (23, 0)] (fun _ => True) (by kernel_rfl) (by kernel_rfl) (fun c a d v w h => by cases d <;> exact h) trivial ?_
    go_wp2_with (first
      | ((with_reducible refine Ord.at_calm ?_); refine Ord.calm_skip rfl ?_ (fun K hK => ?_); (focus (simp [Region.wanted, yielded]; done))) | with_reducible refine Ord.walk_calm rfl rfl (fun K hK => ?_) | ((with_reducible refine Ord.at_wild ?_); refine Ord.wild_fieldAddr rfl rfl (fun W => by simp [go_sem]; rfl) (fun K hK => ?_)) | ((with_reducible refine Ord.at_wild ?_); refine Ord.wild_move rfl rfl (fun K hK => ?_)) | ((with_reducible refine Ord.at_wild ?_); refine Ord.wild_nilCheck rfl rfl (fun K hK => ?_)) | with_reducible refine Ord.walk_eff rfl (by first | (simp; done) | assumption | (go_simp; done) | (repeat (first | assumption | exact Below.refl _ _ | refine Below.drew ?_ | refine Below.alloc ?_ (by first | omega | (simp; done) | (simp; omega)) _ | refine Below.setCell ?_ (by first | omega | (simp; done) | (simp; omega)) _ | refine Below.trans ?_ (Below.mono (by assumption) (by first | omega | (simp; done) | (simp; omega)))))) (fun K hK => ?_) | with_reducible refine Ord.at_fork ?_ ?_ | with_reducible refine Ord.walk_nil ?_ | (with_reducible refine Ord.next_of (by first | (simp; done) | (go_simp; done) | (repeat (first | assumption | exact Below.refl _ _ | refine Below.drew ?_ | refine Below.alloc ?_ (by first | omega | (simp; done) | (simp; omega)) _ | refine Below.setCell ?_ (by first | omega | (simp; done) | (simp; omega)) _ | refine Below.trans ?_ (Below.mono (by assumption) (by first | omega | (simp; done) | (simp; omega)))))) (fun _ => ?_))
      | ((with_reducible refine Ord.at_calm ?_); refine Ord.calm_call rfl (fun W => Try.call44 _ W) (H1.out _ (by assumption)) (fun K hK => ?_)) | ((with_reducible refine Ord.at_wild ?_); refine Ord.wild_call rfl (fun W => Try.call44 _ W) (fun W hW => H1.out _ (by assumption)) (fun K hK => ?_))
      | ((with_reducible refine Ord.at_calm ?_); refine Ord.calm_call rfl (fun W => Try.call93 _ W) (m_within _ _ _ _) (fun K hK => ?_)) | ((with_reducible refine Ord.at_wild ?_); refine Ord.wild_call rfl (fun W => Try.call93 _ W) (fun W hW => m_within _ _ _ _) (fun K hK => ?_)))
    go_ret
    exact ⟨by rw [HR.out]; rfl, (Below.refl _ _).drew⟩
end Go.Proofs.Yteeinehpneppnaa
