/- Parts of a proof: RoundK, BlkB, OrdD, BnI. -/
import Derived.Test.YtjbjmoghloabpaaM05
import Derived.RangeFuncIn
import Derived.RangeFuncCalls
import Derived.TacticsIn
import Derived.OrdersIn
import Derived.Laws.MakeOwn
import Derived.OwnWalk
import Derived.Test.YtjbjmoghloabpaaM08
import Derived.RangeFuncRecord
import Derived.LoopIn
import Derived.BigFrameIn
/- What is walked in an activation's frame holds in a round's frame too, where nothing is deferred (at the fence that asks nothing). -/
set_option linter.unusedVariables false
namespace Go
variable {P : Program} {ops : Array Oper} {Q : Exit → Act → World → Prop} {K : Act → World → Prop} {a : Act} {w : World} {o : Oper} {l n : Nat}

def noDefer (o : Oper) : Bool := match o.op with | .defer _ => false | _ => true
theorem noDefer_ne (h : noDefer o = true) : ∀ c, o.op ≠ .defer c := by
  intro c hc
  simp [noDefer, hc] at h

theorem rowsIn_wide' {row : String} {args : Array Value} {R : Value → World → Prop} (h : Rows P row args w R) : RowsIn (Fence.wide.inRound l) n P row args w R := by
  intro c cs hr
  obtain ⟨v, w', r, s⟩ := h c cs
  exact ⟨v, w', r, stepsIn_wide.2 s⟩

theorem Oper.wpIn_of_wp (hd : noDefer o = true) (h : o.wp P a w K Q) : o.wpIn (Fence.wide.inRound l) n P a w K Q := by
  unfold Oper.wpIn
  refine ⟨fun f _ => trivial, ?_⟩
  rw [Oper.semAt_eq _ _ _ (noDefer_ne hd)]
  unfold Oper.wp at h
  generalize (execOp a.eval o).run P w = r at h
  cases r with
  | ok x w' =>
    cases x <;> simp only [Oper.upon, Oper.uponIn] at h ⊢ <;>
      first
        | exact h
        | exact ⟨fun h0 => (by simp [Fence.wide] at h0), CallsIn.inRound l (callsIn_wide.2 h)⟩
        | exact ⟨fun h0 => (by simp [Fence.wide] at h0), rowsIn_wide' h⟩
        | exact h.elim
  | halt x w' => cases x <;> simp only [Oper.upon, Oper.uponIn] at h ⊢ <;> exact h

theorem wpListIn_of (hQ : ¬ LetsOut Q) : ∀ (lo : List Oper) (a : Act) (w : World), (∀ o ∈ lo, noDefer o = true) → wpList P ops Q lo a w → wpListIn (Fence.wide.inRound l) n P ops Q lo a w
  | [], a, w, _, h => h
  | o :: rest, a, w, hd, h => by
    simp only [wpList, wpListIn] at h ⊢
    split
    · rename_i hw
      simp only [hw, if_true] at h
      rcases h with h | h
      · exact Oper.wpIn_mono (fun a w h => wpListIn_of hQ rest a w (fun o ho => hd o (by simp [ho])) h) (Oper.wpIn_of_wp (hd o (by simp)) h)
      · exact absurd h.2 hQ
    · rename_i hw
      simp only [hw] at h
      exact ⟨fun f _ => trivial, wpListIn_of hQ rest _ w (fun o ho => hd o (by simp [ho])) h⟩
theorem wpIn_region_of {id : Nat} {lo : List Oper} (hQ : ¬ LetsOut Q) (hd : lo.all noDefer = true) (h : wpList P lo.toArray Q lo a w) : (Code.region id lo.toArray false).wpIn (Fence.wide.inRound l) n P Q a w :=
  wpIn_region_lit (wpListIn_of hQ lo a w (fun o ho => List.all_eq_true.1 hd o ho) h)

theorem wpAnyIn_of (hQ : ¬ LetsOut Q) (hd : ∀ (i : Nat) (o : Oper), ops[i]? = some o → noDefer o = true) : ∀ (fuel : Nat) (listed : Array Bool) (a : Act) (w : World), wpAny P .any ops Q fuel listed a w → wpAnyIn (Fence.wide.inRound l) n P .any ops Q fuel listed a w
  | 0, _, _, _, h => h
  | fuel + 1, listed, a, w, h => by
    refine ⟨h.1, fun i hi => ?_⟩
    have h2 := h.2 i hi
    unfold wpOp at h2
    unfold wpOpIn
    split
    · rename_i ho
      simp only [ho] at h2
      exact wpAnyIn_of hQ hd fuel _ _ _ h2
    · rename_i o ho
      simp only [ho] at h2
      split
      · rename_i hw
        simp only [hw, if_true] at h2
        rcases h2 with h2 | h2
        · exact Oper.wpIn_mono (fun a w h => wpAnyIn_of hQ hd fuel _ a w h) (Oper.wpIn_of_wp (hd i o ho) h2)
        · exact absurd h2.2 hQ
      · rename_i hw
        simp only [hw] at h2
        exact ⟨fun f _ => trivial, wpAnyIn_of hQ hd fuel _ _ _ h2⟩

/-- A region that draws its order, in a round's frame. -/
theorem Ord.wpIn_region {id : Nat} {lo : List Oper} (hO : ¬ LetsOut Q) (pl : List (Nat × Nat)) (H : World → Prop) (hm : P.follows .mixedOrders = true) (hp : Ord.planOk lo.toArray pl = true) (hd : lo.all noDefer = true)
    (hQ : ∀ c a d v w, Q (.panic c) (a.put d v) w → Q (.panic c) a w) (hH : H w.drew) (h : Ord.walk P lo.toArray H Q pl a w.drew) : (Code.region id lo.toArray true).wpIn (Fence.wide.inRound l) n P Q a w := by
  simp only [Ord.planOk, Bool.and_eq_true, beq_iff_eq] at hp
  obtain ⟨⟨hs, hl⟩, hp⟩ := hp
  refine wpIn_region_any hm (wpAnyIn_of hO (fun i o ho => List.all_eq_true.1 hd o (List.mem_of_getElem? (by simpa using ho))) _ _ _ _ (Ord.wpAny_of_any (H := H) (eff := fun i => pl.any fun (k, c) => k == i && c == 2) _ _ _ _ ?_))
  have h2 := Ord.any_of_walk (H := H) (eff := fun i => pl.any fun (k, c) => k == i && c == 2) hs hQ pl (Array.replicate lo.toArray.size false) a _ (by simp) hH hp h
  rw [hl] at h2
  exact h2
end Go
/- A slice that is made with room to spare. -/
set_option linter.unusedVariables false
namespace Go
open Go.RowKit
section
variable {P : Program} {ops : Array Oper} {rest : List Oper} {o : Oper} {a : Act} {w : World} {Q : Exit → Act → World → Prop}
theorem madeCells_one (z : Value) (hz : z.cells = #[z]) (m : Nat) : madeCells z.cells m = Array.replicate m z := by
  apply Array.ext_getElem?
  intro i
  rw [hz]
  simp only [madeCells]
  by_cases h : i < m
  · simp [h, Nat.mod_one]
  · simp [h]
theorem wpList_make_blk (hg : o.guard = none) (l c : Operand) (t : TypeId) (hop : o.op = Op.makeSlice t l c) (e : TypeId) (i : TypeInfo) (z : Value) (h1 : P.underlying t = some (.slice e)) (h2 : P.info? e = some i) (h3 : i.zero = some z) (h4 : i.size = 1) (hz1 : z.cells = #[z])
    (kl kc : IntKind) (L C : Int) (k m : Nat) (hl : a.eval l = .int kl L) (hc : a.eval c = .int kc C) (hL : L = (k : Int)) (hC : C = (m : Int)) (hkm : k ≤ m) (b2 : i.bytes * m ≤ 281474976710656) (b3 : m ≤ maxLen)
    (hK : wpList P ops Q rest (a.put o.dst (.slice (some ⟨w.heap.size, 0, none⟩) k m)) (w.alloc (.cells (Array.replicate m z) e))) :
    wpList P ops Q (o :: rest) a w := by
  refine wpList_plain hg fun K hK' => ?_
  subst hL hC
  have h63' : (m : Int) ≤ 9223372036854775807 := by
    have h := b3
    simp [maxLen] at h
    omega
  have hb' : (i.bytes : Int) * (m : Int) ≤ 281474976710656 := by
    have h : ((i.bytes * m : Nat) : Int) ≤ 281474976710656 := by omega
    rwa [Int.natCast_mul] at h
  have hr := run_make (P := P) w t e i z h1 h2 h3 kl kc k m (by omega) (by omega) hb' h63'
  simp only [Int.toNat_natCast, h4, Nat.mul_one, madeCells_one z hz1] at hr
  unfold Oper.wp
  simp [execOp, hop, hl, hc, hr, Result.andThen]
  exact hK' _ _ hK
/-- A block of one-cell elements as an owned row. -/
theorem own_of_blk {b base : Nat} {A : Array Value} {e : TypeId} (h : Blk w b A e) (hb : base ≤ b) {k m : Nat} (hA : A.size = m) (hkm : k ≤ m) (hm : m ≤ maxLen) : w.ownsRow base e 1 (.slice (some ⟨b, 0, none⟩) k m) k (A.toList.take k) :=
  ⟨by simp; omega, .inr ⟨b, m, A, rfl, hb, h, hkm, hm, by omega, by simp⟩⟩
theorem own_cells {base b k m : Nat} {e : TypeId} {xs : List Value} (h : w.ownsRow base e 1 (.slice (some ⟨b, 0, none⟩) k m) k xs) : ∀ i, (hi : i < xs.length) → w.cell? ⟨b, i, none⟩ = some xs[i] := by
  intro i hi
  obtain ⟨hl, h | ⟨g, cap, cur, hv, hg, hh, hn, hc, hs, ht⟩⟩ := h
  · obtain ⟨h, -⟩ := h
    simp at h
  · simp only [Value.slice.injEq, Option.some.injEq, Addr.mk.injEq] at hv
    obtain ⟨⟨rfl, -, -⟩, -, rfl⟩ := hv
    rw [cell_of_row w b i cur e (0, 0) hh]
    have h1 : (cur.toList.take (k * 1))[i]? = some xs[i] := by rw [ht]; simp [hi]
    rw [List.getElem?_take] at h1
    split at h1
    · simpa using h1
    · cases h1
end
end Go
/- More steps of drawn regions. -/
set_option linter.unusedVariables false
namespace Go.Ord
section
variable {P : Program} {H : World → Prop} {Q : Exit → Act → World → Prop} {k : Nat} {l : List (Nat × Nat)} {a : Act} {w : World} {lo : List Oper}
variable {d : Option Tmp} {ty t t' : TypeId} {pos : String} {af : Array Edge} {g : Option (Nat × Bool)} {x y i : Operand} {bo : BinOp}
/-- A sum, a shift .. among effects. -/
theorem wild_bin (v : Value) (ho : lo[k]? = some ⟨d, .binOp bo t x y t', ty, pos, af, g⟩) (hv : ∀ W, H W → yields P ⟨d, .binOp bo t x y t', ty, pos, af, g⟩ a W v)
    (h : ∀ K : Act → World → Prop, (∀ a, walk P lo.toArray H Q l a w → K a w) → wpList P lo.toArray (Exit.then K (fun _ _ _ => False)) [⟨d, .move (.const v), ty, pos, af, g⟩] a w) : walk P lo.toArray H Q ((k, 1) :: l) a w :=
  walk_wild_as ho v hv h
end
end Go.Ord
/- counts: the codes of its loops; the innermost loop, in a round's frame. -/
set_option linter.unusedVariables false
set_option linter.unusedSimpArgs false
namespace Go.Proofs.Ytjbjmoghloabpaa
open Go.RowKit Go.Proofs
attribute [local irreducible] Ord.walk

/-- Blocks below n are as they were, but those of a list. -/
structure Off (T : List Nat) (n : Nat) (w w' : World) : Prop where
  os : w'.os = w.os
  tape : w'.tape = w.tape
  output : w'.output = w.output
  size : w.heap.size ≤ w'.heap.size
  block : ∀ k, k < n → k ∉ T → w'.heap[k]? = w.heap[k]?
namespace Off
variable {T : List Nat} {n : Nat} {w w' w'' : World}
theorem refl (T : List Nat) (n : Nat) (w : World) : Off T n w w := ⟨rfl, rfl, rfl, Nat.le_refl _, fun _ _ _ => rfl⟩
theorem trans (h : Off T n w w') (k : Off T n w' w'') : Off T n w w'' :=
  ⟨k.os.trans h.os, k.tape.trans h.tape, k.output.trans h.output, Nat.le_trans h.size k.size, fun i hi ht => (k.block i hi ht).trans (h.block i hi ht)⟩
theorem mono {T' : List Nat} {m : Nat} (h : Off T n w w') (hm : m ≤ n) (hT : ∀ k, k < m → k ∈ T → k ∈ T') : Off T' m w w' :=
  ⟨h.os, h.tape, h.output, h.size, fun k hk ht => h.block k (by omega) (fun e => ht (hT k hk e))⟩
theorem of_below {m : Nat} (h : Below m w w') (hm : n ≤ m) : Off T n w w' := ⟨h.os, h.tape, h.output, h.size, fun k hk _ => h.block k (by omega)⟩
theorem below {m : Nat} (h : Off T n w w') (hm : m ≤ n) (hT : ∀ k ∈ T, m ≤ k) : Below m w w' := ⟨h.os, h.tape, h.output, h.size, fun k hk => h.block k (by omega) (fun e => absurd (hT k e) (by omega))⟩
theorem blk (h : Off T n w w') {b : Nat} {A : Array Value} {t : TypeId} (hb : Blk w b A t) (hn : b < n) (ht : b ∉ T) : Blk w' b A t := (h.block b hn ht).trans hb
theorem cell (h : Off T n w w') {a : Addr} (hn : a.block < n) (ht : a.block ∉ T) : w'.cell? a = w.cell? a := World.cell?_of_block (h.block _ hn ht)
theorem map (h : Off T n w w') {b : Nat} {l : List (SL × Nat)} (hb : MapIs w b l) (hn : b < n) (ht : b ∉ T) : MapIs w' b l := (h.block b hn ht).trans hb
theorem of_eq (ho : w'.os = w.os) (ht : w'.tape = w.tape) (hp : w'.output = w.output) (hs : w.heap.size ≤ w'.heap.size) (hb : ∀ k, k < n → k ∉ T → w'.heap[k]? = w.heap[k]?) : Off T n w w' := ⟨ho, ht, hp, hs, hb⟩
theorem alloc (h : Off T n w w') (hn : n ≤ w'.heap.size) (o : Obj) : Off T n w (w'.alloc o) := h.trans (of_below ((Below.refl n w').alloc hn o) (Nat.le_refl _))
theorem drew (h : Off T n w w') : Off T n w w'.drew := ⟨h.os, h.tape, h.output, h.size, h.block⟩
theorem setCell (h : Off T n w w') {p : Addr} (hp : p.block ∈ T ∨ n ≤ p.block) (v : Value) : Off T n w (w'.setCell p v) :=
  h.trans ⟨rfl, rfl, rfl, by simp, fun k hk ht => Below.heap_setCell w' p v k (fun e => by subst e; rcases hp with hp | hp; exact ht hp; omega)⟩
theorem putObj (h : Off T n w w') {p : Nat} (hp : p ∈ T ∨ n ≤ p) (o : Obj) : Off T n w (w'.putObj p o) :=
  h.trans ⟨rfl, rfl, rfl, by simp, fun k hk ht => World.putObj_heap_other (fun e => by subst e; rcases hp with hp | hp; exact ht hp; omega)⟩
theorem rowed {b : Nat} {B : Array Value} {t : TypeId} (h : Off T n w w') (hr : Rowed w' b B t w'') (hp : b ∈ T ∨ n ≤ b) : Off T n w w'' := by
  have hb := hr.below (Below.refl b w') (Nat.le_refl _)
  refine h.trans ⟨hb.os, hb.tape, hb.output, by rw [hr.size]; exact Nat.le_refl _, fun k hk ht => ?_⟩
  exact hr.heap k (fun e => by subst e; rcases hp with hp | hp; exact ht hp; omega)
theorem turn {b : Nat} (h : Off T n w w') (hr : Turn1 w' b w'') (hp : b ∈ T ∨ n ≤ b) : Off T n w w'' := by
  have hb := hr.below (Below.refl b w') (Nat.le_refl _)
  exact h.trans ⟨hb.os, hb.tape, hb.output, by rw [hr.size]; exact Nat.le_refl _, fun k hk ht => hr.other (fun e => by subst e; rcases hp with hp | hp; exact ht hp; omega)⟩
end Off
theorem GrAt.off {T : List Nat} {n : Nat} {w w' : World} {gb : Nat} {go : Nat} {gs : List Gr} (h : GrAt w (some ⟨gb, go, none⟩) gs) (ho : Off T n w w') (hn : gb < n) (ht : gb ∉ T) : GrAt w' (some ⟨gb, go, none⟩) gs := fun i hi => by
  obtain ⟨b, o, h0, h1, h2, h3⟩ := h i hi
  simp only [Option.some.injEq, Addr.mk.injEq] at h0
  obtain ⟨rfl, rfl, -⟩ := h0
  exact ⟨gb, go, rfl, (ho.cell hn ht).trans h1, (ho.cell hn ht).trans h2, (ho.cell hn ht).trans h3⟩

/-! The codes. -/
def sL : Code → Code
  | .seq a _ => a
  | c => c
def sR : Code → Code
  | .seq _ b => b
  | c => c
def sI : Code → Code
  | .loop c => c
  | .block _ c => c
  | .scope c => c
  | .rangeFunc _ _ _ c => c
  | c => c
noncomputable def cTop : Code := sI (sR (Try.f56.body.getD .skip))
noncomputable def cX : Code := sR (sR (sR (sR cTop)))
noncomputable def cA : Code := sI (sR (sL cX))
noncomputable def cB : Code := sI (sR (sL (sR (sR (sR cX)))))
noncomputable def cY : Code := sI (sL (sR (sR (sI cB))))
noncomputable def cC : Code := sI (sR (sL (sR (sR (sR cY)))))
noncomputable def cRf : Code := sI (sR (sR (sI (sR (sR (sI cC))))))
noncomputable def cRb : Code := sI (sI cRf)
noncomputable def cD : Code := sI (sR (sL (sR cRb)))
noncomputable def cE : Code := sI (sR (sL (sR (sR (sR (sR cX))))))

set_option maxHeartbeats 4000000 in
set_option maxRecDepth 100000 in
theorem counts_l4 {u0 u1 u2 u3 u4 u5 u6 u7 u9 u11 u12 u13 u14 u15 u17 u18 u19 u22 u23 u24 u25 u26 u27 u28 u29 u30 u31 u32 u33 u34 u35 u36 u37 u38 u39 u40 u41 u42 u43 u44 u45 u46 u47 u48 u49 u50 u51 u52 u53 u54 u55 u56 u57 u58 u59 u60 u61 u62 u63 u64 u65 u66 u67 u68 u69 u70 u71 u72 u73 u74 u75 u76 u77 u78 u79 u80 u81 u82 u83 u84 u85 u86 u87 u88 u89 u90 u91 u92 u93 u94 u95 u96 u97 u98 u99 u100 u101 u102 u103 u104 u105 u106 u107 u108 u109 u110 u111 u112 u113 u114 u115 u116 u117 u118 u119 u120 u121 u122 u123 u124 u125 u126 u127 u128 u129 u130 u131 u132 u133 u134 u137 u138 u139 u140 u141 u142 u143 u144 u145 u146 u147 u148 u149 u150 u151 u152 u153 u154 u155 u156 u157 u158 u159 u160 u161 u162 u163 u164 u165 u166 u167 u168 u169 u170 u171 u172 u173 u174 u175 u176 u177 u178 u179 u180 u181 u182 u183 u184 u185 u186 u187 u188 u189 u190 : Value} {ds : List Deferred} (L m : Nat) (Q : Exit → Act → World → Prop) (hQ : ¬ LetsOut Q) (hP : ∀ c a w, ¬ Q (.panic c) a w) (W : World) (V bt gp gb gc fb xb first : Nat) (t : Ti) (gs : List Gr) (white : Bool) (s : St)
    (hV : V ≤ 8) (hgl : gs.length ≤ 7) (hvo : ∀ g ∈ gs, g.1 < 2 ^ 62) (hs : ∀ i, s i < 900)
    (b8 : Blk W bt (tcells t) 118) (b10 : Blk W gp #[.slice (some ⟨gb, 0, none⟩) gs.length gc] 120) (bg : GrAt W (some ⟨gb, 0, none⟩) gs) (hgb : gb < W.heap.size)
    (b16 : Blk W fb #[.int .i64 first] 3) (bx : Blk W xb (scells s) 126) (d1 : bt ≠ xb) (d2 : gp ≠ xb) (d3 : gb ≠ xb) (d4 : fb ≠ xb)
    (hexit : ∀ (x22 x136 x137 x138 x139 x140 x141 x142 x143 x144 x145 x146 x147 x148 x149 x150 x151 x152 x153 x154 x155 x156 x157 : Value) W', Off [xb] W.heap.size W W' → Blk W' xb (scells (chooseTo gs t first white s V)) 126 →
      Q (.exit 8) ⟨(u0 :: u1 :: u2 :: u3 :: u4 :: u5 :: u6 :: u7 :: .pointer (some ⟨bt, 0, none⟩) :: u9 :: .pointer (some ⟨gp, 0, none⟩) :: u11 :: u12 :: u13 :: u14 :: u15 :: .pointer (some ⟨fb, 0, none⟩) :: u17 :: u18 :: u19 :: .bool white :: .pointer (some ⟨xb, 0, none⟩) :: x22 :: u23 :: u24 :: u25 :: u26 :: u27 :: u28 :: u29 :: u30 :: u31 :: u32 :: u33 :: u34 :: u35 :: u36 :: u37 :: u38 :: u39 :: u40 :: u41 :: u42 :: u43 :: u44 :: u45 :: u46 :: u47 :: u48 :: u49 :: u50 :: u51 :: u52 :: u53 :: u54 :: u55 :: u56 :: u57 :: u58 :: u59 :: u60 :: u61 :: u62 :: u63 :: u64 :: u65 :: u66 :: u67 :: u68 :: u69 :: u70 :: u71 :: u72 :: u73 :: u74 :: u75 :: u76 :: u77 :: u78 :: u79 :: u80 :: u81 :: u82 :: u83 :: u84 :: u85 :: u86 :: u87 :: u88 :: u89 :: u90 :: u91 :: u92 :: u93 :: u94 :: u95 :: u96 :: u97 :: u98 :: u99 :: u100 :: u101 :: u102 :: u103 :: u104 :: u105 :: u106 :: u107 :: u108 :: u109 :: u110 :: u111 :: u112 :: u113 :: u114 :: u115 :: u116 :: u117 :: u118 :: u119 :: u120 :: u121 :: u122 :: u123 :: u124 :: u125 :: u126 :: u127 :: u128 :: u129 :: u130 :: u131 :: u132 :: u133 :: u134 :: .int .i64 V :: x136 :: x137 :: x138 :: x139 :: x140 :: x141 :: x142 :: x143 :: x144 :: x145 :: x146 :: x147 :: x148 :: x149 :: x150 :: x151 :: x152 :: x153 :: x154 :: x155 :: x156 :: x157 :: u158 :: u159 :: u160 :: u161 :: u162 :: u163 :: u164 :: u165 :: u166 :: u167 :: u168 :: u169 :: u170 :: u171 :: u172 :: u173 :: u174 :: u175 :: u176 :: u177 :: u178 :: u179 :: u180 :: u181 :: u182 :: u183 :: u184 :: u185 :: u186 :: u187 :: u188 :: u189 :: u190 :: []).toArray, ds⟩ W') :
    cD.wpIn (Fence.wide.inRound L) m Try.prog Q ⟨(u0 :: u1 :: u2 :: u3 :: u4 :: u5 :: u6 :: u7 :: .pointer (some ⟨bt, 0, none⟩) :: u9 :: .pointer (some ⟨gp, 0, none⟩) :: u11 :: u12 :: u13 :: u14 :: u15 :: .pointer (some ⟨fb, 0, none⟩) :: u17 :: u18 :: u19 :: .bool white :: .pointer (some ⟨xb, 0, none⟩) :: u22 :: u23 :: u24 :: u25 :: u26 :: u27 :: u28 :: u29 :: u30 :: u31 :: u32 :: u33 :: u34 :: u35 :: u36 :: u37 :: u38 :: u39 :: u40 :: u41 :: u42 :: u43 :: u44 :: u45 :: u46 :: u47 :: u48 :: u49 :: u50 :: u51 :: u52 :: u53 :: u54 :: u55 :: u56 :: u57 :: u58 :: u59 :: u60 :: u61 :: u62 :: u63 :: u64 :: u65 :: u66 :: u67 :: u68 :: u69 :: u70 :: u71 :: u72 :: u73 :: u74 :: u75 :: u76 :: u77 :: u78 :: u79 :: u80 :: u81 :: u82 :: u83 :: u84 :: u85 :: u86 :: u87 :: u88 :: u89 :: u90 :: u91 :: u92 :: u93 :: u94 :: u95 :: u96 :: u97 :: u98 :: u99 :: u100 :: u101 :: u102 :: u103 :: u104 :: u105 :: u106 :: u107 :: u108 :: u109 :: u110 :: u111 :: u112 :: u113 :: u114 :: u115 :: u116 :: u117 :: u118 :: u119 :: u120 :: u121 :: u122 :: u123 :: u124 :: u125 :: u126 :: u127 :: u128 :: u129 :: u130 :: u131 :: u132 :: u133 :: u134 :: .int .i64 V :: .int .i64 0 :: u137 :: u138 :: u139 :: u140 :: u141 :: u142 :: u143 :: u144 :: u145 :: u146 :: u147 :: u148 :: u149 :: u150 :: u151 :: u152 :: u153 :: u154 :: u155 :: u156 :: u157 :: u158 :: u159 :: u160 :: u161 :: u162 :: u163 :: u164 :: u165 :: u166 :: u167 :: u168 :: u169 :: u170 :: u171 :: u172 :: u173 :: u174 :: u175 :: u176 :: u177 :: u178 :: u179 :: u180 :: u181 :: u182 :: u183 :: u184 :: u185 :: u186 :: u187 :: u188 :: u189 :: u190 :: []).toArray, ds⟩ W := by
  have HE := Lib.hid hexit
  clear hexit
  conv => arg 4; whnf
  gi_loopw [136] (fun i wr => ∃ k : Nat, k ≤ V ∧ i = .int .i64 k ∧ Off [xb] W.heap.size W wr ∧ Blk wr xb (scells (chooseTo gs t first white s k)) 126) (fun i _ => V - (intOf i).toNat)
  case atStart => exact ⟨0, by omega, rfl, Off.refl _ _ _, bx⟩
  case round =>
    obtain ⟨k, hk, rfl, hO, hx⟩ := hrel
    have e8 := hO.blk b8 b8.lt (by simpa using d1)
    have e10 := hO.blk b10 b10.lt (by simpa using d2)
    have e16 := hO.blk b16 b16.lt (by simpa using d4)
    have eg := bg.off hO hgb (by simpa using d3)
    have hxl : xb < wr.heap.size := hx.lt
    have hnw := hO.size
    have hgbw : gb < wr.heap.size := by omega
    have n8 := b8.lt
    have n10 := b10.lt
    have n16 := b16.lt
    have nx := bx.lt
    have hsk : ∀ i, chooseTo gs t first white s k i < 1000 := fun i => by have := chooseTo_le gs t first white s k i; have := hs i; omega
    clear b8 b10 b16 bg bx hs
    by_cases hlt : k < V
    · have hlti : (k : Int) < V := by omega
      have hk8 : (k : Int) < 8 := by omega
      have hc1 := tcells_to t k (by omega)
      have hc2 := tcells_same t k (by omega)
      have hix := index_ties t k (by omega)
      have HS : Hid (chooseTo gs t first white s (k + 1) = if (t k).1 = first ∧ (t k).2 = white then withS gs (chooseTo gs t first white s k) k else chooseTo gs t first white s k) := rfl
      generalize tcells t = TC at *
      have r8 := e8.cell
      have r10 := e10.cell
      have r16 := e16.cell
      (repeat (first | ((with_reducible refine wpIn_region_of ?_ ?_ ?_); (focus exact fun ⟨a, w, h⟩ => hQ ⟨a, w, h⟩); (focus rfl)) | gi_step))
      go_wp2_with fail
      (repeat (first | ((with_reducible refine wpIn_region_of ?_ ?_ ?_); (focus exact fun ⟨a, w, h⟩ => hQ ⟨a, w, h⟩); (focus rfl)) | gi_step))
      go_wp2_with fail
      (repeat (first | ((with_reducible refine wpIn_region_of ?_ ?_ ?_); (focus exact fun ⟨a, w, h⟩ => hQ ⟨a, w, h⟩); (focus rfl)) | gi_step))
      by_cases hf : (t k).1 = first
      · have hfi : (((t k).1 : Int) == (first : Int)) = true := by simp [hf]
        by_cases hw : (t k).2 = white
        · have hwi : ((t k).2 == white) = true := by simp [hw]
          have h2 := HS.out
          rw [if_pos ⟨hf, hw⟩] at h2
          have hW0 := b_with (chooseTo gs t first white s k) hsk (some ⟨gb, 0, none⟩) gc gs hgl hvo k k rfl (by omega) wr.drew eg
          rw [← h2] at hW0
          clear h2 HS hf hw hsk
          obtain ⟨s2, hS3⟩ : ∃ s2, chooseTo gs t first white s (k + 1) = s2 := ⟨_, rfl⟩
          rw [hS3] at hW0
          have HW := Lib.hid hW0
          have HS3 := Lib.hid hS3
          clear hS3 hW0
          generalize chooseTo gs t first white s k = s1 at *
          refine Ord.wpIn_region (fun ⟨a, w, h⟩ => hQ ⟨a, w, h⟩) [(0, 0), (1, 0), (2, 0), (3, 0), (4, 0), (5, 0), (6, 0), (7, 0), (8, 0), (9, 0), (10, 0), (11, 0), (12, 0), (13, 0)] (fun _ => True) (by kernel_rfl) (by kernel_rfl) (by kernel_rfl) (fun c a d v w h => (hP c _ w h).elim) trivial ?_
          go_wp2_with (first | ((with_reducible refine Ord.at_calm ?_); refine Ord.calm_skip rfl ?_ (fun K hK => ?_); (focus (simp [Region.wanted, yielded]; done))) | with_reducible refine Ord.walk_calm rfl rfl (fun K hK => ?_) | ((with_reducible refine Ord.at_wild ?_); refine Ord.wild_fieldAddr rfl rfl (fun W => by simp [go_sem]; rfl) (fun K hK => ?_)) | ((with_reducible refine Ord.at_wild ?_); refine Ord.wild_move rfl rfl (fun K hK => ?_)) | ((with_reducible refine Ord.at_wild ?_); refine Ord.wild_nilCheck rfl rfl (fun K hK => ?_)) | with_reducible refine Ord.walk_eff rfl (by first | (simp; done) | assumption | (go_simp; done) | (repeat (first | assumption | exact Below.refl _ _ | refine Below.drew ?_ | refine Below.alloc ?_ (by first | omega | (simp; done) | (simp; omega)) _ | refine Below.setCell ?_ (by first | omega | (simp; done) | (simp; omega)) _ | refine Below.trans ?_ (Below.mono (by assumption) (by first | omega | (simp; done) | (simp; omega)))))) (fun K hK => ?_) | with_reducible refine Ord.at_fork ?_ ?_ | with_reducible refine Ord.walk_nil ?_ | (with_reducible refine Ord.next_of (by first | (simp; done) | (go_simp; done) | (repeat (first | assumption | exact Below.refl _ _ | refine Below.drew ?_ | refine Below.alloc ?_ (by first | omega | (simp; done) | (simp; omega)) _ | refine Below.setCell ?_ (by first | omega | (simp; done) | (simp; omega)) _ | refine Below.trans ?_ (Below.mono (by assumption) (by first | omega | (simp; done) | (simp; omega)))))) (fun _ => ?_)))
          (repeat (first | ((with_reducible refine wpIn_region_of ?_ ?_ ?_); (focus exact fun ⟨a, w, h⟩ => hQ ⟨a, w, h⟩); (focus rfl)) | gi_step))
          have q1 := scells_size s1
          have q2 := scells_size s2
          have q3 := ones_st s2
          generalize hX1 : scells s1 = X1 at *
          generalize hX2 : scells s2 = X2 at *
          have HX2 := Lib.hid hX2
          clear hX2
          clear eg e8 e16 r8 r16 hc1 hc2 hix hX1
          go_wp2_with (first
            | (refine wpList_load_blk 126 (.tmp 21) agg_st rfl rfl rfl hx.drew q1 ?_)
            | (go_at_call 99; refine HW.out.mono ?_; rintro e w4 ⟨rfl, hb4⟩)
            | (refine wpList_store_blk 126 (.tmp 21) (.tmp 156) agg_st rfl rfl rfl rfl (hx.drew.below hb4 hxl) q1 q2 q3 ?_; intro w5 h5))
          (repeat (first | ((with_reducible refine wpIn_region_of ?_ ?_ ?_); (focus exact fun ⟨a, w, h⟩ => hQ ⟨a, w, h⟩); (focus rfl)) | gi_step))
          go_wp2_with fail
          refine ⟨⟨k + 1, by omega, by go_num, ((hO.drew.trans (Off.of_below hb4 hnw)).rowed h5 (by simp)), (by rw [HS3.out, HX2.out]; exact h5.blk)⟩, by simp [intOf]; omega⟩
        · have hwi : ((t k).2 == white) = false := by simp [hw]
          have h2 := HS.out
          rw [if_neg (fun e => hw e.2)] at h2
          clear HS hf hw hsk
          rw [← h2] at hx
          clear h2
          refine Ord.wpIn_region (fun ⟨a, w, h⟩ => hQ ⟨a, w, h⟩) [(0, 0), (1, 0), (2, 0), (3, 0), (4, 0), (5, 0), (6, 0), (7, 0), (8, 0), (9, 0), (10, 0), (11, 0), (12, 0), (13, 0)] (fun _ => True) (by kernel_rfl) (by kernel_rfl) (by kernel_rfl) (fun c a d v w h => (hP c _ w h).elim) trivial ?_
          go_wp2_with (first | ((with_reducible refine Ord.at_calm ?_); refine Ord.calm_skip rfl ?_ (fun K hK => ?_); (focus (simp [Region.wanted, yielded]; done))) | with_reducible refine Ord.walk_calm rfl rfl (fun K hK => ?_) | ((with_reducible refine Ord.at_wild ?_); refine Ord.wild_fieldAddr rfl rfl (fun W => by simp [go_sem]; rfl) (fun K hK => ?_)) | ((with_reducible refine Ord.at_wild ?_); refine Ord.wild_move rfl rfl (fun K hK => ?_)) | ((with_reducible refine Ord.at_wild ?_); refine Ord.wild_nilCheck rfl rfl (fun K hK => ?_)) | with_reducible refine Ord.walk_eff rfl (by first | (simp; done) | assumption | (go_simp; done) | (repeat (first | assumption | exact Below.refl _ _ | refine Below.drew ?_ | refine Below.alloc ?_ (by first | omega | (simp; done) | (simp; omega)) _ | refine Below.setCell ?_ (by first | omega | (simp; done) | (simp; omega)) _ | refine Below.trans ?_ (Below.mono (by assumption) (by first | omega | (simp; done) | (simp; omega)))))) (fun K hK => ?_) | with_reducible refine Ord.at_fork ?_ ?_ | with_reducible refine Ord.walk_nil ?_ | (with_reducible refine Ord.next_of (by first | (simp; done) | (go_simp; done) | (repeat (first | assumption | exact Below.refl _ _ | refine Below.drew ?_ | refine Below.alloc ?_ (by first | omega | (simp; done) | (simp; omega)) _ | refine Below.setCell ?_ (by first | omega | (simp; done) | (simp; omega)) _ | refine Below.trans ?_ (Below.mono (by assumption) (by first | omega | (simp; done) | (simp; omega)))))) (fun _ => ?_)))
          (repeat (first | ((with_reducible refine wpIn_region_of ?_ ?_ ?_); (focus exact fun ⟨a, w, h⟩ => hQ ⟨a, w, h⟩); (focus rfl)) | gi_step))
          go_wp2_with fail
          refine ⟨⟨k + 1, by omega, by go_num, hO.drew, hx.drew⟩, by simp [intOf]; omega⟩
      · have hfi : (((t k).1 : Int) == (first : Int)) = false := by simp; omega
        have h2 := HS.out
        rw [if_neg (fun e => hf e.1)] at h2
        clear HS hf hsk
        rw [← h2] at hx
        clear h2
        refine Ord.wpIn_region (fun ⟨a, w, h⟩ => hQ ⟨a, w, h⟩) [(0, 0), (1, 0), (2, 0), (3, 0), (4, 0), (5, 0), (6, 0), (7, 0), (8, 0), (9, 0), (10, 0), (11, 0), (12, 0), (13, 0)] (fun _ => True) (by kernel_rfl) (by kernel_rfl) (by kernel_rfl) (fun c a d v w h => (hP c _ w h).elim) trivial ?_
        go_wp2_with (first | ((with_reducible refine Ord.at_calm ?_); refine Ord.calm_skip rfl ?_ (fun K hK => ?_); (focus (simp [Region.wanted, yielded]; done))) | with_reducible refine Ord.walk_calm rfl rfl (fun K hK => ?_) | ((with_reducible refine Ord.at_wild ?_); refine Ord.wild_fieldAddr rfl rfl (fun W => by simp [go_sem]; rfl) (fun K hK => ?_)) | ((with_reducible refine Ord.at_wild ?_); refine Ord.wild_move rfl rfl (fun K hK => ?_)) | ((with_reducible refine Ord.at_wild ?_); refine Ord.wild_nilCheck rfl rfl (fun K hK => ?_)) | with_reducible refine Ord.walk_eff rfl (by first | (simp; done) | assumption | (go_simp; done) | (repeat (first | assumption | exact Below.refl _ _ | refine Below.drew ?_ | refine Below.alloc ?_ (by first | omega | (simp; done) | (simp; omega)) _ | refine Below.setCell ?_ (by first | omega | (simp; done) | (simp; omega)) _ | refine Below.trans ?_ (Below.mono (by assumption) (by first | omega | (simp; done) | (simp; omega)))))) (fun K hK => ?_) | with_reducible refine Ord.at_fork ?_ ?_ | with_reducible refine Ord.walk_nil ?_ | (with_reducible refine Ord.next_of (by first | (simp; done) | (go_simp; done) | (repeat (first | assumption | exact Below.refl _ _ | refine Below.drew ?_ | refine Below.alloc ?_ (by first | omega | (simp; done) | (simp; omega)) _ | refine Below.setCell ?_ (by first | omega | (simp; done) | (simp; omega)) _ | refine Below.trans ?_ (Below.mono (by assumption) (by first | omega | (simp; done) | (simp; omega)))))) (fun _ => ?_)))
        (repeat (first | ((with_reducible refine wpIn_region_of ?_ ?_ ?_); (focus exact fun ⟨a, w, h⟩ => hQ ⟨a, w, h⟩); (focus rfl)) | gi_step))
        go_wp2_with fail
        refine ⟨⟨k + 1, by omega, by go_num, hO.drew, hx.drew⟩, by simp [intOf]; omega⟩
    · have hkl : k = V := by omega
      subst hkl
      (repeat (first | ((with_reducible refine wpIn_region_of ?_ ?_ ?_); (focus exact fun ⟨a, w, h⟩ => hQ ⟨a, w, h⟩); (focus rfl)) | gi_step))
      go_wp2_with fail
      (repeat (first | ((with_reducible refine wpIn_region_of ?_ ?_ ?_); (focus exact fun ⟨a, w, h⟩ => hQ ⟨a, w, h⟩); (focus rfl)) | gi_step))
      exact HE.out _ _ _ _ _ _ _ _ _ _ _ _ _ _ _ _ _ _ _ _ _ _ _ _ hO hx
end Go.Proofs.Ytjbjmoghloabpaa
