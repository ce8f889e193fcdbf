/- Parts of a proof: BlkB, BaseB, MbA, MbB, MbC. -/
import Derived.Test.YteeinehpneppnaaQ04
import Derived.Laws.MakeOwn
import Derived.OwnWalk
import Derived.Test.YteeinehpneppnaaQ02
import Derived.RangeFuncRecord
import Derived.LoopIn
import Derived.BigFrameIn
set_option linter.unusedVariables false
namespace Go
open Go.RowKit
section
variable {P : Program} {ops : Array Oper} {rest : List Oper} {o : Oper} {a : Act} {w : World} {Q : Exit → Act → World → Prop}
theorem madeCells_one (z : Value) (hz : z.cells = #[z]) (m : Nat) : madeCells z.cells m = Array.replicate m z := by
  apply Array.ext_getElem?
  intro i
  rw [hz]
  simp only [madeCells]
  by_cases h : i < m
  · simp [h, Nat.mod_one]
  · simp [h]
theorem wpList_make_blk (hg : o.guard = none) (l c : Operand) (t : TypeId) (hop : o.op = Op.makeSlice t l c) (e : TypeId) (i : TypeInfo) (z : Value) (h1 : P.underlying t = some (.slice e)) (h2 : P.info? e = some i) (h3 : i.zero = some z) (h4 : i.size = 1) (hz1 : z.cells = #[z])
    (kl kc : IntKind) (L C : Int) (k m : Nat) (hl : a.eval l = .int kl L) (hc : a.eval c = .int kc C) (hL : L = (k : Int)) (hC : C = (m : Int)) (hkm : k ≤ m) (b2 : i.bytes * m ≤ 281474976710656) (b3 : m ≤ maxLen)
    (hK : wpList P ops Q rest (a.put o.dst (.slice (some ⟨w.heap.size, 0, none⟩) k m)) (w.alloc (.cells (Array.replicate m z) e))) :
    wpList P ops Q (o :: rest) a w := by
  refine wpList_plain hg fun K hK' => ?_
  subst hL hC
  have h63' : (m : Int) ≤ 9223372036854775807 := by
    have h := b3
    simp [maxLen] at h
    omega
  have hb' : (i.bytes : Int) * (m : Int) ≤ 281474976710656 := by
    have h : ((i.bytes * m : Nat) : Int) ≤ 281474976710656 := by omega
    rwa [Int.natCast_mul] at h
  have hr := run_make (P := P) w t e i z h1 h2 h3 kl kc k m (by omega) (by omega) hb' h63'
  simp only [Int.toNat_natCast, h4, Nat.mul_one, madeCells_one z hz1] at hr
  unfold Oper.wp
  simp [execOp, hop, hl, hc, hr, Result.andThen]
  exact hK' _ _ hK
end
end Go
set_option linter.unusedVariables false
set_option linter.unusedSimpArgs false
namespace Go.Ord
/-- A binary operation among effects. -/
theorem wild_binOp {P : Program} {lo : List Oper} {Q : Exit → Act → World → Prop} {H : World → Prop} {k : Nat} {l : List (Nat × Nat)} {a : Act} {w : World} {d : Option Tmp} {ty t1 t2 : TypeId} {pos : String} {af : Array Edge} {g : Option (Nat × Bool)} {bo : BinOp} {x y : Operand}
    (v : Value) (ho : lo[k]? = some ⟨d, .binOp bo t1 x y t2, ty, pos, af, g⟩) (hr : ∀ W, (execOp a.eval ⟨d, .binOp bo t1 x y t2, ty, pos, af, g⟩).run P W = .ok (.value v) W)
    (h : ∀ K : Act → World → Prop, (∀ a, walk P lo.toArray H Q l a w → K a w) → wpList P lo.toArray (Exit.then K (fun _ _ _ => False)) [⟨d, .move (.const v), ty, pos, af, g⟩] a w) : walk P lo.toArray H Q ((k, 1) :: l) a w :=
  walk_wild_as ho v (fun W _ => by unfold yields; rw [hr W]; exact ⟨rfl, rfl⟩) h
/-- An operation that is not wanted. -/
theorem walk_skip {P : Program} {lo : List Oper} {Q : Exit → Act → World → Prop} {H : World → Prop} {k c : Nat} {l : List (Nat × Nat)} {a : Act} {w : World} {o : Oper} (ho : lo[k]? = some o) (hw : Region.wanted o (yielded lo.toArray a.tmps) = false)
    (h : ∀ K : Act → World → Prop, (∀ a, walk P lo.toArray H Q l a w → K a w) → wpList P lo.toArray (Exit.then K (fun _ _ _ => False)) [{ o with op := .move (.const undef) }] a w) : walk P lo.toArray H Q ((k, c) :: l) a w := by
  have := h (fun a' w' => w' = w ∧ walk P lo.toArray H Q l a' w) (fun _ h => ⟨rfl, h⟩)
  rw [walk]; simp only [at_list ho, hw, Bool.false_eq_true, if_false]
  simp only [wpList] at this
  have hwt : Region.wanted { o with op := .move (.const undef) } (yielded lo.toArray a.tmps) = Region.wanted o (yielded lo.toArray a.tmps) := rfl
  rw [hwt, hw] at this
  exact this.2
/-- The guard: an effect is next. -/
theorem at_eff {P : Program} {ops : Array Oper} {Q : Exit → Act → World → Prop} {H : World → Prop} {k : Nat} {l : List (Nat × Nat)} {a : Act} {w : World} (h : walk P ops H Q ((k, 2) :: l) a w) : walk P ops H Q ((k, 2) :: l) a w := h
end Go.Ord
set_option linter.unusedVariables false
set_option linter.unusedSimpArgs false
namespace Go.Proofs.Yteeinehpneppnaa
open Go.RowKit Go.Proofs
/-- Blocks below n are as they were, but those of a list. -/
structure Off (T : List Nat) (n : Nat) (w w' : World) : Prop where
  os : w'.os = w.os
  tape : w'.tape = w.tape
  output : w'.output = w.output
  size : w.heap.size ≤ w'.heap.size
  block : ∀ k, k < n → k ∉ T → w'.heap[k]? = w.heap[k]?
namespace Off
variable {T : List Nat} {n : Nat} {w w' w'' : World}
theorem refl (T : List Nat) (n : Nat) (w : World) : Off T n w w := ⟨rfl, rfl, rfl, Nat.le_refl _, fun _ _ _ => rfl⟩
theorem trans (h : Off T n w w') (k : Off T n w' w'') : Off T n w w'' :=
  ⟨k.os.trans h.os, k.tape.trans h.tape, k.output.trans h.output, Nat.le_trans h.size k.size, fun i hi ht => (k.block i hi ht).trans (h.block i hi ht)⟩
theorem mono {T' : List Nat} {m : Nat} (h : Off T n w w') (hm : m ≤ n) (hT : ∀ k, k < m → k ∈ T → k ∈ T') : Off T' m w w' :=
  ⟨h.os, h.tape, h.output, h.size, fun k hk ht => h.block k (by omega) (fun e => ht (hT k hk e))⟩
theorem of_below {m : Nat} (h : Below m w w') (hm : n ≤ m) : Off T n w w' := ⟨h.os, h.tape, h.output, h.size, fun k hk _ => h.block k (by omega)⟩
theorem below {m : Nat} (h : Off T n w w') (hm : m ≤ n) (hT : ∀ k ∈ T, m ≤ k) : Below m w w' := ⟨h.os, h.tape, h.output, h.size, fun k hk => h.block k (by omega) (fun e => absurd (hT k e) (by omega))⟩
theorem blk (h : Off T n w w') {b : Nat} {A : Array Value} {t : TypeId} (hb : Blk w b A t) (hn : b < n) (ht : b ∉ T) : Blk w' b A t := (h.block b hn ht).trans hb
theorem cell (h : Off T n w w') {a : Addr} (hn : a.block < n) (ht : a.block ∉ T) : w'.cell? a = w.cell? a := World.cell?_of_block (h.block _ hn ht)
theorem alloc (h : Off T n w w') (hn : n ≤ w'.heap.size) (o : Obj) : Off T n w (w'.alloc o) := h.trans (of_below ((Below.refl n w').alloc hn o) (Nat.le_refl _))
theorem drew (h : Off T n w w') : Off T n w w'.drew := ⟨h.os, h.tape, h.output, h.size, h.block⟩
theorem setCell (h : Off T n w w') {p : Addr} (hp : p.block ∈ T ∨ n ≤ p.block) (v : Value) : Off T n w (w'.setCell p v) :=
  h.trans ⟨rfl, rfl, rfl, by simp, fun k hk ht => Below.heap_setCell w' p v k (fun e => by subst e; rcases hp with hp | hp; exact ht hp; omega)⟩
theorem putObj (h : Off T n w w') {p : Nat} (hp : p ∈ T ∨ n ≤ p) (o : Obj) : Off T n w (w'.putObj p o) :=
  h.trans ⟨rfl, rfl, rfl, by simp, fun k hk ht => World.putObj_heap_other (fun e => by subst e; rcases hp with hp | hp; exact ht hp; omega)⟩
theorem rowed {b : Nat} {B : Array Value} {t : TypeId} (h : Off T n w w') (hr : Rowed w' b B t w'') (hp : b ∈ T ∨ n ≤ b) : Off T n w w'' := by
  have hb := hr.below (Below.refl b w') (Nat.le_refl _)
  refine h.trans ⟨hb.os, hb.tape, hb.output, by rw [hr.size]; exact Nat.le_refl _, fun k hk ht => ?_⟩
  exact hr.heap k (fun e => by subst e; rcases hp with hp | hp; exact ht hp; omega)
end Off
def sL : Code → Code
  | .seq a _ => a
  | c => c
def sR : Code → Code
  | .seq _ b => b
  | c => c
def sI : Code → Code
  | .loop c => c
  | .block _ c => c
  | .scope c => c
  | .rangeFunc _ _ _ c => c
  | c => c
theorem news_blk {w : World} {b : Nat} {A : Array Value} {t : TypeId} (h : Blk w b A t) : ∀ (j : Nat) (u : Value), A.toList[j]? = some u → w.cell? ((⟨b, 0, none⟩ : Addr).add j) = some u := by
  intro j u hu
  have : (⟨b, 0, none⟩ : Addr).add j = ⟨b, j, none⟩ := by simp [Addr.add]; try omega
  rw [this, h.cell]
  simpa using hu
/-- A walk is to stop here. -/
def Stop (p : Prop) : Prop := p
theorem at_stop {p : Prop} (h : Stop p) : p := h
theorem own_slice {w : World} {base : Nat} {e : TypeId} {size : Nat} {v : Value} {n : Nat} {xs : List Value} (h : w.ownsRow base e size v n xs) (hn : 0 < n) : ∃ g c, v = .slice (some ⟨g, 0, none⟩) n c := by
  obtain ⟨hl, ⟨-, h0⟩ | ⟨g', cap, cur, rfl, hg', hh, hn, hc, hs, ht⟩⟩ := h
  · omega
  · exact ⟨_, _, rfl⟩
/-- A list's cells, or nil. -/
def SrcAt (w : World) (sv : Value) (m size : Nat) (news : List Value) : Prop :=
  news.length = m * size ∧ ((∃ c, sv = .slice none m c ∧ m = 0) ∨ ∃ ad c, sv = .slice (some ad) m c ∧ ∀ j u, news[j]? = some u → w.cell? (ad.add j) = some u)
section
variable {P : Program} {w : World}
theorem run_append_none (base : Nat) (t ty e : TypeId) (i : TypeInfo) (ht : P.underlying t = some (.slice e)) (hi : P.info? e = some i)
    (v : Value) (n : Nat) (size : Nat) (xs : List Value) (hown : w.ownsRow base e size v n xs) (c : Nat) :
    (Builtin.append_ #[t, t] ty #[v, .slice none 0 c]).run P w = .ok v w := by
  rcases hown.2 with ⟨rfl, rfl⟩ | ⟨g, cap, cur, rfl, hbg, hg, hnc, hcm, hcs, htake⟩
  · simp [Builtin.append_, run_underlying ht, sizeOf, typeInfo, hi, Builtin.lenOf, Builtin.firstCells]
  · simp [Builtin.append_, run_underlying ht, sizeOf, typeInfo, hi, Builtin.lenOf, Builtin.firstCells, storeCells, hnc]
end
end Go.Proofs.Yteeinehpneppnaa
set_option linter.unusedVariables false
set_option linter.unusedSimpArgs false
namespace Go.Proofs.Yteeinehpneppnaa
open Go.RowKit Go.Proofs
theorem r_in (n lo hi : Int) (w : World) :
    Calls Try.prog 87 #[.int .i64 n, .int .i64 lo, .int .i64 hi] w (Same (.bool (inB n lo hi)) w) := by
  go_enter Try.func87, Try.ntmps87
  go_wp2
  all_goals go_ret
  all_goals (refine ⟨ret_bool ?_, rfl⟩; simp [inB]; try omega)

/-- A list that is read: its elements have n cells each. -/
def RowsAt {α : Type} (w : World) (a : Option Addr) (n : Nat) (f : α → List Value) (l : List α) : Prop :=
  ∀ i, (h : i < l.length) → ∃ gb go, a = some ⟨gb, go, none⟩ ∧ ∀ j u, (f l[i])[j]? = some u → w.cell? ⟨gb, go + i * n + j, none⟩ = some u
theorem RowsAt.below {α : Type} {w w' : World} {a : Option Addr} {n : Nat} {f : α → List Value} {l : List α} (h : RowsAt w a n f l) (hb : Below w.heap.size w w') : RowsAt w' a n f l := fun i hi =>
  let ⟨gb, go, h0, h1⟩ := h i hi
  ⟨gb, go, h0, fun j u hj => cell_later hb (h1 j u hj)⟩
/-- A way: places (water, rest), legs (lo, hi), mobs (start, lo, hi, thirst), what was seen (mob, place, lo, hi). -/
structure Mb where
  places : List (Bool × Int)
  legs : List (Int × Int)
  herds : List (Int × Int × Int × Int)
  seen : List (Int × Int × Int × Int)
def plc (p : Bool × Int) : List Value := [.bool p.1, .int .i64 p.2]
def spc (p : Int × Int) : List Value := [.int .i64 p.1, .int .i64 p.2]
def i4c (p : Int × Int × Int × Int) : List Value := [.int .i64 p.1, .int .i64 p.2.1, .int .i64 p.2.2.1, .int .i64 p.2.2.2]
/-- Where a way's lists lie. -/
structure Ma where
  pa : Option Addr
  pc : Nat
  la : Option Addr
  lc : Nat
  ha : Option Addr
  hc : Nat
  sa : Option Addr
  sc : Nat
abbrev mcells (m : Mb) (A : Ma) : Array Value := #[.slice A.pa m.places.length A.pc, .slice A.la m.legs.length A.lc, .slice A.ha m.herds.length A.hc, .slice A.sa m.seen.length A.sc]
abbrev mv (m : Mb) (A : Ma) : Value := .agg (mcells m A)
structure MbAt (w : World) (m : Mb) (A : Ma) : Prop where
  places : RowsAt w A.pa 2 plc m.places
  legs : RowsAt w A.la 2 spc m.legs
  herds : RowsAt w A.ha 4 i4c m.herds
  seen : RowsAt w A.sa 4 i4c m.seen
theorem MbAt.below {w w' : World} {m : Mb} {A : Ma} (h : MbAt w m A) (hb : Below w.heap.size w w') : MbAt w' m A :=
  ⟨h.places.below hb, h.legs.below hb, h.herds.below hb, h.seen.below hb⟩
def spanM (lo hi low high much : Int) : Bool := decide (low ≤ lo ∧ lo ≤ hi ∧ hi ≤ high ∧ hi - lo ≤ much)
theorem r_spanM (lo hi low high much : Int) (h1 : -1000 ≤ low) (h2 : high ≤ 1000) (w : World) :
    Calls Try.prog 88 #[.agg #[.int .i64 lo, .int .i64 hi], .int .i64 low, .int .i64 high, .int .i64 much] w (Gives (.bool (spanM lo hi low high much)) w) := by
  go_enter Try.func88, Try.ntmps88
  go_wp2
  all_goals go_ret
  all_goals (refine ⟨ret_bool ?_, (Below.refl _ _).alloc (Nat.le_refl _) _⟩; simp [spanM, *]; try omega)
theorem r_place (m : Mb) (A : Ma) (n : Int) (hl : m.places.length ≤ maxLen) (w : World) :
    Calls Try.prog 108 #[mv m A, .int .i64 n] w (Gives (.bool (inB n 0 (m.places.length - 1))) w) := by
  unfold mv mcells
  have hl2 : (m.places.length : Int) ≤ 9223372036854775807 := by unfold maxLen at hl; omega
  go_enter Try.func108, Try.ntmps108
  go_wp2_with (go_at_call 87; refine (r_in _ _ _ _).mono ?_; rintro e w' ⟨rfl, rfl⟩)
  go_ret
  exact ⟨rfl, (Below.refl _ _).alloc (Nat.le_refl _) _⟩
theorem r_herd (m : Mb) (A : Ma) (n : Int) (hl : m.herds.length ≤ maxLen) (w : World) :
    Calls Try.prog 51 #[mv m A, .int .i64 n] w (Gives (.bool (inB n 0 (m.herds.length - 1))) w) := by
  unfold mv mcells
  have hl2 : (m.herds.length : Int) ≤ 9223372036854775807 := by unfold maxLen at hl; omega
  go_enter Try.func51, Try.ntmps51
  go_wp2_with (go_at_call 87; refine (r_in _ _ _ _).mono ?_; rintro e w' ⟨rfl, rfl⟩)
  go_ret
  exact ⟨rfl, (Below.refl _ _).alloc (Nat.le_refl _) _⟩
end Go.Proofs.Yteeinehpneppnaa
set_option linter.unusedVariables false
set_option linter.unusedSimpArgs false
namespace Go.Proofs.Yteeinehpneppnaa
open Go.RowKit Go.Proofs
theorem RowsAt.get2 {w : World} {a : Option Addr} {l : List (Int × Int)} (h : RowsAt w a 2 spc l) {i : Nat} (hi : i < l.length) :
    ∃ gb go, a = some ⟨gb, go, none⟩ ∧ w.cell? ⟨gb, go + i * 2, none⟩ = some (.int .i64 l[i].1) ∧ w.cell? ⟨gb, go + i * 2 + 1, none⟩ = some (.int .i64 l[i].2) := by
  obtain ⟨gb, go, h0, h1⟩ := h i hi
  exact ⟨gb, go, h0, h1 0 _ rfl, h1 1 _ rfl⟩
theorem RowsAt.getP {w : World} {a : Option Addr} {l : List (Bool × Int)} (h : RowsAt w a 2 plc l) {i : Nat} (hi : i < l.length) :
    ∃ gb go, a = some ⟨gb, go, none⟩ ∧ w.cell? ⟨gb, go + i * 2, none⟩ = some (.bool l[i].1) ∧ w.cell? ⟨gb, go + i * 2 + 1, none⟩ = some (.int .i64 l[i].2) := by
  obtain ⟨gb, go, h0, h1⟩ := h i hi
  exact ⟨gb, go, h0, h1 0 _ rfl, h1 1 _ rfl⟩
theorem RowsAt.get4 {w : World} {a : Option Addr} {l : List (Int × Int × Int × Int)} (h : RowsAt w a 4 i4c l) {i : Nat} (hi : i < l.length) :
    ∃ gb go, a = some ⟨gb, go, none⟩ ∧ w.cell? ⟨gb, go + i * 4, none⟩ = some (.int .i64 l[i].1) ∧ w.cell? ⟨gb, go + i * 4 + 1, none⟩ = some (.int .i64 l[i].2.1) ∧ w.cell? ⟨gb, go + i * 4 + 2, none⟩ = some (.int .i64 l[i].2.2.1) ∧ w.cell? ⟨gb, go + i * 4 + 3, none⟩ = some (.int .i64 l[i].2.2.2) := by
  obtain ⟨gb, go, h0, h1⟩ := h i hi
  exact ⟨gb, go, h0, h1 0 _ rfl, h1 1 _ rfl, h1 2 _ rfl, h1 3 _ rfl⟩
theorem inB_of {n lo hi : Int} (h : inB n lo hi = true) : lo ≤ n ∧ n ≤ hi := by simpa [inB] using h
/-- Where a mob starts. -/
def startI (m : Mb) (h : Int) : Int := ((m.herds[h.toNat]?).getD (0, 0, 0, 0)).1
def fromB (m : Mb) (h n : Int) : Bool := inB h 0 (m.herds.length - 1) && (inB n 0 (m.places.length - 1) && decide (startI m h ≤ n))
/-- No list of a way is longer than a statement bears. -/
structure Mlen (m : Mb) : Prop where
  places : m.places.length ≤ 40
  legs : m.legs.length ≤ 40
  herds : m.herds.length ≤ 40
  seen : m.seen.length ≤ 40
set_option maxHeartbeats 4000000 in
set_option maxRecDepth 100000 in
theorem r_from (m : Mb) (A : Ma) (h n : Int) (hl : Mlen m) (w : World) (hm : MbAt w m A) :
    Calls Try.prog 89 #[mv m A, .int .i64 h, .int .i64 n] w (Gives (.bool (fromB m h n)) w) := by
  have H1 := Lib.hid (fun W => r_herd m A h (by have := hl.herds; unfold maxLen; omega) W)
  have H2 := Lib.hid (fun W => r_place m A n (by have := hl.places; unfold maxLen; omega) W)
  have HR : Hid (fromB m h n = (inB h 0 (m.herds.length - 1) && (inB n 0 (m.places.length - 1) && decide (startI m h ≤ n)))) := rfl
  have hh := hm.herds
  generalize fromB m h n = R at *
  cases h1 : inB h 0 (m.herds.length - 1)
  · rw [h1] at H1 HR
    unfold mv mcells at *
    go_enter Try.func89, Try.ntmps89
    go_wp2_with (first
      | (go_at_call 51; refine (H1.out _).mono ?_; rintro e w1 ⟨rfl, hb1⟩))
    go_ret
    exact ⟨by rw [HR.out]; rfl, ((Below.refl _ _).alloc (Nat.le_refl _) _).trans (hb1.mono (by first | omega | (simp; done) | (simp; omega)))⟩
  · have h1' := inB_of h1
    obtain ⟨i, rfl⟩ : ∃ i : Nat, h = (i : Int) := ⟨h.toNat, by omega⟩
    have hi : i < m.herds.length := by omega
    have hs : startI m (i : Int) = m.herds[i].1 := by unfold startI; simp [hi]
    obtain ⟨gb, go, e0, e1, e2, e3, e4⟩ := hh.get4 hi
    have hgb : gb < w.heap.size := World.block_lt_of_cell? w _ e1
    cases h2 : inB n 0 (m.places.length - 1)
    · rw [h1] at H1 HR
      rw [h2] at H2 HR
      unfold mv mcells at *
      clear e1 e2 e3 e4 e0 hs h1 h2
      go_enter Try.func89, Try.ntmps89
      go_wp2_with (first
        | (go_at_call 51; refine (H1.out _).mono ?_; rintro e w1 ⟨rfl, hb1⟩; obtain ⟨c1, f1, z1⟩ := after hb1 (World.size_alloc _ _))
        | (go_at_call 108; refine (H2.out _).mono ?_; rintro e w2 ⟨rfl, hb2⟩; obtain ⟨c2, f2, z2⟩ := after hb2 rfl))
      go_ret
      exact ⟨by rw [HR.out]; rfl, (((Below.refl _ _).alloc (Nat.le_refl _) _).trans (hb1.mono (by first | omega | (simp; done) | (simp; omega)))).trans (hb2.mono (by omega))⟩
    · rw [h1] at H1 HR
      rw [h2] at H2 HR
      rw [hs] at HR
      rcases A with ⟨pa, pc, la, lc, ha, hc, sa, sc⟩
      simp only at e0
      subst e0
      unfold mv mcells at *
      simp only at *
      clear e2 e3 e4 hs h1 h2 hh hm
      generalize m.herds[i].1 = st at *
      have hli : (m.herds.length : Int) ≤ 40 := by have := hl.herds; omega
      have hii : (i : Int) < (m.herds.length : Int) := by omega
      clear h1'
      go_enter Try.func89, Try.ntmps89
      go_wp2_with (first
        | (go_at_call 51; refine (H1.out _).mono ?_; rintro e w1 ⟨rfl, hb1⟩; obtain ⟨c1, f1, z1⟩ := after hb1 (World.size_alloc _ _))
        | (go_at_call 108; refine (H2.out _).mono ?_; rintro e w2 ⟨rfl, hb2⟩; obtain ⟨c2, f2, z2⟩ := after hb2 rfl))
      go_ret
      exact ⟨ret_bool (by rw [HR.out]; simp), (((Below.refl _ _).alloc (Nat.le_refl _) _).trans (hb1.mono (by first | omega | (simp; done) | (simp; omega)))).trans (hb2.mono (by omega))⟩
end Go.Proofs.Yteeinehpneppnaa
set_option linter.unusedVariables false
set_option linter.unusedSimpArgs false
namespace Go.Proofs.Yteeinehpneppnaa
open Go.RowKit Go.Proofs
def plOk (p : Bool × Int) : Bool := inB p.2 0 3
def lgOk (l : Int × Int) : Bool := spanM l.1 l.2 1 5 2
def hdOk (np : Nat) (h : Int × Int × Int × Int) : Bool := inB h.1 0 ((np : Int) - 2) && (spanM h.2.1 h.2.2.1 0 30 3 && inB h.2.2.2 0 20)
def snOk (m : Mb) (s : Int × Int × Int × Int) : Bool := fromB m s.1 s.2.1 && spanM s.2.2.1 s.2.2.2 0 100 100
def headM (m : Mb) : Bool := inB m.places.length 2 6 && (decide ((m.legs.length : Int) = (m.places.length : Int) - 1) && (decide ((m.herds.length : Int) ≤ 4) && decide ((m.seen.length : Int) ≤ 5)))
def validM (m : Mb) : Bool := headM m && (m.places.all plOk && (m.legs.all lgOk && (m.herds.all (hdOk m.places.length) && m.seen.all (snOk m))))
theorem agg_mob : AggTy Try.prog 27 4 := ⟨_, Try.underlying27, rfl, by kernel_rfl⟩
theorem all_stop {α : Type} (l : List α) (p : α → Bool) (k : Nat) (hk : k < l.length) (h2 : p l[k] = false) : l.all p = false := by
  rw [List.all_eq_false]; exact ⟨_, List.getElem_mem hk, by simp [h2]⟩
theorem all_more {α : Type} (l : List α) (p : α → Bool) (k : Nat) (hk : k < l.length) (h : (l.take k).all p = true) (h2 : p l[k] = true) : (l.take (k + 1)).all p = true := by
  rw [List.take_succ_eq_append_getElem hk, List.all_append, h]; simp [h2]
set_option maxHeartbeats 4000000 in
set_option maxRecDepth 100000 in
theorem r_mob_no (m : Mb) (A : Ma) (hl : Mlen m) (w : World) (hh : headM m = false) :
    Calls Try.prog 28 #[mv m A] w (Gives (.bool false) w) := by
  have l1 : (m.places.length : Int) ≤ 40 := by have := hl.places; omega
  have l2 : (m.legs.length : Int) ≤ 40 := by have := hl.legs; omega
  have l3 : (m.herds.length : Int) ≤ 40 := by have := hl.herds; omega
  have l4 : (m.seen.length : Int) ≤ 40 := by have := hl.seen; omega
  have HI := Lib.hid (fun a b c W => r_in a b c W)
  unfold headM at hh
  clear hl
  rcases m with ⟨ps, ls, hs, ss⟩
  unfold mv mcells at *
  simp only at *
  by_cases c1 : inB (ps.length : Int) 2 6 = true
  · rw [c1, Bool.true_and] at hh
    by_cases c2 : (ls.length : Int) = (ps.length : Int) - 1
    · rw [decide_eq_true c2, Bool.true_and] at hh
      have c2' : ((ls.length : Int) != (ps.length : Int) - 1) = false := by simp [c2]
      by_cases c3 : (hs.length : Int) ≤ 4
      · rw [decide_eq_true c3, Bool.true_and] at hh
        have c4 : ¬ (ss.length : Int) ≤ 5 := by simpa using hh
        have c4' : (5 : Int) < (ss.length : Int) := by omega
        clear hh c4 c2
        go_enter Try.func28, Try.ntmps28
        go_wp2_with (go_at_call 87; refine (HI.out _ _ _ _).mono ?_; rintro e w' ⟨rfl, rfl⟩; rw [c1])
        go_ret
        exact ⟨rfl, (Below.refl _ _).alloc (Nat.le_refl _) _⟩
      · have c3' : (4 : Int) < (hs.length : Int) := by omega
        clear hh c3 c2
        go_enter Try.func28, Try.ntmps28
        go_wp2_with (go_at_call 87; refine (HI.out _ _ _ _).mono ?_; rintro e w' ⟨rfl, rfl⟩; rw [c1])
        go_ret
        exact ⟨rfl, (Below.refl _ _).alloc (Nat.le_refl _) _⟩
    · have c2' : ((ls.length : Int) != (ps.length : Int) - 1) = true := by simpa using c2
      clear hh c2
      go_enter Try.func28, Try.ntmps28
      go_wp2_with (go_at_call 87; refine (HI.out _ _ _ _).mono ?_; rintro e w' ⟨rfl, rfl⟩; rw [c1])
      go_ret
      exact ⟨rfl, (Below.refl _ _).alloc (Nat.le_refl _) _⟩
  · have c1 : inB (ps.length : Int) 2 6 = false := by simpa using c1
    clear hh
    go_enter Try.func28, Try.ntmps28
    go_wp2_with (go_at_call 87; refine (HI.out _ _ _ _).mono ?_; rintro e w' ⟨rfl, rfl⟩; rw [c1])
    go_ret
    exact ⟨rfl, (Below.refl _ _).alloc (Nat.le_refl _) _⟩
set_option maxHeartbeats 40000000 in
set_option maxRecDepth 100000 in
theorem r_mob_yes (m : Mb) (A : Ma) (hl : Mlen m) (w : World) (hm : MbAt w m A) (hh : headM m = true) :
    Calls Try.prog 28 #[mv m A] w (Gives (.bool (validM m)) w) := by
  have HI := Lib.hid (fun a b c W => r_in a b c W)
  have HS := Lib.hid (fun a b c d e W h1 h2 => r_spanM a b c d e h1 h2 W)
  have HF := Lib.hid (fun W a b (hb : Below w.heap.size w W) => r_from m A a b hl W (hm.below hb))
  have HV : Hid (validM m = (m.places.all plOk && (m.legs.all lgOk && (m.herds.all (hdOk m.places.length) && m.seen.all (snOk m))))) := by
    show _ = _; unfold validM; rw [hh, Bool.true_and]
  have HSN : Hid (∀ s, snOk m s = (fromB m s.1 s.2.1 && spanM s.2.2.1 s.2.2.2 0 100 100)) := fun s => rfl
  generalize validM m = R at *
  generalize hsn : snOk m = sok at *
  generalize hfr : fromB m = fr at *
  unfold headM at hh
  simp only [Bool.and_eq_true, decide_eq_true_eq] at hh
  obtain ⟨h1, h2, h3, h4⟩ := hh
  have l1 := (inB_of h1).1
  have l2 := (inB_of h1).2
  obtain ⟨hpl, hlg, hhd, hse⟩ := hm
  clear hl hsn hfr
  have c2' : ((m.legs.length : Int) != (m.places.length : Int) - 1) = false := by simp [h2]
  rcases m with ⟨ps, ls, hs, ss⟩
  unfold mv mcells at *
  simp only at *
  go_enter Try.func28, Try.ntmps28
  go_wp2_with (go_at_call 87; refine (HI.out _ _ _ _).mono ?_; rintro e w' ⟨rfl, rfl⟩; rw [h1])
  have bb := (Blk.new w #[.slice A.pa ps.length A.pc, .slice A.la ls.length A.lc, .slice A.ha hs.length A.hc, .slice A.sa ss.length A.sc] 27)
  have hB := ((Below.refl w.heap.size w).alloc (Nat.le_refl _) (.cells #[.slice A.pa ps.length A.pc, .slice A.la ls.length A.lc, .slice A.ha hs.length A.hc, .slice A.sa ss.length A.sc] 27))
  obtain ⟨w1, hw1⟩ : ∃ w1, w.alloc (.cells #[.slice A.pa ps.length A.pc, .slice A.la ls.length A.lc, .slice A.ha hs.length A.hc, .slice A.sa ss.length A.sc] 27) = w1 := ⟨_, rfl⟩
  rw [hw1] at bb hB
  rw [hw1]
  clear hw1 h1
  rcases A with ⟨pa, pc, la, lc, ha, hc, sa, sc⟩
  simp only at *
  generalize hp : w.heap.size = p at *
  have HP := Lib.hid hp
  clear hp c2'
  have hp1 := bb.lt
  have np := (ps.length : Int)
  go_loop [3] (fun i => ∃ k : Nat, k ≤ ps.length ∧ i = .int .i64 k ∧ Hid ((ps.take k).all plOk = true)) (fun i => ps.length - (intOf i).toNat)
  case atStart => exact ⟨0, Nat.zero_le _, rfl, rfl⟩
  case round =>
    obtain ⟨k, hk, rfl, hall⟩ := hrel
    have rb := bb.cell
    by_cases hlt : k < ps.length
    · obtain ⟨gb, go, rfl, e1, e2⟩ := hpl.getP hlt
      have hgb : gb < p := by have h := World.block_lt_of_cell? w _ e1; rw [HP.out] at h; exact h
      have i2 := (hB.cell (p := ⟨gb, go + k * 2 + 1, none⟩) hgb).trans e2
      have hlti : (k : Int) < ps.length := by omega
      have HT := Lib.hid (fun h => all_more ps plOk k hlt hall.out h)
      have HN := Lib.hid (fun h => all_stop ps plOk k hlt h)
      unfold plOk at HT HN
      generalize ps[k] = x at *
      obtain ⟨x1, x2⟩ := x
      simp only at *
      clear e1 e2
      cases hx : inB x2 0 3
      · rw [hx] at HN HT
        go_wp2_with (go_at_call 87; refine (HI.out _ _ _ _).mono ?_; rintro e w' ⟨rfl, rfl⟩; rw [hx])
        go_ret
        have := HN.out (by trivial)
        refine ⟨ret_bool ?_, by rw [HP.out]; exact hB⟩
        rw [HV.out]
        have e : ps.all plOk = false := this
        rw [e]; rfl
      · rw [hx] at HN HT
        go_wp2_with (go_at_call 87; refine (HI.out _ _ _ _).mono ?_; rintro e w' ⟨rfl, rfl⟩; rw [hx])
        go_round
        case rel => exact ⟨k + 1, by omega, by go_num, HT.out (by trivial)⟩
        case measure => simp [intOf]; omega
    · have hlti : ¬ (k : Int) < (ps.length : Int) := by omega
      have e : k = ps.length := by omega
      subst e
      have HV1 : Hid (R = (ls.all lgOk && (hs.all (hdOk ps.length) && ss.all sok))) := by
        show _ = _
        have e := hall.out
        rw [List.take_length] at e
        rw [HV.out, e, Bool.true_and]
      clear hpl HV hall hk
      go_wp2_with fail
      clear rb
      go_loopw [4] (fun i wr => ∃ k : Nat, k ≤ ls.length ∧ i = .int .i64 k ∧ Hid ((ls.take k).all lgOk = true) ∧ Below w1.heap.size w1 wr) (fun i _ => ls.length - (intOf i).toNat)
      case atStart => exact ⟨0, Nat.zero_le _, rfl, rfl, Below.refl _ _⟩
      case round =>
        obtain ⟨k, hk, rfl, hall, hBr⟩ := hrel
        have bbr := bb.below hBr bb.lt
        have rb := bbr.cell
        have hBw := hB.trans (hBr.mono (by omega))
        have hsr := hBr.size
        by_cases hlt : k < ls.length
        · obtain ⟨gb, go, rfl, e1, e2⟩ := hlg.get2 hlt
          have hgb : gb < p := by have h := World.block_lt_of_cell? w _ e1; rw [HP.out] at h; exact h
          have i1 := (hBw.cell (p := ⟨gb, go + k * 2, none⟩) hgb).trans e1
          have i2 := (hBw.cell (p := ⟨gb, go + k * 2 + 1, none⟩) hgb).trans e2
          have hlti : (k : Int) < ls.length := by omega
          have HT := Lib.hid (fun h => all_more ls lgOk k hlt hall.out h)
          have HN := Lib.hid (fun h => all_stop ls lgOk k hlt h)
          unfold lgOk at HT HN
          generalize ls[k] = x at *
          obtain ⟨x1, x2⟩ := x
          simp only at *
          clear e1 e2
          cases hx : spanM x1 x2 1 5 2
          · rw [hx] at HN HT
            go_wp2_with (go_at_call 88; refine (HS.out _ _ _ _ _ _ (by omega) (by omega)).mono ?_; rw [hx]; rintro e w2 ⟨rfl, hb2⟩)
            go_ret
            have := HN.out (by trivial)
            refine ⟨ret_bool ?_, by rw [HP.out]; exact hBw.trans (hb2.mono (by omega))⟩
            rw [HV1.out]
            have e : ls.all lgOk = false := this
            rw [e]; rfl
          · rw [hx] at HN HT
            go_wp2_with (go_at_call 88; refine (HS.out _ _ _ _ _ _ (by omega) (by omega)).mono ?_; rw [hx]; rintro e w2 ⟨rfl, hb2⟩)
            exact ⟨⟨k + 1, by omega, by go_num, HT.out (by trivial), hBr.trans (hb2.mono hsr)⟩, by simp [intOf]; omega⟩
        · have hlti : ¬ (k : Int) < (ls.length : Int) := by omega
          have e : k = ls.length := by omega
          subst e
          have HV2 : Hid (R = (hs.all (hdOk ps.length) && ss.all sok)) := by
            show _ = _
            have e := hall.out
            rw [List.take_length] at e
            rw [HV1.out, e, Bool.true_and]
          clear hlg HV1 hall hk
          go_wp2_with fail
          clear rb
          generalize wr = wa at *
          clear bb hB hBr
          go_loopw [5] (fun i wr => ∃ k : Nat, k ≤ hs.length ∧ i = .int .i64 k ∧ Hid ((hs.take k).all (hdOk ps.length) = true) ∧ Below wa.heap.size wa wr) (fun i _ => hs.length - (intOf i).toNat)
          case atStart => exact ⟨0, Nat.zero_le _, rfl, rfl, Below.refl _ _⟩
          case round =>
            obtain ⟨k, hk, rfl, hall, hBr⟩ := hrel
            have bbx := bbr.below hBr bbr.lt
            have rb := bbx.cell
            have hBx := hBw.trans (hBr.mono (by omega))
            have hsx := hBr.size
            by_cases hlt : k < hs.length
            · obtain ⟨gb, go, rfl, e1, e2, e3, e4⟩ := hhd.get4 hlt
              have hgb : gb < p := by have h := World.block_lt_of_cell? w _ e1; rw [HP.out] at h; exact h
              have i1 := (hBx.cell (p := ⟨gb, go + k * 4, none⟩) hgb).trans e1
              have i2 := (hBx.cell (p := ⟨gb, go + k * 4 + 1, none⟩) hgb).trans e2
              have i3 := (hBx.cell (p := ⟨gb, go + k * 4 + 2, none⟩) hgb).trans e3
              have i4 := (hBx.cell (p := ⟨gb, go + k * 4 + 3, none⟩) hgb).trans e4
              have hlti : (k : Int) < hs.length := by omega
              have HT := Lib.hid (fun h => all_more hs (hdOk ps.length) k hlt hall.out h)
              have HN := Lib.hid (fun h => all_stop hs (hdOk ps.length) k hlt h)
              have HO : Hid (hdOk ps.length hs[k] = (inB hs[k].1 0 ((ps.length : Int) - 2) && (spanM hs[k].2.1 hs[k].2.2.1 0 30 3 && inB hs[k].2.2.2 0 20))) := rfl
              generalize hs[k] = x at *
              generalize hdOk ps.length x = hx at *
              obtain ⟨x1, x2, x3, x4⟩ := x
              simp only at *
              clear e1 e2 e3 e4
              cases c1 : inB x1 0 ((ps.length : Int) - 2)
              · rw [c1] at HO
                go_wp2_with (first
                  | (go_at_call 87; refine (HI.out _ _ _ _).mono ?_; rintro e w' ⟨rfl, rfl⟩; rw [c1])
                  | (go_at_call 88; refine (HS.out _ _ _ _ _ _ (by omega) (by omega)).mono ?_; rintro e w2 ⟨rfl, hb2⟩; obtain ⟨d2, f2, z2⟩ := after hb2 (World.size_alloc _ _)))
                go_ret
                refine ⟨ret_bool ?_, by rw [HP.out]; exact hBx.alloc (by have := bbx.lt; omega) _⟩
                have e : hs.all (hdOk ps.length) = false := HN.out (by rw [HO.out]; rfl)
                rw [HV2.out, e]; rfl
              · cases c2 : spanM x2 x3 0 30 3
                · rw [c1, c2] at HO
                  go_wp2_with (first
                    | (go_at_call 87; refine (HI.out _ _ _ _).mono ?_; rintro e w' ⟨rfl, rfl⟩; rw [c1])
                    | (go_at_call 88; refine (HS.out _ _ _ _ _ _ (by omega) (by omega)).mono ?_; rw [c2]; rintro e w2 ⟨rfl, hb2⟩; obtain ⟨d2, f2, z2⟩ := after hb2 (World.size_alloc _ _)))
                  go_ret
                  refine ⟨ret_bool ?_, by rw [HP.out]; exact (hBx.alloc (by have := bbx.lt; omega) _).trans (hb2.mono (by have := bbx.lt; simp; omega))⟩
                  have e : hs.all (hdOk ps.length) = false := HN.out (by rw [HO.out]; rfl)
                  rw [HV2.out, e]; rfl

                · cases c3 : inB x4 0 20
                  · rw [c1, c2, c3] at HO
                    go_wp2_with (first
                      | (go_at_call 87; refine (HI.out _ _ _ _).mono ?_; rintro e w' ⟨rfl, rfl⟩; first | rw [c1] | rw [c3])
                      | (go_at_call 88; refine (HS.out _ _ _ _ _ _ (by omega) (by omega)).mono ?_; rw [c2]; rintro e w2 ⟨rfl, hb2⟩; obtain ⟨d2, f2, z2⟩ := after hb2 (World.size_alloc _ _)))
                    go_ret
                    refine ⟨ret_bool ?_, by rw [HP.out]; exact (hBx.alloc (by have := bbx.lt; omega) _).trans (hb2.mono (by have := bbx.lt; simp; omega))⟩
                    have e : hs.all (hdOk ps.length) = false := HN.out (by rw [HO.out]; rfl)
                    rw [HV2.out, e]; rfl

                  · rw [c1, c2, c3] at HO
                    go_wp2_with (first
                  | (go_at_call 87; refine (HI.out _ _ _ _).mono ?_; rintro e w' ⟨rfl, rfl⟩; first | rw [c1] | rw [c3])
                  | (go_at_call 88; refine (HS.out _ _ _ _ _ _ (by omega) (by omega)).mono ?_; rw [c2]; rintro e w2 ⟨rfl, hb2⟩; obtain ⟨d2, f2, z2⟩ := after hb2 (World.size_alloc _ _)))
                    exact ⟨⟨k + 1, by omega, by go_num, HT.out (by rw [HO.out]; rfl), (hBr.alloc hsx _).trans (hb2.mono (by simp; omega))⟩, by simp [intOf]; omega⟩
            · have hlti : ¬ (k : Int) < (hs.length : Int) := by omega
              have e : k = hs.length := by omega
              subst e
              have HV3 : Hid (R = ss.all sok) := by
                show _ = _
                have e := hall.out
                rw [List.take_length] at e
                rw [HV2.out, e, Bool.true_and]
              clear hhd HV2 hall hk
              go_wp2_with fail
              clear rb
              generalize wr = wb at *
              clear bbr hBw hBr
              go_loopw [7] (fun i wr => ∃ k : Nat, k ≤ ss.length ∧ i = .int .i64 k ∧ Hid ((ss.take k).all sok = true) ∧ Below wb.heap.size wb wr) (fun i _ => ss.length - (intOf i).toNat)
              case atStart => exact ⟨0, Nat.zero_le _, rfl, rfl, Below.refl _ _⟩
              case round =>
                obtain ⟨k, hk, rfl, hall, hBr⟩ := hrel
                have bby := bbx.below hBr bbx.lt
                have rb := bby.cell
                have hBy := hBx.trans (hBr.mono (by omega))
                have hsy := hBr.size
                have hpy := bby.lt
                by_cases hlt : k < ss.length
                · obtain ⟨gb, go, rfl, e1, e2, e3, e4⟩ := hse.get4 hlt
                  have hgb : gb < p := by have h := World.block_lt_of_cell? w _ e1; rw [HP.out] at h; exact h
                  have i1 := (hBy.cell (p := ⟨gb, go + k * 4, none⟩) hgb).trans e1
                  have i2 := (hBy.cell (p := ⟨gb, go + k * 4 + 1, none⟩) hgb).trans e2
                  have i3 := (hBy.cell (p := ⟨gb, go + k * 4 + 2, none⟩) hgb).trans e3
                  have i4 := (hBy.cell (p := ⟨gb, go + k * 4 + 3, none⟩) hgb).trans e4
                  have hlti : (k : Int) < ss.length := by omega
                  have HT := Lib.hid (fun h => all_more ss sok k hlt hall.out h)
                  have HN := Lib.hid (fun h => all_stop ss sok k hlt h)
                  have HO := Lib.hid (HSN.out ss[k])
                  generalize ss[k] = x at *
                  generalize sok x = hx at *
                  obtain ⟨x1, x2, x3, x4⟩ := x
                  simp only at *
                  clear e1 e2 e3 e4
                  have hBa := hBy.alloc (by omega) (.cells #[.int .i64 x1, .int .i64 x2, .int .i64 x3, .int .i64 x4] 64)
                  have HFk := Lib.hid (HF.out (wr.alloc (.cells #[.int .i64 x1, .int .i64 x2, .int .i64 x3, .int .i64 x4] 64)) x1 x2 hBa)
                  cases c1 : fr x1 x2
                  · rw [c1] at HO
                    go_wp2_with (first
                      | (refine wpList_load_blk 27 (.tmp 1) agg_mob rfl rfl rfl (bby.alloc _) rfl ?_)
                      | (go_at_call 89; refine HFk.out.mono ?_; rw [c1]; rintro e w2 ⟨rfl, hb2⟩; obtain ⟨d2, f2, z2⟩ := after hb2 (World.size_alloc _ _))
                      | (go_at_call 88; refine (HS.out _ _ _ _ _ _ (by omega) (by omega)).mono ?_; rintro e w3 ⟨rfl, hb3⟩))
                    go_ret
                    refine ⟨ret_bool ?_, by rw [HP.out]; exact hBa.trans (hb2.mono (by simp; omega))⟩
                    have e : ss.all sok = false := HN.out (by rw [HO.out]; rfl)
                    rw [HV3.out, e]
                  · cases c2 : spanM x3 x4 0 100 100
                    · rw [c1, c2] at HO
                      go_wp2_with (first
                      | (refine wpList_load_blk 27 (.tmp 1) agg_mob rfl rfl rfl (bby.alloc _) rfl ?_)
                      | (go_at_call 89; refine HFk.out.mono ?_; rw [c1]; rintro e w2 ⟨rfl, hb2⟩; obtain ⟨d2, f2, z2⟩ := after hb2 (World.size_alloc _ _))
                      | (go_at_call 88; refine (HS.out _ _ _ _ _ _ (by omega) (by omega)).mono ?_; rw [c2]; rintro e w3 ⟨rfl, hb3⟩))
                      go_ret
                      refine ⟨ret_bool ?_, by rw [HP.out]; exact (hBa.trans (hb2.mono (by simp; omega))).trans (hb3.mono (by omega))⟩
                      have e : ss.all sok = false := HN.out (by rw [HO.out]; rfl)
                      rw [HV3.out, e]
                    · rw [c1, c2] at HO
                      go_wp2_with (first
                      | (refine wpList_load_blk 27 (.tmp 1) agg_mob rfl rfl rfl (bby.alloc _) rfl ?_)
                      | (go_at_call 89; refine HFk.out.mono ?_; rw [c1]; rintro e w2 ⟨rfl, hb2⟩; obtain ⟨d2, f2, z2⟩ := after hb2 (World.size_alloc _ _))
                      | (go_at_call 88; refine (HS.out _ _ _ _ _ _ (by omega) (by omega)).mono ?_; rw [c2]; rintro e w3 ⟨rfl, hb3⟩))
                      exact ⟨⟨k + 1, by omega, by go_num, HT.out (by rw [HO.out]; rfl), ((hBr.alloc hsy _).trans (hb2.mono (by simp; omega))).trans (hb3.mono (by omega))⟩, by simp [intOf]; omega⟩
                · have hlti : ¬ (k : Int) < (ss.length : Int) := by omega
                  have e : k = ss.length := by omega
                  subst e
                  have e : R = true := by
                    have e := hall.out
                    rw [List.take_length] at e
                    rw [HV3.out, e]
                  clear HV3
                  subst e
                  go_wp2_with fail
                  go_ret
                  exact ⟨rfl, by rw [HP.out]; exact hBy⟩
theorem r_mob (m : Mb) (A : Ma) (hl : Mlen m) (w : World) (hm : MbAt w m A) :
    Calls Try.prog 28 #[mv m A] w (Gives (.bool (validM m)) w) := by
  cases hh : headM m
  · rw [show validM m = false by unfold validM; rw [hh]; rfl]
    exact r_mob_no m A hl w hh
  · exact r_mob_yes m A hl w hm hh
end Go.Proofs.Yteeinehpneppnaa
