/- Parts of a proof: BnRefA, BnA, BnRefB, BnRefC, BnRefD, BnRefE, BnRefF, BnRefG. -/
import Derived.Test.YtjbjmoghloabpaaProg
import Derived.Test.YtjbjmoghloabpaaP01
import Derived.WalkKit
import Derived.WalkLawsBesides
import Derived.Lib.Hide
import Derived.Deep.DeepMust
import Derived.Maps.AppendAt
set_option linter.unusedVariables false
set_option linter.unusedSimpArgs false
namespace Go.Proofs.Ytjbjmoghloabpaa
open Go.RowKit Go.Proofs

theorem ret_bool {a b : Bool} (h : a = b) : Ending.returned (.bool a) = .returned (.bool b) := by rw [h]
theorem ret_int {k : IntKind} {a b : Int} (h : a = b) : Ending.returned (.int k a) = .returned (.int k b) := by rw [h]
/-- It returns this value; the world is the same. -/
def Same (v : Value) (w : World) (e : Ending) (w' : World) : Prop := e = .returned v ∧ w = w'
/-- It returns this value; nothing that was there has turned. -/
def Gives (v : Value) (w : World) (e : Ending) (w' : World) : Prop := e = .returned v ∧ Below w.heap.size w w'

/-- cell?, frozen? under names that no rule turns. -/
def cellX (w : World) (b o : Nat) : Option Value := w.cell? ⟨b, o, none⟩
def frozenX (w : World) (b o : Nat) : Bool := w.frozen? ⟨b, o, none⟩
/-- What a call leaves, as rules for the walk. -/
theorem after {W w' : World} {n : Nat} (hb : Below W.heap.size W w') (hn : W.heap.size = n) :
    (∀ b o, w'.cell? ⟨b, o, none⟩ = if b < n then W.cell? ⟨b, o, none⟩ else cellX w' b o) ∧
    (∀ b o, w'.frozen? ⟨b, o, none⟩ = if b < n then W.frozen? ⟨b, o, none⟩ else frozenX w' b o) ∧ n ≤ w'.heap.size := by
  subst hn
  refine ⟨fun b o => ?_, fun b o => ?_, hb.size⟩
  · split
    · exact hb.cell (p := ⟨b, o, none⟩) (by assumption)
    · rfl
  · split
    · exact hb.frozen (p := ⟨b, o, none⟩) (by assumption)
    · rfl
theorem below_rules {W w' : World} {n m : Nat} (hb : Below n W w') (hn : W.heap.size = m) :
    (∀ b o, w'.cell? ⟨b, o, none⟩ = if b < n then W.cell? ⟨b, o, none⟩ else cellX w' b o) ∧
    (∀ b o, w'.frozen? ⟨b, o, none⟩ = if b < n then W.frozen? ⟨b, o, none⟩ else frozenX w' b o) ∧ m ≤ w'.heap.size := by
  subst hn
  refine ⟨fun b o => ?_, fun b o => ?_, hb.size⟩
  · split
    · exact hb.cell (p := ⟨b, o, none⟩) (by assumption)
    · rfl
  · split
    · exact hb.frozen (p := ⟨b, o, none⟩) (by assumption)
    · rfl

/-- in -/
def inB (n lo hi : Int) : Bool := decide (lo ≤ n ∧ n ≤ hi)
theorem r_in (n lo hi : Int) (w : World) :
    Calls Try.prog 91 #[.int .i64 n, .int .i64 lo, .int .i64 hi] w (Same (.bool (inB n lo hi)) w) := by
  go_enter Try.func91, Try.ntmps91
  go_wp2
  all_goals go_ret
  all_goals (refine ⟨ret_bool ?_, rfl⟩; simp [inB]; try omega)

def spanB (lo hi high : Int) : Bool := decide (0 ≤ lo ∧ lo ≤ hi ∧ hi ≤ high)
theorem r_span (lo hi high : Int) (w : World) :
    Calls Try.prog 92 #[.agg #[.int .i64 lo, .int .i64 hi], .int .i64 high] w (Gives (.bool (spanB lo hi high)) w) := by
  go_enter Try.func92, Try.ntmps92
  go_wp2
  all_goals go_ret
  all_goals (refine ⟨ret_bool ?_, (Below.refl _ _).alloc (Nat.le_refl _) _⟩; simp [spanB, *]; try omega)

theorem r_power0 (n : Nat) (h : n ≤ 62) (w : World) :
    Calls Try.prog 82 #[.int .i64 n] w (Same (.int .i64 (2 ^ n : Nat)) w) := by
  go_enter Try.func82, Try.ntmps82
  go_wp2
  go_loop [3, 4] (fun o i => ∃ k p : Nat, k ≤ n ∧ p = 2 ^ k ∧ i = .int .i64 k ∧ o = .int .i64 p) (fun _ i => n - (intOf i).toNat)
  case atStart => exact ⟨0, 1, Nat.zero_le _, rfl, rfl, rfl⟩
  case round =>
    obtain ⟨k, p, hk, hp, rfl, rfl⟩ := hrel
    have hp1 : p ≤ 2 ^ 62 := by rw [hp]; exact Nat.pow_le_pow_right (by omega) (by omega)
    have hp3 : k < n → p ≤ 2 ^ 61 := fun h => by rw [hp]; exact Nat.pow_le_pow_right (by omega) (by omega)
    have hp2 := Lib.hid hp
    clear hp
    by_cases hlt : k < n
    · have hp4 : p ≤ 2305843009213693952 := hp3 hlt
      clear hp3 hp1
      go_wp2
      go_round
      case rel => exact ⟨k + 1, 2 * p, by omega, by rw [hp2.out, Nat.pow_succ]; omega, by go_num, by go_num⟩
      case measure => simp [intOf]; omega
    · clear hp3 hp1
      go_wp2
      go_ret
      have : k = n := by omega
      subst this
      exact ⟨ret_int (by rw [hp2.out]; rfl), rfl⟩

theorem r_power (x : Int) (n : Nat) (hx : x = n) (h : n ≤ 62) (w : World) :
    Calls Try.prog 82 #[.int .i64 x] w (Same (.int .i64 (2 ^ n : Nat)) w) := by subst hx; exact r_power0 n h w

def hasB (s n : Nat) : Bool := s / 2 ^ n % 2 == 1
/-- How many are in a set. -/
def szN : Nat → Nat → Nat
  | 0, _ => 0
  | f + 1, s => s % 2 + szN f (s / 2)
def sz (s : Nat) : Nat := szN 62 s
theorem szN_le (f s : Nat) : szN f s ≤ f := by
  induction f generalizing s with
  | zero => simp [szN]
  | succ f ih => have := ih (s / 2); simp only [szN]; omega
/-- A vote. -/
structure Bn where
  V : Int
  nd : Int
  lo : Int
  hi : Int
  gs : List (Int × Int × Int)
  ps : List (Int × Int × Bool)
abbrev bv (b : Bn) (ga : Option Addr) (gc : Nat) (pa : Option Addr) (pc : Nat) : Value :=
  .agg #[.int .i64 b.V, .int .i64 b.nd, .int .i64 b.lo, .int .i64 b.hi, .slice ga b.gs.length gc, .slice pa b.ps.length pc]
def GsAt (w : World) (ga : Option Addr) (gs : List (Int × Int × Int)) : Prop :=
  ∀ i, (h : i < gs.length) → ∃ gb go, ga = some ⟨gb, go, none⟩ ∧ w.cell? ⟨gb, go + i * 3, none⟩ = some (.int .i64 gs[i].1) ∧
    w.cell? ⟨gb, go + i * 3 + 1, none⟩ = some (.int .i64 gs[i].2.1) ∧ w.cell? ⟨gb, go + i * 3 + 2, none⟩ = some (.int .i64 gs[i].2.2)
def PsAt (w : World) (ga : Option Addr) (gs : List (Int × Int × Bool)) : Prop :=
  ∀ i, (h : i < gs.length) → ∃ gb go, ga = some ⟨gb, go, none⟩ ∧ w.cell? ⟨gb, go + i * 3, none⟩ = some (.int .i64 gs[i].1) ∧
    w.cell? ⟨gb, go + i * 3 + 1, none⟩ = some (.int .i64 gs[i].2.1) ∧ w.cell? ⟨gb, go + i * 3 + 2, none⟩ = some (.bool gs[i].2.2)
theorem cell_later {w w' : World} {a : Addr} {v : Value} (hb : Below w.heap.size w w') (h : w.cell? a = some v) : w'.cell? a = some v :=
  (hb.cell (World.block_lt_of_cell? w _ h)).trans h
theorem GsAt.below {w w' : World} {ga : Option Addr} {gs : List (Int × Int × Int)} (h : GsAt w ga gs) (hb : Below w.heap.size w w') : GsAt w' ga gs := fun i hi =>
  let ⟨gb, go, h0, h1, h2, h3⟩ := h i hi
  ⟨gb, go, h0, cell_later hb h1, cell_later hb h2, cell_later hb h3⟩
theorem PsAt.below {w w' : World} {ga : Option Addr} {gs : List (Int × Int × Bool)} (h : PsAt w ga gs) (hb : Below w.heap.size w w') : PsAt w' ga gs := fun i hi =>
  let ⟨gb, go, h0, h1, h2, h3⟩ := h i hi
  ⟨gb, go, h0, cell_later hb h1, cell_later hb h2, cell_later hb h3⟩

theorem r_voter (b : Bn) (ga : Option Addr) (gc : Nat) (pa : Option Addr) (pc : Nat) (n : Int) (w : World) :
    Calls Try.prog 59 #[bv b ga gc pa pc, .int .i64 n] w (Gives (.bool (inB n 0 (wrap64 (b.V - 1)))) w) := by
  unfold bv
  go_enter Try.func59, Try.ntmps59
  go_wp2_with (go_at_call 91; refine (r_in _ _ _ _).mono ?_; rintro e w' ⟨rfl, rfl⟩)
  go_ret
  exact ⟨rfl, (Below.refl _ _).alloc (Nat.le_refl _) _⟩
theorem r_number (b : Bn) (ga : Option Addr) (gc : Nat) (pa : Option Addr) (pc : Nat) (n : Int) (w : World) :
    Calls Try.prog 78 #[bv b ga gc pa pc, .int .i64 n] w (Gives (.bool (inB n 0 b.V)) w) := by
  unfold bv
  go_enter Try.func78, Try.ntmps78
  go_wp2_with (go_at_call 91; refine (r_in _ _ _ _).mono ?_; rintro e w' ⟨rfl, rfl⟩)
  go_ret
  exact ⟨rfl, (Below.refl _ _).alloc (Nat.le_refl _) _⟩
end Go.Proofs.Ytjbjmoghloabpaa
set_option linter.unusedVariables false
set_option linter.unusedSimpArgs false
namespace Go.Proofs.Ytjbjmoghloabpaa
open Go.RowKit Go.Proofs

theorem b_within (n lo hi : Int) (w : World) :
    Calls Try.prog 96 #[.int .i64 n, .int .i64 lo, .int .i64 hi] w (Same (.bool (inB n lo hi)) w) := by
  go_enter Try.func96, Try.ntmps96
  go_wp2
  all_goals go_ret
  all_goals (refine ⟨ret_bool ?_, rfl⟩; simp [inB]; try omega)

/-- The value that a panic of this error bears. -/
def stopV (e : Int) : Value := .iface 110 (.agg #[.int .i64 e])
/-- It panics with this error; nothing that was there has turned. -/
def Stops (e : Int) (w : World) (x : Ending) (w' : World) : Prop := x = .panicked [{ v := stopV e, recovered := false }] ∧ Below w.heap.size w w'
def StopsS (e : Int) (w : World) (x : Ending) (w' : World) : Prop := x = .panicked [{ v := stopV e, recovered := false }] ∧ w = w'
theorem b_must_yes (e : Int) (w : World) :
    Calls Try.prog 76 #[.bool true, .int .i64 e] w (Same (.tuple #[]) w) := by
  go_enter Try.func76, Try.ntmps76
  go_wp2
  go_end0
  exact ⟨rfl, rfl⟩
theorem b_must_no (e : Int) (w : World) :
    Calls Try.prog 76 #[.bool false, .int .i64 e] w (StopsS e w) := by
  go_enter Try.func76, Try.ntmps76
  go_wp2
  exact ⟨rfl, rfl, rfl⟩

theorem b_always (v : Value) (w : World) :
    Calls Try.prog 46 #[v] w (Same (.bool true) w) := by
  go_enter Try.func46, Try.ntmps46
  go_wp2
  go_ret
  exact ⟨rfl, rfl⟩

/-- The number of graded. -/
def grI (n all : Int) : Int := if n = all then 2 else if n = 0 then 0 else 1
theorem b_graded (x y : Int) (w : World) :
    Calls Try.prog 55 #[.int .i64 x, .int .i64 y] w (Same (.int .i64 (grI x y)) w) := by
  have HG : Hid (grI x y = if x = y then 2 else if x = 0 then 0 else 1) := rfl
  generalize grI x y = g at *
  go_enter Try.func55, Try.ntmps55
  go_wp2
  all_goals go_ret
  all_goals (refine ⟨ret_int ?_, rfl⟩; rw [HG.out]; simp only [beq_iff_eq, Bool.not_eq_true, beq_eq_false_iff_ne] at *)
  all_goals (first | (rw [if_pos (by omega)]; done) | (rw [if_neg (by omega), if_pos (by omega)]; done) | (rw [if_neg (by omega), if_neg (by omega)]; done) | skip)

/-- A vote that is looked at lies here. -/
structure VoteAt (w : World) (v : Nat) (b : Bn) (ga : Option Addr) (gc : Nat) (pa : Option Addr) (pc : Nat) (ka : Option Addr) (kl kc : Nat) : Prop where
  c0 : w.cell? ⟨v, 0, none⟩ = some (.int .i64 b.V)
  c1 : w.cell? ⟨v, 1, none⟩ = some (.int .i64 b.nd)
  c2 : w.cell? ⟨v, 2, none⟩ = some (.int .i64 b.lo)
  c3 : w.cell? ⟨v, 3, none⟩ = some (.int .i64 b.hi)
  c4 : w.cell? ⟨v, 4, none⟩ = some (.slice ga b.gs.length gc)
  c5 : w.cell? ⟨v, 5, none⟩ = some (.slice pa b.ps.length pc)
  c6 : w.cell? ⟨v, 6, none⟩ = some (.slice ka kl kc)
theorem VoteAt.below {w w' : World} {v : Nat} {b : Bn} {ga : Option Addr} {gc : Nat} {pa : Option Addr} {pc : Nat} {ka : Option Addr} {kl kc : Nat} (h : VoteAt w v b ga gc pa pc ka kl kc) (hb : Below w.heap.size w w') : VoteAt w' v b ga gc pa pc ka kl kc :=
  ⟨cell_later hb h.c0, cell_later hb h.c1, cell_later hb h.c2, cell_later hb h.c3, cell_later hb h.c4, cell_later hb h.c5, cell_later hb h.c6⟩

theorem b_isVoter (v : Nat) (V n : Int) (w : World) (h : w.cell? ⟨v, 0, none⟩ = some (.int .i64 V)) :
    Calls Try.prog 53 #[.pointer (some ⟨v, 0, none⟩), .int .i64 n] w (Same (.bool (inB n 0 (wrap64 (V - 1)))) w) := by
  go_enter Try.func53, Try.ntmps53
  go_wp2_with (go_at_call 96; refine (b_within _ _ _ _).mono ?_; rintro e w' ⟨rfl, rfl⟩)
  go_ret
  exact ⟨rfl, rfl⟩
theorem b_isNumber (v : Nat) (V n : Int) (w : World) (h : w.cell? ⟨v, 0, none⟩ = some (.int .i64 V)) :
    Calls Try.prog 75 #[.pointer (some ⟨v, 0, none⟩), .int .i64 n] w (Same (.bool (inB n 0 V)) w) := by
  go_enter Try.func75, Try.ntmps75
  go_wp2_with (go_at_call 96; refine (b_within _ _ _ _).mono ?_; rintro e w' ⟨rfl, rfl⟩)
  go_ret
  exact ⟨rfl, rfl⟩
theorem b_every (v : Nat) (w : World) (ka : Option Addr) (kl kc : Nat) (hk : kl ≤ 8) (h : w.cell? ⟨v, 6, none⟩ = some (.slice ka kl kc)) :
    Calls Try.prog 57 #[.pointer (some ⟨v, 0, none⟩)] w (Same (.int .u64 ((2 ^ kl - 1 : Nat) : Int)) w) := by
  go_enter Try.func57, Try.ntmps57
  go_wp2
  go_ret
  refine ⟨ret_int ?_, rfl⟩
  rcases (show kl = 0 ∨ kl = 1 ∨ kl = 2 ∨ kl = 3 ∨ kl = 4 ∨ kl = 5 ∨ kl = 6 ∨ kl = 7 ∨ kl = 8 by omega) with rfl | rfl | rfl | rfl | rfl | rfl | rfl | rfl | rfl <;> rfl
theorem b_isSpan (lo hi high : Int) (w : World) :
    Calls Try.prog 95 #[.agg #[.int .i64 lo, .int .i64 hi], .int .i64 high] w (Gives (.bool (spanB lo hi high)) w) := by
  go_enter Try.func95, Try.ntmps95
  go_wp2
  all_goals go_ret
  all_goals (refine ⟨ret_bool ?_, (Below.refl _ _).alloc (Nat.le_refl _) _⟩; simp [spanB, *]; try omega)
theorem b_gfits (vo lo hi n : Int) (w : World) :
    Calls Try.prog 107 #[.agg #[.int .u64 vo, .int .i64 lo, .int .i64 hi], .int .i64 n] w (Gives (.bool (inB n lo hi)) w) := by
  go_enter Try.func107, Try.ntmps107
  go_wp2_with (go_at_call 96; refine (b_within _ _ _ _).mono ?_; rintro e w' ⟨rfl, rfl⟩)
  go_ret
  exact ⟨rfl, (Below.refl _ _).alloc (Nat.le_refl _) _⟩
end Go.Proofs.Ytjbjmoghloabpaa
set_option linter.unusedVariables false
set_option linter.unusedSimpArgs false
namespace Go.Proofs.Ytjbjmoghloabpaa
open Go.RowKit Go.Proofs

/-- Is one group, one pair, a vote valid? -/
def gOk (V : Int) (g : Int × Int × Int) : Bool := inB g.1 0 ((2 ^ V.toNat : Nat) - 1) && spanB g.2.1 g.2.2 8
def pOk (V : Int) (p : Int × Int × Bool) : Bool := inB p.1 0 (V - 1) && inB p.2.1 0 (V - 1) && !(p.1 == p.2.1)
def headOk (b : Bn) : Bool := inB b.V 1 8 && inB b.nd 0 b.V && spanB b.lo b.hi b.V && decide (b.gs.length ≤ 4) && decide (b.ps.length ≤ 4)
def valid (b : Bn) : Bool := headOk b && b.gs.all (gOk b.V) && b.ps.all (pOk b.V)

/-- How many are in two sets. -/
def bothTo (x y : Nat) : Nat → Nat
  | 0 => 0
  | k + 1 => bothTo x y k + (hasB x k && hasB y k).toNat
theorem inB_of {n lo hi : Int} (h : inB n lo hi = true) : lo ≤ n ∧ n ≤ hi := by simpa [inB] using h
theorem headOk_no {b : Bn} (h : headOk b = false) : valid b = false := by simp [valid, h]

theorem gOk_no {b : Bn} {k : Nat} (hk : k < b.gs.length) (h : gOk b.V b.gs[k] = false) : valid b = false := by
  have : b.gs.all (gOk b.V) = false := by
    cases hx : b.gs.all (gOk b.V)
    · rfl
    · have := List.all_eq_true.1 hx _ (List.getElem_mem hk); rw [h] at this; cases this
  simp [valid, this]
theorem pOk_no {b : Bn} {k : Nat} (hk : k < b.ps.length) (h : pOk b.V b.ps[k] = false) : valid b = false := by
  have : b.ps.all (pOk b.V) = false := by
    cases hx : b.ps.all (pOk b.V)
    · rfl
    · have := List.all_eq_true.1 hx _ (List.getElem_mem hk); rw [h] at this; cases this
  simp [valid, this]
theorem all_take {α : Type} (l : List α) (f : α → Bool) (k : Nat) (hk : k < l.length) (h : (l.take k).all f = true) (h1 : f l[k] = true) : (l.take (k + 1)).all f = true := by
  rw [List.take_succ_eq_append_getElem hk, List.all_append, h]
  simp [h1]

set_option maxRecDepth 100000 in
theorem r_bean_no (b : Bn) (ga : Option Addr) (gc : Nat) (pa : Option Addr) (pc : Nat) (w : World)
    (hgl : b.gs.length ≤ 9223372036854775807) (hpl : b.ps.length ≤ 9223372036854775807) (hh : headOk b = false) :
    Calls Try.prog 36 #[bv b ga gc pa pc] w (Gives (.bool false) w) := by
  unfold bv
  rcases b with ⟨V, nd, lo, hi, gs, ps⟩
  have HH := Lib.hid hh
  simp only at hgl hpl
  clear hh
  go_enter Try.func36, Try.ntmps36
  go_wp2_with (first
    | (go_at_call 91; refine (r_in _ _ _ _).mono ?_; rintro e w' ⟨rfl, rfl⟩)
    | (go_at_call 92; refine (r_span _ _ _ _).mono ?_; rintro e w2 ⟨rfl, hb2⟩; obtain ⟨c2, f2, z2⟩ := after hb2 rfl)
    | (go_at_call 78; refine (r_number ⟨V, nd, lo, hi, gs, ps⟩ ga gc pa pc _ _).mono ?_; rintro e w1 ⟨rfl, hb1⟩; obtain ⟨c1, f1, z1⟩ := after hb1 (World.size_alloc _ _)))
  all_goals first
    | (go_ret
       refine ⟨ret_bool rfl, ?_⟩
       (repeat (first | assumption | exact Below.refl _ _ | refine Below.drew ?_ | refine Below.alloc ?_ (by first | omega | (simp; done) | (simp; omega)) _ | refine Below.setCell ?_ (by first | omega | (simp; done) | (simp; omega)) _ | refine Below.trans ?_ (Below.mono (by assumption) (by first | omega | (simp; done) | (simp; omega))))))
    | (exfalso
       have := HH.out
       simp [headOk, *] at this
       omega)
set_option maxHeartbeats 4000000 in
set_option maxRecDepth 100000 in
theorem r_bean_yes (b : Bn) (ga : Option Addr) (gc : Nat) (pa : Option Addr) (pc : Nat) (w : World) (hg : GsAt w ga b.gs) (hp : PsAt w pa b.ps)
    (hh : headOk b = true) :
    Calls Try.prog 36 #[bv b ga gc pa pc] w (Gives (.bool (valid b)) w) := by
  unfold bv
  generalize hvd : valid b = vd
  have HV := Lib.hid hvd
  clear hvd
  have GNO : Hid (∀ {k : Nat} (hk : k < b.gs.length), gOk b.V b.gs[k] = false → valid b = false) := Lib.hid gOk_no
  have PNO : Hid (∀ {k : Nat} (hk : k < b.ps.length), pOk b.V b.ps[k] = false → valid b = false) := Lib.hid pOk_no
  simp only [headOk, Bool.and_eq_true, decide_eq_true_eq] at hh
  obtain ⟨⟨⟨⟨h1, h2⟩, h3⟩, h4⟩, h5⟩ := hh
  have h6 : (b.gs.length : Int) ≤ 4 := by omega
  have h7 : (b.ps.length : Int) ≤ 4 := by omega
  have hV := inB_of h1
  rcases b with ⟨V, nd, lo, hi, gs, ps⟩
  simp only at h1 h2 h3 h4 h5 h6 h7 hV hg hp
  go_enter Try.func36, Try.ntmps36
  go_wp2_with (first
    | (go_at_call 91; refine (r_in _ _ _ _).mono ?_; rintro e w' ⟨rfl, rfl⟩)
    | (go_at_call 92; refine (r_span _ _ _ _).mono ?_; rintro e w2 ⟨rfl, hb2⟩; obtain ⟨c2, f2, z2⟩ := after hb2 rfl)
    | (go_at_call 78; refine (r_number ⟨V, nd, lo, hi, gs, ps⟩ ga gc pa pc _ _).mono ?_; rintro e w1 ⟨rfl, hb1⟩; obtain ⟨c1, f1, z1⟩ := after hb1 (World.size_alloc _ _)))
  have hw2 : Below w.heap.size w w2 := by
    (repeat (first | assumption | exact Below.refl _ _ | refine Below.drew ?_ | refine Below.alloc ?_ (by first | omega | (simp; done) | (simp; omega)) _ | refine Below.setCell ?_ (by first | omega | (simp; done) | (simp; omega)) _ | refine Below.trans ?_ (Below.mono (by assumption) (by first | omega | (simp; done) | (simp; omega)))))
  have HW2 := Lib.hid hw2
  clear hw2 hb1 hb2
  go_loopw [3] (fun i wr => ∃ k : Nat, k ≤ gs.length ∧ i = .int .i64 k ∧ (gs.take k).all (gOk V) = true ∧ Below w2.heap.size w2 wr) (fun i _ => gs.length - (intOf i).toNat)
  case atStart => exact ⟨0, Nat.zero_le _, rfl, by simp, Below.refl _ _⟩
  case round =>
    obtain ⟨k, hk, rfl, hall, hB⟩ := hrel
    obtain ⟨cR, fR, zR⟩ := after hB rfl
    have HA := Lib.hid hall
    have HBR := Lib.hid hB
    clear hall hB
    by_cases hlt : k < gs.length
    · obtain ⟨gb, go, rfl, e1, e2, e3⟩ := hg k hlt
      have hgb : gb < w.heap.size := World.block_lt_of_cell? w _ e1
      have hok := GNO.out hlt
      have HOK := Lib.hid hok
      clear hok
      have hlt' : (k : Int) < gs.length := by omega
      have hte := fun h1 => all_take gs (gOk V) k hlt HA.out h1
      have HTE := Lib.hid hte
      clear hte
      generalize hgk : gs[k] = g at *
      clear hgk
      rcases g with ⟨gv, gl, gh⟩
      simp only at e1 e2 e3 
      go_wp2_with fail
      refine Ord.wp_region [(0, 1), (1, 1), (2, 0), (3, 0), (4, 2), (5, 0), (6, 2), (7, 0), (8, 0), (9, 0), (10, 0), (11, 2), (12, 0), (13, 0)] (fun W => W.cell? ⟨wr.heap.size, 0, none⟩ = some (.int .i64 gv)) (by kernel_rfl) (by kernel_rfl) (fun c a d v w h => by cases d <;> exact h) (by simp) ?_
      have hV2 : (V.toNat : Int) = V := by omega
      have hpw := r_power V V.toNat (by omega) (by omega)
      have hpl := Nat.pow_le_pow_right (n := 2) (by omega) (show V.toNat ≤ 8 by omega)
      have hpg := Nat.two_pow_pos V.toNat
      have hgk2 : gOk V (gv, gl, gh) = (inB gv 0 (((2 ^ V.toNat : Nat) : Int) - 1) && spanB gl gh 8) := rfl
      generalize hp2 : 2 ^ V.toNat = p2 at *
      have HPW := Lib.hid hpw
      have HGK := Lib.hid hgk2
      replace hpl : p2 ≤ 256 := hpl
      clear hpw hgk2 hp2 hV2
      go_wp2_with (first
        | with_reducible refine Ord.walk_calm rfl rfl (fun K hK => ?_)
        | ((with_reducible refine Ord.at_wild ?_); refine Ord.wild_fieldAddr rfl rfl (fun W => by simp [go_sem]; rfl) (fun K hK => ?_))
        | ((with_reducible refine Ord.at_wild ?_); refine Ord.wild_load (.int .i64 gv) rfl rfl (fun W hW => by simp [go_sem, hW]) (fun K hK => ?_))
        | with_reducible refine Ord.walk_eff rfl (by simp) (fun K hK => ?_)
        | with_reducible refine Ord.walk_nil ?_
        | (with_reducible refine Ord.next_of (by first | (simp; done) | (go_simp; done)) (fun _ => ?_))
        | (go_at_call 82; refine (HPW.out _).mono ?_; rintro e w' ⟨rfl, rfl⟩)
        | (go_at_call 91; refine (r_in _ _ _ _).mono ?_; rintro e w' ⟨rfl, rfl⟩)
        | (go_at_call 92; refine (r_span _ _ _ _).mono ?_; rintro e w4 ⟨rfl, hb4⟩; obtain ⟨c4, f4, z4⟩ := after hb4 (World.size_alloc _ _)))
      all_goals first
        | (go_ret
           refine ⟨ret_bool ?_, ?_⟩
           · rw [← HV.out, HOK.out (by rw [HGK.out]; (try simp only [Bool.not_eq_true', Bool.not_eq_false'] at *); simp [*])]
           · have hB0 := HW2.out.trans (HBR.out.mono (by omega))
             (repeat (first | assumption | exact Below.refl _ _ | refine Below.drew ?_ | refine Below.alloc ?_ (by first | omega | (simp; done) | (simp; omega)) _ | refine Below.setCell ?_ (by first | omega | (simp; done) | (simp; omega)) _ | refine Below.trans ?_ (Below.mono (by assumption) (by first | omega | (simp; done) | (simp; omega))))))
        | (refine ⟨⟨k + 1, by omega, by go_num, HTE.out (by rw [HGK.out]; (try simp only [Bool.not_eq_true', Bool.not_eq_false'] at *); simp [*]), ?_⟩, by simp [intOf]; omega⟩
           have hB0 := HBR.out
           (repeat (first | assumption | exact Below.refl _ _ | refine Below.drew ?_ | refine Below.alloc ?_ (by first | omega | (simp; done) | (simp; omega)) _ | refine Below.setCell ?_ (by first | omega | (simp; done) | (simp; omega)) _ | refine Below.trans ?_ (Below.mono (by assumption) (by first | omega | (simp; done) | (simp; omega))))))
    · have hkl : k = gs.length := by omega
      have HKL := Lib.hid hkl
      clear hkl
      obtain ⟨wA, rfl⟩ : ∃ wA : World, wA = wr := ⟨_, rfl⟩
      have HVT : Hid (∀ (n : Int) (w : World), Calls Try.prog 59 #[bv ⟨V, nd, lo, hi, gs, ps⟩ ga gc pa pc, .int .i64 n] w (Gives (.bool (inB n 0 (V - 1))) w)) := by
        intro n w
        have := r_voter ⟨V, nd, lo, hi, gs, ps⟩ ga gc pa pc n w
        rwa [IntWalk.wrap64_in (V - 1) (by omega)] at this
      go_wp2_with fail
      go_loopw [5] (fun i wr => ∃ k : Nat, k ≤ ps.length ∧ i = .int .i64 k ∧ (ps.take k).all (pOk V) = true ∧ Below wA.heap.size wA wr) (fun i _ => ps.length - (intOf i).toNat)
      case atStart => exact ⟨0, Nat.zero_le _, rfl, by simp, Below.refl _ _⟩
      case round =>
        obtain ⟨m, hm, rfl, hall, hB⟩ := hrel
        obtain ⟨cS, fS, zS⟩ := after hB rfl
        have HA2 := Lib.hid hall
        have HBS := Lib.hid hB
        clear hall hB
        by_cases hlt2 : m < ps.length
        · obtain ⟨pb, po, rfl, e1, e2, e3⟩ := hp m hlt2
          have hpb : pb < w.heap.size := World.block_lt_of_cell? w _ e1
          have hok := PNO.out hlt2
          have HOK := Lib.hid hok
          have hlt' : (m : Int) < ps.length := by omega
          have hte := fun h1 => all_take ps (pOk V) m hlt2 HA2.out h1
          have HTE := Lib.hid hte
          clear hte hok
          generalize hgk : ps[m] = p at *
          clear hgk
          rcases p with ⟨pA, pB, pS⟩
          simp only at e1 e2 e3
          have hpk2 : pOk V (pA, pB, pS) = (inB pA 0 (V - 1) && inB pB 0 (V - 1) && !(pA == pB)) := rfl
          have HPK := Lib.hid hpk2
          clear hpk2
          go_wp2_with fail
          refine (HVT.out _ _).mono ?_
          rintro e w4 ⟨rfl, hb4⟩
          obtain ⟨c4, f4, z4⟩ := after hb4 (World.size_alloc _ _)
          by_cases q1 : inB pA 0 (V - 1) = true
          · go_wp2_with fail
            refine (HVT.out _ _).mono ?_
            rintro e w5 ⟨rfl, hb5⟩
            obtain ⟨c5, f5, z5⟩ := after hb5 rfl
            go_wp2_with fail
            all_goals have hB0 := HBS.out
            all_goals first
              | (go_ret
                 refine ⟨ret_bool ?_, ?_⟩
                 · rw [← HV.out, HOK.out (by rw [HPK.out]; (try simp only [Bool.not_eq_true', Bool.not_eq_false'] at *); simp [*])]
                 · replace hB0 := HW2.out.trans ((HBR.out.mono (by omega)).trans (hB0.mono (by omega)))
                   (repeat (first | assumption | exact Below.refl _ _ | refine Below.drew ?_ | refine Below.alloc ?_ (by first | omega | (simp; done) | (simp; omega)) _ | refine Below.setCell ?_ (by first | omega | (simp; done) | (simp; omega)) _ | refine Below.trans ?_ (Below.mono (by assumption) (by first | omega | (simp; done) | (simp; omega))))))
              | (refine ⟨⟨m + 1, by omega, by go_num, HTE.out (by rw [HPK.out]; (try simp only [Bool.not_eq_true', Bool.not_eq_false'] at *); simp [*]), ?_⟩, by simp [intOf]; omega⟩
                 (repeat (first | assumption | exact Below.refl _ _ | refine Below.drew ?_ | refine Below.alloc ?_ (by first | omega | (simp; done) | (simp; omega)) _ | refine Below.setCell ?_ (by first | omega | (simp; done) | (simp; omega)) _ | refine Below.trans ?_ (Below.mono (by assumption) (by first | omega | (simp; done) | (simp; omega))))))
          · go_wp2_with fail
            have hB0 := HBS.out
            go_ret
            refine ⟨ret_bool ?_, ?_⟩
            · rw [← HV.out, HOK.out (by rw [HPK.out]; simp [*])]
            · replace hB0 := HW2.out.trans ((HBR.out.mono (by omega)).trans (hB0.mono (by omega)))
              (repeat (first | assumption | exact Below.refl _ _ | refine Below.drew ?_ | refine Below.alloc ?_ (by first | omega | (simp; done) | (simp; omega)) _ | refine Below.setCell ?_ (by first | omega | (simp; done) | (simp; omega)) _ | refine Below.trans ?_ (Below.mono (by assumption) (by first | omega | (simp; done) | (simp; omega)))))
        · go_wp2_with fail
          go_ret
          refine ⟨ret_bool ?_, HW2.out.trans ((HBR.out.mono (by omega)).trans (HBS.out.mono (by omega)))⟩
          rw [← HV.out]
          have h10 := HA.out
          have h11 := HA2.out
          rw [List.take_of_length_le (by have := HKL.out; omega)] at h10
          rw [List.take_of_length_le (by omega)] at h11
          simp only [valid, h10, h11, headOk, *]
          simp
end Go.Proofs.Ytjbjmoghloabpaa
set_option linter.unusedVariables false
set_option linter.unusedSimpArgs false
namespace Go.Proofs.Ytjbjmoghloabpaa
open Go.RowKit Go.Proofs

/-- Is one thing that is known right, if these voters gave white beans? -/
def rightB (b : Bn) (i wh : Nat) : Bool :=
  if h : i < b.gs.length then inB (bothTo b.gs[i].1.toNat wh 8 : Nat) b.gs[i].2.1 b.gs[i].2.2
  else if h : i - b.gs.length < b.ps.length then (hasB wh b.ps[i - b.gs.length].1.toNat == hasB wh b.ps[i - b.gs.length].2.1.toNat) == b.ps[i - b.gs.length].2.2
  else true
/-- How many things are known. -/
abbrev Bn.kn (b : Bn) : Nat := b.gs.length + b.ps.length

theorem valid_head {b : Bn} (h : valid b = true) : headOk b = true := by simp only [valid, Bool.and_eq_true] at h; exact h.1.1
theorem valid_V {b : Bn} (h : valid b = true) : 1 ≤ b.V ∧ b.V ≤ 8 := by
  have := valid_head h; simp only [headOk, Bool.and_eq_true] at this; exact inB_of this.1.1.1.1
theorem valid_nd {b : Bn} (h : valid b = true) : 0 ≤ b.nd ∧ b.nd ≤ b.V := by
  have := valid_head h; simp only [headOk, Bool.and_eq_true] at this; exact inB_of this.1.1.1.2
theorem valid_wh {b : Bn} (h : valid b = true) : 0 ≤ b.lo ∧ b.lo ≤ b.hi ∧ b.hi ≤ b.V := by
  have := valid_head h; simp only [headOk, Bool.and_eq_true] at this; simpa [spanB] using this.1.1.2
theorem valid_len {b : Bn} (h : valid b = true) : b.gs.length ≤ 4 ∧ b.ps.length ≤ 4 := by
  have := valid_head h; simp only [headOk, Bool.and_eq_true, decide_eq_true_eq] at this; exact ⟨this.1.2, this.2⟩
theorem valid_g {b : Bn} (h : valid b = true) {i : Nat} (hi : i < b.gs.length) : 0 ≤ b.gs[i].1 ∧ b.gs[i].1 < 2 ^ b.V.toNat ∧ b.gs[i].1 < 256 ∧ 0 ≤ b.gs[i].2.1 ∧ b.gs[i].2.1 ≤ b.gs[i].2.2 ∧ b.gs[i].2.2 ≤ 8 := by
  have hV := valid_V h
  simp only [valid, Bool.and_eq_true] at h
  have h1 := List.all_eq_true.1 h.1.2 _ (List.getElem_mem hi)
  simp only [gOk, Bool.and_eq_true] at h1
  have h2 := inB_of h1.1
  have h3 : 0 ≤ b.gs[i].2.1 ∧ b.gs[i].2.1 ≤ b.gs[i].2.2 ∧ b.gs[i].2.2 ≤ 8 := by simpa [spanB] using h1.2
  have h4 : 2 ^ b.V.toNat ≤ 2 ^ 8 := Nat.pow_le_pow_right (by omega) (by omega)
  have h5 : ((2 ^ b.V.toNat : Nat) : Int) ≤ 256 := by have : (2:Nat) ^ 8 = 256 := rfl; omega
  refine ⟨h2.1, ?_, by omega, h3⟩
  have : ((2 : Int) ^ b.V.toNat) = ((2 ^ b.V.toNat : Nat) : Int) := by simp
  omega
theorem valid_p {b : Bn} (h : valid b = true) {i : Nat} (hi : i < b.ps.length) : 0 ≤ b.ps[i].1 ∧ b.ps[i].1 < b.V ∧ 0 ≤ b.ps[i].2.1 ∧ b.ps[i].2.1 < b.V ∧ b.ps[i].1 ≠ b.ps[i].2.1 := by
  simp only [valid, Bool.and_eq_true] at h
  have h1 := List.all_eq_true.1 h.2 _ (List.getElem_mem hi)
  simp only [pOk, Bool.and_eq_true] at h1
  have h2 := inB_of h1.1.1
  have h3 := inB_of h1.1.2
  have h4 : b.ps[i].1 ≠ b.ps[i].2.1 := by simpa using h1.2
  exact ⟨h2.1, by omega, h3.1, by omega, h4⟩

end Go.Proofs.Ytjbjmoghloabpaa
set_option linter.unusedVariables false
set_option linter.unusedSimpArgs false
namespace Go.Proofs.Ytjbjmoghloabpaa
open Go.RowKit Go.Proofs
theorem ownsRow_below {W w' : World} {base : Nat} {e : TypeId} {size : Nat} {v : Value} {n : Nat} {xs : List Value} (h : W.ownsRow base e size v n xs) (hb : Below W.heap.size W w') : w'.ownsRow base e size v n xs := by
  obtain ⟨h1, h2⟩ := h
  refine ⟨h1, h2.imp id ?_⟩
  rintro ⟨g, cap, cur, hv, hg, hh, r⟩
  exact ⟨g, cap, cur, hv, hg, (hb.block g (Array.getElem?_eq_some_iff.1 hh).1).trans hh, r⟩

def natV (n : Nat) : Value := .int .i64 (n : Nat)
/-- A slice of ints that reads as a list of numbers. -/
def IntsAt (w : World) (a : Option Addr) (l : List Nat) : Prop :=
  ∀ i, (h : i < l.length) → ∃ b o, a = some ⟨b, o, none⟩ ∧ w.cell? ⟨b, o + i, none⟩ = some (.int .i64 (l[i] : Nat))
theorem IntsAt.below {w w' : World} {a : Option Addr} {l : List Nat} (h : IntsAt w a l) (hb : Below w.heap.size w w') : IntsAt w' a l := fun i hi =>
  let ⟨b, o, h0, h1⟩ := h i hi
  ⟨b, o, h0, cell_later hb h1⟩
theorem IntsAt.of_own {w : World} {base : Nat} {e : TypeId} {v : Value} {l : List Nat} (h : w.ownsRow base e 1 v l.length (l.map natV)) :
    ∃ a c, v = .slice a l.length c ∧ IntsAt w a l := by
  obtain ⟨h1, h2⟩ := h
  rcases h2 with ⟨rfl, h0⟩ | ⟨g, cap, cur, rfl, hg, hh, hn, hc, hs, ht⟩
  · exact ⟨none, 0, by rw [h0], fun i hi => by omega⟩
  · refine ⟨_, cap, rfl, fun i hi => ⟨g, 0, rfl, ?_⟩⟩
    have : (cur.toList.take (l.length * 1))[i]? = (l.map natV)[i]? := by rw [ht]
    rw [List.getElem?_take] at this
    simp only [Nat.mul_one, hi, if_true, List.getElem?_map, List.getElem?_eq_getElem hi, Option.map_some] at this
    simp only [World.cell?, hh]
    simpa [natV] using this

/-- Is it a truth, by what of a set is known? -/
def okTo (b : Bn) (set wh : Nat) : Nat → Bool
  | 0 => inB (sz wh : Nat) b.lo b.hi
  | k + 1 => okTo b set wh k && (!hasB set k || rightB b k wh)
def okB (b : Bn) (set wh : Nat) : Bool := okTo b set wh b.kn
def truthsL (b : Bn) (set : Nat) : List Nat := (List.range (2 ^ b.V.toNat)).filter (okB b set)
end Go.Proofs.Ytjbjmoghloabpaa
set_option linter.unusedVariables false
set_option linter.unusedSimpArgs false
namespace Go.Proofs.Ytjbjmoghloabpaa
open Go.RowKit Go.Proofs

/-- All truths. -/
def TL (b : Bn) : List Nat := truthsL b (2 ^ b.kn - 1)
def chkE (b : Bn) (vb : Bool) : Int := if valid b = false then 1 else if vb = false then 2 else 0
def toldE (b : Bn) (vb : Bool) : Int := if valid b = false then 1 else if vb = false then 2 else if TL b = [] then 10 else 0
end Go.Proofs.Ytjbjmoghloabpaa
set_option linter.unusedVariables false
set_option linter.unusedSimpArgs false
namespace Go.Proofs.Ytjbjmoghloabpaa
open Go.RowKit Go.Proofs

def cntH (l : List Nat) (v : Nat) : Nat := l.countP (fun x => hasB x v)
def gradedI (n all : Nat) : Int := if n = all then 2 else if n = 0 then 0 else 1
def maskTo (f : Nat → Bool) : Nat → Nat
  | 0 => 0
  | k + 1 => maskTo f k + if f k then 2 ^ k else 0
theorem maskTo_lt (f : Nat → Bool) (k : Nat) : maskTo f k < 2 ^ k := by
  induction k with
  | zero => simp [maskTo]
  | succ k ih => simp only [maskTo]; rw [Nat.pow_succ]; split <;> omega
def whiteM (l : List Nat) (V : Nat) : Nat := maskTo (fun v => cntH l v == l.length) V
def blackM (l : List Nat) (V : Nat) : Nat := maskTo (fun v => cntH l v == 0) V
def withL (l : List Nat) (m : Int) : List Nat := l.filter (fun x => decide ((sz x : Int) = m))
/-- Numbers that are not too great. -/
def Small (l : List Nat) : Prop := ∀ x ∈ l, x < 2 ^ 62
theorem Small.at {l : List Nat} (h : Small l) {k : Nat} (hk : k < l.length) : l[k] < 2 ^ 62 := h _ (List.getElem_mem hk)
end Go.Proofs.Ytjbjmoghloabpaa
set_option linter.unusedVariables false
set_option linter.unusedSimpArgs false
namespace Go.Proofs.Ytjbjmoghloabpaa
open Go.RowKit Go.Proofs

def Gives2 (a b : Value) (w : World) (e : Ending) (w' : World) : Prop := e = .returned (.tuple #[a, b]) ∧ Below w.heap.size w w'
def Gives3 (a b c : Value) (w : World) (e : Ending) (w' : World) : Prop := e = .returned (.tuple #[a, b, c]) ∧ Below w.heap.size w w'
theorem ret_tup {a b : Value} (h : a = b) : Ending.returned a = .returned b := by rw [h]

end Go.Proofs.Ytjbjmoghloabpaa
