/- The ways of the chapter mob; contracts of the small functions of shearworksref01. -/
import Derived.Test.YteeinehpneppnaaGreatBaseB
set_option linter.unusedVariables false
set_option linter.unusedSimpArgs false
namespace Go.Proofs.YteeinehpneppnaaGreat
open Go.RowKit Go.Proofs
theorem r_in (n lo hi : Int) (w : World) :
    Calls Tryz.prog 56 #[.int .i64 n, .int .i64 lo, .int .i64 hi] w (Same (.bool (inB n lo hi)) w) := by
  go_enter Tryz.func56, Tryz.ntmps56
  go_wp2
  all_goals go_ret
  all_goals (refine ⟨ret_bool ?_, rfl⟩; simp [inB]; try omega)

theorem r_power0 (n : Nat) (h : n ≤ 62) (w : World) :
    Calls Tryz.prog 48 #[.int .i64 n] w (Same (.int .i64 (2 ^ n : Nat)) w) := by
  go_enter Tryz.func48, Tryz.ntmps48
  go_wp2
  go_loop [3, 4] (fun o i => ∃ k p : Nat, k ≤ n ∧ p = 2 ^ k ∧ i = .int .i64 k ∧ o = .int .i64 p) (fun _ i => n - (intOf i).toNat)
  case atStart => exact ⟨0, 1, Nat.zero_le _, rfl, rfl, rfl⟩
  case round =>
    obtain ⟨k, p, hk, hp, rfl, rfl⟩ := hrel
    have hp1 : p ≤ 2 ^ 62 := by rw [hp]; exact Nat.pow_le_pow_right (by omega) (by omega)
    have hp3 : k < n → p ≤ 2 ^ 61 := fun h => by rw [hp]; exact Nat.pow_le_pow_right (by omega) (by omega)
    have hp2 := Lib.hid hp
    clear hp
    by_cases hlt : k < n
    · have hp4 : p ≤ 2305843009213693952 := hp3 hlt
      clear hp3 hp1
      go_wp2
      go_round
      case rel => exact ⟨k + 1, 2 * p, by omega, by rw [hp2.out, Nat.pow_succ]; omega, by go_num, by go_num⟩
      case measure => simp [intOf]; omega
    · clear hp3 hp1
      go_wp2
      go_ret
      have : k = n := by omega
      subst this
      exact ⟨ret_int (by rw [hp2.out]; rfl), rfl⟩

theorem r_power (x : Int) (n : Nat) (hx : x = n) (h : n ≤ 62) (w : World) :
    Calls Tryz.prog 48 #[.int .i64 x] w (Same (.int .i64 (2 ^ n : Nat)) w) := by subst hx; exact r_power0 n h w

theorem r_has0 (s n : Nat) (hs : s < 2 ^ 62) (h : n ≤ 62) (w : World) :
    Calls Tryz.prog 47 #[.int .i64 s, .int .i64 n] w (Same (.bool (hasB s n)) w) := by
  have hs' : s < 4611686018427387904 := hs
  have hpos : 0 < 2 ^ n := Nat.two_pow_pos n
  have hle : 2 ^ n ≤ 2 ^ 62 := Nat.pow_le_pow_right (by omega) h
  have hdiv : s / 2 ^ n ≤ s := Nat.div_le_self _ _
  generalize hp : 2 ^ n = p at *
  have hp2 := Lib.hid hp
  have hle' : p ≤ 4611686018427387904 := hle
  clear hle hs hp
  go_enter Tryz.func47, Tryz.ntmps47
  go_wp2_with (go_at_call 48; refine (r_power0 n h _).mono ?_; rw [hp2.out]; rintro e w' ⟨rfl, rfl⟩)
  go_ret
  refine ⟨ret_bool ?_, rfl⟩
  unfold hasB
  rw [hp2.out, ← Int.natCast_ediv]
  generalize s / p = q at *
  rw [IntWalk.wrap64_in _ (by omega), Int.tmod_eq_emod_of_nonneg (by omega), Bool.eq_iff_iff, beq_iff_eq, beq_iff_eq]
  omega

theorem r_has (x y : Int) (s n : Nat) (hx : x = s) (hy : y = n) (hs : s < 2 ^ 62) (h : n ≤ 62) (w : World) :
    Calls Tryz.prog 47 #[.int .i64 x, .int .i64 y] w (Same (.bool (hasB s n)) w) := by subst hx hy; exact r_has0 s n hs h w

/-- A list that is read: its elements have n cells each. -/
def RowsAt {α : Type} (w : World) (a : Option Addr) (n : Nat) (f : α → List Value) (l : List α) : Prop :=
  ∀ i, (h : i < l.length) → ∃ gb go, a = some ⟨gb, go, none⟩ ∧ ∀ j u, (f l[i])[j]? = some u → w.cell? ⟨gb, go + i * n + j, none⟩ = some u
theorem RowsAt.below {α : Type} {w w' : World} {a : Option Addr} {n : Nat} {f : α → List Value} {l : List α} (h : RowsAt w a n f l) (hb : Below w.heap.size w w') : RowsAt w' a n f l := fun i hi =>
  let ⟨gb, go, h0, h1⟩ := h i hi
  ⟨gb, go, h0, fun j u hj => cell_later hb (h1 j u hj)⟩
/-- A way: places (water, rest), legs (lo, hi), mobs (start, lo, hi, thirst), what was seen (mob, place, lo, hi). -/
structure Mb where
  places : List (Bool × Int)
  legs : List (Int × Int)
  herds : List (Int × Int × Int × Int)
  seen : List (Int × Int × Int × Int)
def plc (p : Bool × Int) : List Value := [.bool p.1, .int .i64 p.2]
def spc (p : Int × Int) : List Value := [.int .i64 p.1, .int .i64 p.2]
def i4c (p : Int × Int × Int × Int) : List Value := [.int .i64 p.1, .int .i64 p.2.1, .int .i64 p.2.2.1, .int .i64 p.2.2.2]
/-- Where a way's lists lie. -/
structure Ma where
  pa : Option Addr
  pc : Nat
  la : Option Addr
  lc : Nat
  ha : Option Addr
  hc : Nat
  sa : Option Addr
  sc : Nat
abbrev mcells (m : Mb) (A : Ma) : Array Value := #[.slice A.pa m.places.length A.pc, .slice A.la m.legs.length A.lc, .slice A.ha m.herds.length A.hc, .slice A.sa m.seen.length A.sc]
abbrev mv (m : Mb) (A : Ma) : Value := .agg (mcells m A)
structure MbAt (w : World) (m : Mb) (A : Ma) : Prop where
  places : RowsAt w A.pa 2 plc m.places
  legs : RowsAt w A.la 2 spc m.legs
  herds : RowsAt w A.ha 4 i4c m.herds
  seen : RowsAt w A.sa 4 i4c m.seen
theorem MbAt.below {w w' : World} {m : Mb} {A : Ma} (h : MbAt w m A) (hb : Below w.heap.size w w') : MbAt w' m A :=
  ⟨h.places.below hb, h.legs.below hb, h.herds.below hb, h.seen.below hb⟩
def spanM (lo hi low high much : Int) : Bool := decide (low ≤ lo ∧ lo ≤ hi ∧ hi ≤ high ∧ hi - lo ≤ much)
theorem r_spanM (lo hi low high much : Int) (h1 : -1000 ≤ low) (h2 : high ≤ 1000) (w : World) :
    Calls Tryz.prog 57 #[.agg #[.int .i64 lo, .int .i64 hi], .int .i64 low, .int .i64 high, .int .i64 much] w (Gives (.bool (spanM lo hi low high much)) w) := by
  go_enter Tryz.func57, Tryz.ntmps57
  go_wp2
  all_goals go_ret
  all_goals (refine ⟨ret_bool ?_, (Below.refl _ _).alloc (Nat.le_refl _) _⟩; simp [spanM, *]; try omega)
theorem r_place (m : Mb) (A : Ma) (n : Int) (hl : m.places.length ≤ maxLen) (w : World) :
    Calls Tryz.prog 83 #[mv m A, .int .i64 n] w (Gives (.bool (inB n 0 (m.places.length - 1))) w) := by
  unfold mv mcells
  have hl2 : (m.places.length : Int) ≤ 9223372036854775807 := by unfold maxLen at hl; omega
  go_enter Tryz.func83, Tryz.ntmps83
  go_wp2_with (go_at_call 56; refine (r_in _ _ _ _).mono ?_; rintro e w' ⟨rfl, rfl⟩)
  go_ret
  exact ⟨rfl, (Below.refl _ _).alloc (Nat.le_refl _) _⟩
theorem r_herd (m : Mb) (A : Ma) (n : Int) (hl : m.herds.length ≤ maxLen) (w : World) :
    Calls Tryz.prog 44 #[mv m A, .int .i64 n] w (Gives (.bool (inB n 0 (m.herds.length - 1))) w) := by
  unfold mv mcells
  have hl2 : (m.herds.length : Int) ≤ 9223372036854775807 := by unfold maxLen at hl; omega
  go_enter Tryz.func44, Tryz.ntmps44
  go_wp2_with (go_at_call 56; refine (r_in _ _ _ _).mono ?_; rintro e w' ⟨rfl, rfl⟩)
  go_ret
  exact ⟨rfl, (Below.refl _ _).alloc (Nat.le_refl _) _⟩
theorem r_day (n : Int) (w : World) : Calls Tryz.prog 45 #[.int .i64 n] w (Same (.bool (inB n 0 100)) w) := by
  go_enter Tryz.func45, Tryz.ntmps45
  go_wp2_with (go_at_call 56; refine (r_in _ _ _ _).mono ?_; rintro e w' ⟨rfl, rfl⟩)
  go_ret
  exact ⟨rfl, rfl⟩
end Go.Proofs.YteeinehpneppnaaGreat
