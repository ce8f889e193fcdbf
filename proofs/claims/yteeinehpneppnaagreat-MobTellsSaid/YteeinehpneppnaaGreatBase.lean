/- What is general: endings, worlds, owned rows, lists that are read. (Picked by mkgen.py) -/
import Derived.Test.YteeinehpneppnaaGreatProg
import Derived.Test.YteeinehpneppnaaGreatOrd
import Derived.WalkKit
import Derived.WalkLawsBesides
import Derived.Lib.Hide
import Derived.Deep.DeepMust
import Derived.Laws.BitsAllLaws
import Derived.Lib.QuoteBits
import Derived.Laws.AppendOwn
set_option linter.unusedVariables false
set_option linter.unusedSimpArgs false
namespace Go.Proofs.YteeinehpneppnaaGreat
open Go.RowKit Go.Proofs
theorem ret_bool {a b : Bool} (h : a = b) : Ending.returned (.bool a) = .returned (.bool b) := by rw [h]
theorem ret_int {k : IntKind} {a b : Int} (h : a = b) : Ending.returned (.int k a) = .returned (.int k b) := by rw [h]
/-- It returns this value; the world is the same. -/
def Same (v : Value) (w : World) (e : Ending) (w' : World) : Prop := e = .returned v ∧ w = w'
/-- It returns this value; nothing that was there has turned. -/
def Gives (v : Value) (w : World) (e : Ending) (w' : World) : Prop := e = .returned v ∧ Below w.heap.size w w'
/-- cell?, frozen? under names that no rule turns. -/
def cellX (w : World) (b o : Nat) : Option Value := w.cell? ⟨b, o, none⟩
def frozenX (w : World) (b o : Nat) : Bool := w.frozen? ⟨b, o, none⟩
/-- What a call leaves, as rules for the walk. -/
theorem after {W w' : World} {n : Nat} (hb : Below W.heap.size W w') (hn : W.heap.size = n) :
    (∀ b o, w'.cell? ⟨b, o, none⟩ = if b < n then W.cell? ⟨b, o, none⟩ else cellX w' b o) ∧
    (∀ b o, w'.frozen? ⟨b, o, none⟩ = if b < n then W.frozen? ⟨b, o, none⟩ else frozenX w' b o) ∧ n ≤ w'.heap.size := by
  subst hn
  refine ⟨fun b o => ?_, fun b o => ?_, hb.size⟩
  · split
    · exact hb.cell (p := ⟨b, o, none⟩) (by assumption)
    · rfl
  · split
    · exact hb.frozen (p := ⟨b, o, none⟩) (by assumption)
    · rfl
theorem below_rules {W w' : World} {n m : Nat} (hb : Below n W w') (hn : W.heap.size = m) :
    (∀ b o, w'.cell? ⟨b, o, none⟩ = if b < n then W.cell? ⟨b, o, none⟩ else cellX w' b o) ∧
    (∀ b o, w'.frozen? ⟨b, o, none⟩ = if b < n then W.frozen? ⟨b, o, none⟩ else frozenX w' b o) ∧ m ≤ w'.heap.size := by
  subst hn
  refine ⟨fun b o => ?_, fun b o => ?_, hb.size⟩
  · split
    · exact hb.cell (p := ⟨b, o, none⟩) (by assumption)
    · rfl
  · split
    · exact hb.frozen (p := ⟨b, o, none⟩) (by assumption)
    · rfl
/-- in -/
def inB (n lo hi : Int) : Bool := decide (lo ≤ n ∧ n ≤ hi)
def hasB (s n : Nat) : Bool := s / 2 ^ n % 2 == 1
/-- How many are in a set. -/
def szN : Nat → Nat → Nat
  | 0, _ => 0
  | f + 1, s => s % 2 + szN f (s / 2)
def sz (s : Nat) : Nat := szN 62 s
theorem szN_succ (f s : Nat) : szN (f + 1) s = s % 2 + szN f (s / 2) := rfl
theorem szN_zero (f : Nat) : szN f 0 = 0 := by induction f with | zero => rfl | succ f ih => simp [szN, ih]
theorem szN_le (f s : Nat) : szN f s ≤ f := by
  induction f generalizing s with
  | zero => simp [szN]
  | succ f ih => have := ih (s / 2); simp only [szN]; omega
theorem cell_later {w w' : World} {a : Addr} {v : Value} (hb : Below w.heap.size w w') (h : w.cell? a = some v) : w'.cell? a = some v :=
  (hb.cell (World.block_lt_of_cell? w _ h)).trans h
def Gives2 (a b : Value) (w : World) (e : Ending) (w' : World) : Prop := e = .returned (.tuple #[a, b]) ∧ Below w.heap.size w w'
def Gives3 (a b c : Value) (w : World) (e : Ending) (w' : World) : Prop := e = .returned (.tuple #[a, b, c]) ∧ Below w.heap.size w w'
theorem ret_tup {a b : Value} (h : a = b) : Ending.returned a = .returned b := by rw [h]
theorem ownsRow_below {W w' : World} {base : Nat} {e : TypeId} {size : Nat} {v : Value} {n : Nat} {xs : List Value} (h : W.ownsRow base e size v n xs) (hb : Below W.heap.size W w') : w'.ownsRow base e size v n xs := by
  obtain ⟨h1, h2⟩ := h
  refine ⟨h1, h2.imp id ?_⟩
  rintro ⟨g, cap, cur, hv, hg, hh, r⟩
  exact ⟨g, cap, cur, hv, hg, (hb.block g (Array.getElem?_eq_some_iff.1 hh).1).trans hh, r⟩
end Go.Proofs.YteeinehpneppnaaGreat
