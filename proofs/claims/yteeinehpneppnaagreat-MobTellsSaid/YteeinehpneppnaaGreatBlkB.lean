/- A slice that is made with room to spare. -/
import Derived.Test.YteeinehpneppnaaGreatBlk
import Derived.Laws.MakeOwn
import Derived.OwnWalk
set_option linter.unusedVariables false
namespace Go
open Go.RowKit
section
variable {P : Program} {ops : Array Oper} {rest : List Oper} {o : Oper} {a : Act} {w : World} {Q : Exit → Act → World → Prop}
theorem madeCells_one (z : Value) (hz : z.cells = #[z]) (m : Nat) : madeCells z.cells m = Array.replicate m z := by
  apply Array.ext_getElem?
  intro i
  rw [hz]
  simp only [madeCells]
  by_cases h : i < m
  · simp [h, Nat.mod_one]
  · simp [h]
theorem wpList_make_blk (hg : o.guard = none) (l c : Operand) (t : TypeId) (hop : o.op = Op.makeSlice t l c) (e : TypeId) (i : TypeInfo) (z : Value) (h1 : P.underlying t = some (.slice e)) (h2 : P.info? e = some i) (h3 : i.zero = some z) (h4 : i.size = 1) (hz1 : z.cells = #[z])
    (kl kc : IntKind) (L C : Int) (k m : Nat) (hl : a.eval l = .int kl L) (hc : a.eval c = .int kc C) (hL : L = (k : Int)) (hC : C = (m : Int)) (hkm : k ≤ m) (b2 : i.bytes * m ≤ 281474976710656) (b3 : m ≤ maxLen)
    (hK : wpList P ops Q rest (a.put o.dst (.slice (some ⟨w.heap.size, 0, none⟩) k m)) (w.alloc (.cells (Array.replicate m z) e))) :
    wpList P ops Q (o :: rest) a w := by
  refine wpList_plain hg fun K hK' => ?_
  subst hL hC
  have h63' : (m : Int) ≤ 9223372036854775807 := by
    have h := b3
    simp [maxLen] at h
    omega
  have hb' : (i.bytes : Int) * (m : Int) ≤ 281474976710656 := by
    have h : ((i.bytes * m : Nat) : Int) ≤ 281474976710656 := by omega
    rwa [Int.natCast_mul] at h
  have hr := run_make (P := P) w t e i z h1 h2 h3 kl kc k m (by omega) (by omega) hb' h63'
  simp only [Int.toNat_natCast, h4, Nat.mul_one, madeCells_one z hz1] at hr
  unfold Oper.wp
  simp [execOp, hop, hl, hc, hr, Result.andThen]
  exact hK' _ _ hK
/-- A block of one-cell elements as an owned row. -/
theorem own_of_blk {b base : Nat} {A : Array Value} {e : TypeId} (h : Blk w b A e) (hb : base ≤ b) {k m : Nat} (hA : A.size = m) (hkm : k ≤ m) (hm : m ≤ maxLen) : w.ownsRow base e 1 (.slice (some ⟨b, 0, none⟩) k m) k (A.toList.take k) :=
  ⟨by simp; omega, .inr ⟨b, m, A, rfl, hb, h, hkm, hm, by omega, by simp⟩⟩
theorem own_cells {base b k m : Nat} {e : TypeId} {xs : List Value} (h : w.ownsRow base e 1 (.slice (some ⟨b, 0, none⟩) k m) k xs) : ∀ i, (hi : i < xs.length) → w.cell? ⟨b, i, none⟩ = some xs[i] := by
  intro i hi
  obtain ⟨hl, h | ⟨g, cap, cur, hv, hg, hh, hn, hc, hs, ht⟩⟩ := h
  · obtain ⟨h, -⟩ := h
    simp at h
  · simp only [Value.slice.injEq, Option.some.injEq, Addr.mk.injEq] at hv
    obtain ⟨⟨rfl, -, -⟩, -, rfl⟩ := hv
    rw [cell_of_row w b i cur e (0, 0) hh]
    have h1 : (cur.toList.take (k * 1))[i]? = some xs[i] := by rw [ht]; simp [hi]
    rw [List.getElem?_take] at h1
    split at h1
    · simpa using h1
    · cases h1
end
end Go
