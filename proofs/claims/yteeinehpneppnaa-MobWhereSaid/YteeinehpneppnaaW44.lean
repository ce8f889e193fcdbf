/- Parts of a proof: MvD. -/
import Derived.Test.YteeinehpneppnaaW32
import Derived.Test.YteeinehpneppnaaW39
import Derived.Test.YteeinehpneppnaaW30
/- Bits of small sets; what is left of a range over a map. -/
set_option linter.unusedVariables false
set_option linter.unusedSimpArgs false
namespace Go.Proofs.Yteeinehpneppnaa
open Go.RowKit Go.Proofs
attribute [local irreducible] Ord.walk
/-- A way that is valid has no long list. -/
theorem longB_okV {m : Mb} (hv : validM m = true) : longB m = false := by
  have := validM_len hv
  unfold longB
  simp only [decide_eq_false_iff_not]
  omega
/-- How many entries a range has had. -/
def seenLenI (w : World) (r : Nat) : Nat := match w.heap[r]? with
  | some (.mapIter _ _ seen _) => seen.size
  | _ => 0
theorem IterI.len {w : World} {r m n : Nat} {seen : List Nat} (h : IterI w r m n seen) : seenLenI w r = seen.length := by
  obtain ⟨c, _, h⟩ := h
  unfold seenLenI
  rw [h]
  simp
theorem seen_lenI {n : Nat} {seen : List Nat} (hn : seen.Nodup) (hl : ∀ i ∈ seen, i < n) : seen.length ≤ n := by
  have h1 : seen.Perm ((List.range n).filter fun i => decide (i ∈ seen)) := (List.perm_ext_iff_of_nodup hn (List.Pairwise.filter _ List.nodup_range)).2 fun i => by
    simp only [List.mem_filter, List.mem_range, decide_eq_true_eq]
    exact ⟨fun h => ⟨hl i h, h⟩, fun h => h.2⟩
  have h2 := h1.length_eq
  have h3 := List.length_filter_le (fun i => decide (i ∈ seen)) (List.range n)
  simp only [List.length_range] at h3
  omega
/-- No bit but those of another set. -/
theorem andNot_none {x y : Nat} (hx : x < 16) (hy : y < 16) (h : ∀ i, x.testBit i = true → y.testBit i = true) : bits .andNot .i64 (x : Int) (y : Int) = 0 := by
  rw [andNot_i64 x y (by omega) (by omega)]
  have : x ^^^ (x &&& y) = 0 := by
    refine Nat.eq_of_testBit_eq fun i => ?_
    have := h i
    simp only [Nat.testBit_xor, Nat.testBit_and, Nat.zero_testBit]
    cases h1 : x.testBit i <;> simp_all
  rw [this]
  rfl
/-- One bit of a set. -/
theorem bit_of {x p : Nat} (hx : x < 64) (hp : p < 6) : bits .and .i64 ((x : Int) / 2 ^ p) 1 = if x.testBit p = true then 1 else 0 := by
  have key : ∀ x : Nat, x < 64 → ∀ p : Nat, p < 6 → bits .and .i64 ((x : Int) / 2 ^ p) 1 = if x.testBit p = true then 1 else 0 := by decide +kernel
  exact key x hx p hp
theorem seen_moreI {n : Nat} {seen : List Nat} {i : Nat} (hn : seen.Nodup) (hl : ∀ i ∈ seen, i < n) (hi : i < n) (h : i ∉ seen) : (seen ++ [i]).Nodup ∧ (∀ j ∈ seen ++ [i], j < n) ∧ seen.length + 1 ≤ n := by
  have h1 : (seen ++ [i]).Nodup := by
    rw [List.nodup_append]
    exact ⟨hn, by simp, by intro a ha c hc e; simp at hc; subst hc; subst e; exact h ha⟩
  have h2 : ∀ j ∈ seen ++ [i], j < n := fun j hj => by
    rcases List.mem_append.1 hj with hj | hj
    · exact hl j hj
    · simp at hj; subst hj; exact hi
  have := seen_lenI h1 h2
  exact ⟨h1, h2, by simpa using this⟩
theorem IterI.off {w w' : World} {r m n z : Nat} {seen : List Nat} {T : List Nat} (h : IterI w r m n seen) (ho : Off T z w w') (hr : r < z) (ht : r ∉ T) : IterI w' r m n seen := by
  obtain ⟨c, hc, h⟩ := h
  exact ⟨c, hc, (ho.block r hr ht).trans h⟩
theorem MapII.off {w w' : World} {m z : Nat} {l : List (Int × Int)} {T : List Nat} (h : MapII w m l) (ho : Off T z w w') (hr : m < z) (ht : m ∉ T) : MapII w' m l := (ho.block m hr ht).trans h
theorem wpList_max2 {ops : Array Oper} {Q : Exit → Act → World → Prop} {o : Oper} {rest : List Oper} {a : Act} {w : World} (x y : Operand) (hgd : o.guard = none) (ho : o.op = .call { callee := .builtin .max, args := [x, y].toArray, argTypes := #[3, 3] }) {p q : Int} (hx : a.eval x = .int .i64 p) (hy : a.eval y = .int .i64 q)
    (hK : wpList Try.prog ops Q rest (a.put o.dst (.int .i64 (max p q))) w) : wpList Try.prog ops Q (o :: rest) a w := by
  refine wpList_plain hgd fun K' hK' => ?_
  have := hK' _ _ hK
  unfold Oper.wp
  generalize a.eval = ev at *
  simp [execOp, ho, hx, hy, Builtin.max_, go_sem, max2_run, Result.andThen]
  exact this
theorem ownsRow_offN {w w' : World} {base : Nat} {e : TypeId} {size : Nat} {v : Value} {n : Nat} {xs : List Value} {T : List Nat} (h : w.ownsRow base e size v n xs) (ho : Off T w.heap.size w w') (hT : ∀ g, v.ownBlock = some g → g ∉ T) : w'.ownsRow base e size v n xs := by
  obtain ⟨h1, h2⟩ := h
  refine ⟨h1, h2.imp id ?_⟩
  rintro ⟨g, cap, cur, rfl, hg, hh, r⟩
  exact ⟨g, cap, cur, rfl, hg, (ho.block g (Array.getElem?_eq_some_iff.1 hh).1 (hT g rfl)).trans hh, r⟩
theorem yields_ext {o : Oper} {a : Act} {W : World} {x : Operand} {ix : Nat} {vs : Array Value} {v : Value} (ho : o.op = .extract x ix) (hx : a.eval x = .tuple vs) (hv : vs[ix]? = some v) : Ord.yields Try.prog o a W v := by
  unfold Ord.yields
  simp [execOp, ho, hx, hv, Instr.extract, Ord.yieldUpon]
end Go.Proofs.Yteeinehpneppnaa
