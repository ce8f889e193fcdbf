/- Parts of a proof: Rows2, BitA, OrdF. -/
import Derived.Test.YtjbjmoghloabpaaP24
import Derived.Test.YtjbjmoghloabpaaP25
import Derived.Deep.CutRange
import Derived.Test.YtjbjmoghloabpaaP02
import Derived.Laws.BitsAllLaws
import Derived.Lib.QuoteBits
import Derived.Test.YtjbjmoghloabpaaP01
set_option linter.unusedVariables false
set_option linter.unusedSimpArgs false
namespace Go.Proofs.Ytjbjmoghloabpaa
open Go.RowKit Go.Proofs
attribute [local irreducible] Ord.walk
/-- A list that is read: its elements have n cells each. -/
def RowsAt {α : Type} (w : World) (a : Option Addr) (n : Nat) (f : α → List Value) (l : List α) : Prop :=
  ∀ i, (h : i < l.length) → ∃ gb go, a = some ⟨gb, go, none⟩ ∧ ∀ j u, (f l[i])[j]? = some u → w.cell? ⟨gb, go + i * n + j, none⟩ = some u
theorem RowsAt.below {α : Type} {w w' : World} {a : Option Addr} {n : Nat} {f : α → List Value} {l : List α} (h : RowsAt w a n f l) (hb : Below w.heap.size w w') : RowsAt w' a n f l := fun i hi =>
  let ⟨gb, go, h0, h1⟩ := h i hi
  ⟨gb, go, h0, fun j u hj => cell_later hb (h1 j u hj)⟩
theorem rows_nil {α : Type} {n : Nat} {f : α → List Value} {w : World} (a : Option Addr) : RowsAt w a n f ([] : List α) := fun i hi => absurd hi (by simp)
theorem info_of {P : Program} {t : TypeId} {z : Value} {s b : Nat} (h : (P.info? t).map (fun i => (i.zero, i.size, i.bytes)) = some (some z, s, b)) : ∃ i, P.info? t = some i ∧ i.zero = some z ∧ i.size = s ∧ i.bytes = b := by
  cases hi : P.info? t with
  | none => rw [hi] at h; cases h
  | some i =>
    rw [hi] at h
    simp only [Option.map_some, Option.some.injEq, Prod.mk.injEq] at h
    exact ⟨i, rfl, h.1, h.2.1, h.2.2⟩
theorem flat_getN {α : Type} {n : Nat} (f : α → List Value) (hf : ∀ a, (f a).length = n) : ∀ (l : List α) (i : Nat) (h : i < l.length) (j : Nat), j < n → (l.flatMap f)[i * n + j]? = (f l[i])[j]?
  | [], i, h, j, hj => absurd h (by simp)
  | a :: l, 0, h, j, hj => by
    rw [List.flatMap_cons, List.getElem?_append_left (by rw [hf]; omega)]; simp
  | a :: l, i + 1, h, j, hj => by
    rw [List.flatMap_cons, List.getElem?_append_right (by rw [hf, Nat.add_mul]; omega), hf, show (i + 1) * n + j - n = i * n + j by rw [Nat.add_mul]; omega]
    exact flat_getN f hf l i (by simpa using h) j hj
section
variable {α : Type} {n : Nat} {f : α → List Value}
theorem flat_lenN (hf : ∀ a, (f a).length = n) : ∀ l : List α, (l.flatMap f).length = l.length * n
  | [] => by simp
  | a :: l => by rw [List.flatMap_cons, List.length_append, flat_lenN hf l, hf, List.length_cons, Nat.add_mul]; omega
theorem flat_set (hf : ∀ a, (f a).length = n) : ∀ (l : List α) (i j : Nat) (x : α) (v : Value), (h : i < l.length) → j < n → f x = (f l[i]).set j v → (l.flatMap f).set (i * n + j) v = (l.set i x).flatMap f
  | [], i, j, x, v, h, _, _ => absurd h (by simp)
  | a :: l, 0, j, x, v, h, hj, e => by
    simp only [List.getElem_cons_zero] at e
    rw [List.set_cons_zero, List.flatMap_cons, List.flatMap_cons, Nat.zero_mul, Nat.zero_add, List.set_append_left _ _ (by rw [hf]; exact hj), e]
  | a :: l, i + 1, j, x, v, h, hj, e => by
    rw [List.set_cons_succ, List.flatMap_cons, List.flatMap_cons, List.set_append_right _ _ (by rw [hf, Nat.add_mul]; omega), hf, show (i + 1) * n + j - n = i * n + j by rw [Nat.add_mul]; omega]
    rw [flat_set hf l i j x v (by simpa using h) hj (by simpa using e)]
/-- A row of its own block. -/
def RB (w : World) (g : Nat) (t : TypeId) (n : Nat) (f : α → List Value) (l : List α) : Prop := ∃ cur, Blk w g cur t ∧ cur.toList.take (l.length * n) = l.flatMap f
theorem RB.move {w w' : World} {g : Nat} {t : TypeId} {l : List α} (h : RB w g t n f l) (hm : ∀ cur, Blk w g cur t → Blk w' g cur t) : RB w' g t n f l := let ⟨cur, h1, h2⟩ := h; ⟨cur, hm cur h1, h2⟩
theorem RB.lt {w : World} {g : Nat} {t : TypeId} {l : List α} (h : RB w g t n f l) : g < w.heap.size := let ⟨_, h1, _⟩ := h; h1.lt
theorem RB.rows (hf : ∀ a, (f a).length = n) {w : World} {g : Nat} {t : TypeId} {l : List α} (h : RB w g t n f l) : RowsAt w (some ⟨g, 0, none⟩) n f l := by
  obtain ⟨cur, hb, ht⟩ := h
  refine fun i hi => ⟨g, 0, rfl, fun j u hj => ?_⟩
  have hjn : j < n := by
    by_cases hlt : j < n
    · exact hlt
    · rw [List.getElem?_eq_none (by rw [hf]; omega)] at hj; cases hj
  have hlt : i * n + j < l.length * n := by
    have := Nat.mul_le_mul_right n (show i + 1 ≤ l.length from hi)
    rw [Nat.add_mul] at this
    omega
  have h3 := flat_getN f hf l i hi j hjn
  rw [Nat.zero_add, hb.cell, ← Array.getElem?_toList]
  rw [← ht, List.getElem?_take, if_pos hlt] at h3
  rw [h3]
  exact hj
theorem RB.set (hf : ∀ a, (f a).length = n) {w : World} {g : Nat} {t : TypeId} {l : List α} (h : RB w g t n f l) {i j : Nat} {x : α} {v : Value} (hi : i < l.length) (hj : j < n) (e : f x = (f l[i]).set j v) {q : Nat} (hq : q = i * n + j) : RB (w.setCell ⟨g, q, none⟩ v) g t n f (l.set i x) := by
  obtain ⟨cur, hb, ht⟩ := h
  subst hq
  refine ⟨_, hb.set _ _, ?_⟩
  rw [Array.toList_setIfInBounds, List.length_set, List.take_set, ht]
  exact flat_set hf l i j x v hi hj e
theorem RB.free {w : World} {g : Nat} {t : TypeId} {l : List α} (h : RB w g t n f l) (i : Nat) : w.frozen? ⟨g, i, none⟩ = false := let ⟨_, h1, _⟩ := h; h1.free i
/-- A copy of a row: in a block of its own, from n0 on. -/
def CopyV (w : World) (n0 : Nat) (t : TypeId) (n : Nat) (f : α → List Value) (l : List α) (v : Value) : Prop :=
  ∃ a c, v = .slice a l.length c ∧ (l = [] ∨ ∃ g, a = some ⟨g, 0, none⟩ ∧ n0 ≤ g ∧ RB w g t n f l)
theorem CopyV.of_own {w : World} {n0 : Nat} {t : TypeId} {l : List α} {v : Value} (h : w.ownsRow n0 t n v l.length (l.flatMap f)) : CopyV w n0 t n f l v := by
  obtain ⟨_, ⟨rfl, h0⟩ | ⟨g, cap, cur, rfl, hg, hh, _, _, _, ht⟩⟩ := h
  · have : l = [] := List.length_eq_zero_iff.1 h0
    subst this
    exact ⟨none, 0, rfl, .inl rfl⟩
  · exact ⟨_, cap, rfl, .inr ⟨g, rfl, hg, cur, hh, ht⟩⟩
theorem CopyV.move {w w' : World} {n0 : Nat} {t : TypeId} {l : List α} {v : Value} (h : CopyV w n0 t n f l v) (hm : ∀ g cur, n0 ≤ g → Blk w g cur t → Blk w' g cur t) : CopyV w' n0 t n f l v :=
  let ⟨a, c, e, h2⟩ := h
  ⟨a, c, e, h2.imp id fun ⟨g, e1, e2, e3⟩ => ⟨g, e1, e2, e3.move fun cur hb => hm g cur e2 hb⟩⟩
theorem CopyV.rows (hf : ∀ a, (f a).length = n) {w : World} {n0 : Nat} {t : TypeId} {l : List α} {v : Value} (h : CopyV w n0 t n f l v) : ∃ a c, v = .slice a l.length c ∧ RowsAt w a n f l := by
  obtain ⟨a, c, e, rfl | ⟨g, rfl, _, h1⟩⟩ := h
  · exact ⟨a, c, e, rows_nil _⟩
  · exact ⟨_, c, e, h1.rows hf⟩
theorem CopyV.blk {w : World} {n0 : Nat} {t : TypeId} {l : List α} {v : Value} (h : CopyV w n0 t n f l v) (hl : 0 < l.length) : ∃ g c, v = .slice (some ⟨g, 0, none⟩) l.length c ∧ n0 ≤ g ∧ RB w g t n f l := by
  obtain ⟨a, c, e, rfl | ⟨g, rfl, h0, h1⟩⟩ := h
  · exact absurd hl (by simp)
  · exact ⟨g, c, e, h0, h1⟩
theorem RowsAt.src (hf : ∀ a, (f a).length = n) (hn : 0 < n) {w : World} {a : Option Addr} {l : List α} (h : RowsAt w a n f l) (c : Nat) : SrcAt w (.slice a l.length c) l.length n (l.flatMap f) := by
  refine ⟨flat_lenN hf l, ?_⟩
  cases a with
  | none =>
    left
    refine ⟨c, rfl, ?_⟩
    cases l with
    | nil => rfl
    | cons x l => obtain ⟨gb, go, e, _⟩ := h 0 (by simp); cases e
  | some ad =>
    right
    refine ⟨ad, c, rfl, fun j u hj => ?_⟩
    have hjl : j < (l.flatMap f).length := (List.getElem?_eq_some_iff.1 hj).1
    rw [flat_lenN hf] at hjl
    have hi : j / n < l.length := Nat.div_lt_of_lt_mul (by rw [Nat.mul_comm]; exact hjl)
    obtain ⟨gb, go, e, hc⟩ := h (j / n) hi
    obtain rfl : ad = ⟨gb, go, none⟩ := by injection e
    have hr : j % n < n := Nat.mod_lt _ hn
    have h1 := flat_getN f hf l (j / n) hi (j % n) hr
    have hdm : j / n * n + j % n = j := Nat.div_add_mod' j n
    rw [hdm] at h1
    have h2 := hc (j % n) u (by rw [← h1]; exact hj)
    rw [Addr.add_lit]
    rw [show go + j = go + j / n * n + j % n by omega]
    exact h2
end
section
variable {P : Program} {w : World}
theorem append_where (base : Nat) (t ty e : TypeId) (i : TypeInfo) (z : Value) (size bytes : Nat) (ht : P.underlying t = some (.slice e)) (hi : P.info? e = some i) (hz : i.zero = some z)
    (hsize : i.size = size) (hby : i.bytes = bytes) (hzs : z.cells.size = size) (hsz : 0 < size)
    (v : Value) (n : Nat) (xs : List Value) (hown : w.ownsRow base e size v n xs)
    (a : Addr) (m c : Nat) (news : List Value) (hl : news.length = m * size) (hnews : ∀ j u, news[j]? = some u → w.cell? (a.add j) = some u) (h1 : ∀ u ∈ news, u.oneCell' = true)
    (h63 : n + m ≤ maxLen) (hbytes : (n + m) * bytes ≤ 140737488355328) (hbase : base ≤ w.heap.size) :
    ∃ v' w', (Builtin.append_ #[t, t] ty #[v, .slice (some a) m c]).run P w = .ok v' w' ∧ w'.ownsRow base e size v' (n + m) (xs ++ news) ∧ w.grownBy w' v.ownBlock ∧ (∀ k, v'.ownBlock = some k → v.ownBlock = some k ∨ w.heap.size ≤ k) := by
  obtain ⟨v', w', hr, h2, h3, h4⟩ := run_append_own (P := P) w base t ty e i z size bytes ht hi hz hsize hby hzs hsz v n xs hown a m c news hl hnews h1 h63 hbytes hbase
  refine ⟨v', w', hr, h2, h3, fun k hk => ?_⟩
  subst hsize hby
  have hsm : n + m ≤ 9223372036854775807 := by unfold maxLen at h63; omega
  rcases hown.2 with ⟨rfl, rfl⟩ | ⟨g, cap, cur, rfl, hbg, hg, hnc, hcm, hcs, htake⟩
  · by_cases hm : m = 0
    · rw [h4.2 ⟨rfl, hm⟩] at hk; cases hk
    · have h5 := run_append_nil (P := P) w t ty e i z ht hi hz a m c news hl hnews (by omega) (by omega) (by rw [Nat.zero_add] at hbytes; omega)
      rw [hr] at h5
      injection h5 with h6 h7
      subst h6
      simp only [Value.ownBlock, Option.some.injEq] at hk
      exact .inr (by omega)
  · by_cases hroom : n + m ≤ cap
    · have h5 := run_append_room (P := P) w t ty e i ht hi g n cap cur hg a m c news hl hnews h1 hroom (by rw [hl, hcs, ← Nat.add_mul]; exact Nat.mul_le_mul_right _ hroom)
      rw [hr] at h5
      injection h5 with h6 h7
      subst h6
      exact .inl hk
    · have h5 := run_append_grow (P := P) w t ty e i z ht hi hz ⟨g, 0, none⟩ n cap xs hown.1 (hown.cells (g := g) rfl) a m c news hl hnews (by omega) (by omega) (growslice_fits (by omega) hbytes)
      rw [hr] at h5
      injection h5 with h6 h7
      subst h6
      simp only [Value.ownBlock, Option.some.injEq] at hk
      exact .inr (by omega)
/-- append(s, l...), s owned, l a list or nil. -/
theorem wpList_appendW {ops : Array Oper} {rest : List Oper} {o : Oper} {a : Act} {Q : Exit → Act → World → Prop} (hgd : o.guard = none) (s x : Operand) (t : TypeId)
    (ho : o.op = .call { callee := .builtin .append, args := #[s, x], argTypes := #[t, t] })
    (base : Nat) (e : TypeId) (i : TypeInfo) (z : Value) (size bytes : Nat) (ht : P.underlying t = some (.slice e)) (hi : P.info? e = some i) (hz : i.zero = some z)
    (hsize : i.size = size) (hby : i.bytes = bytes) (hzs : z.cells.size = size) (hsz : 0 < size)
    (v : Value) (n : Nat) (xs : List Value) (hs : a.eval s = v) (hown : w.ownsRow base e size v n xs)
    (sv : Value) (m : Nat) (news : List Value) (hx : a.eval x = sv) (hsrc : SrcAt w sv m size news) (h1 : ∀ u ∈ news, u.oneCell' = true)
    (h63 : n + m ≤ maxLen) (hbytes : (n + m) * bytes ≤ 140737488355328) (hbase : base ≤ w.heap.size)
    (h : ∀ v' w', w'.ownsRow base e size v' (n + m) (xs ++ news) → w.grownBy w' v.ownBlock → (∀ k, v'.ownBlock = some k → v.ownBlock = some k ∨ w.heap.size ≤ k) → wpList P ops Q rest (a.put o.dst v') w') : wpList P ops Q (o :: rest) a w := by
  obtain ⟨hl, ⟨c, rfl, rfl⟩ | ⟨ad, c, rfl, hnews⟩⟩ := hsrc
  · have hn : news = [] := List.eq_nil_of_length_eq_zero (by simpa using hl)
    subst hn
    refine wpList_plain hgd fun K hK => ?_
    have hr := run_append_none (P := P) (w := w) base t o.type e i ht hi v n size xs hown c
    unfold Oper.wp execOp
    simp only [ho, resolve, invoke, builtin, Sem.run_bind, Sem.run_pure, Result.andThen_ok, List.map_toArray, List.map_cons, List.map_nil, hs, hx, hr]
    refine hK _ _ (h v w (by simpa using hown) ⟨rfl, rfl, rfl, Nat.le_refl _, fun _ _ _ => rfl⟩ (fun k hk => .inl hk))
  · obtain ⟨v', w', hr, h2, h3, h4⟩ := append_where (P := P) (w := w) base t o.type e i z size bytes ht hi hz hsize hby hzs hsz v n xs hown ad m c news hl hnews h1 h63 hbytes hbase
    refine wpList_plain hgd fun K hK => ?_
    unfold Oper.wp execOp
    simp only [ho, resolve, invoke, builtin, Sem.run_bind, Sem.run_pure, Result.andThen_ok, List.map_toArray, List.map_cons, List.map_nil, hs, hx, hr]
    exact hK _ _ (h v' w' h2 h3 h4)
end
/-- An owned row, and its block. -/
def OwnT {α : Type} (w : World) (n0 : Nat) (t : TypeId) (n : Nat) (f : α → List Value) (l : List α) (v : Value) (bs : List Nat) : Prop := bs = v.ownBlock.toList ∧ w.ownsRow n0 t n v l.length (l.flatMap f)
theorem OwnT.stay {α : Type} {w w' : World} {n0 : Nat} {t : TypeId} {n : Nat} {f : α → List Value} {l : List α} {v : Value} {bs : List Nat} (h : OwnT w n0 t n f l v bs) (hb : ∀ k ∈ bs, w'.heap[k]? = w.heap[k]?) : OwnT w' n0 t n f l v bs := by
  obtain ⟨rfl, h1, h2⟩ := h
  refine ⟨rfl, h1, h2.imp id ?_⟩
  rintro ⟨g, cap, cur, rfl, hg, hh, r⟩
  exact ⟨g, cap, cur, rfl, hg, (hb g (by simp [Value.ownBlock])).trans hh, r⟩
theorem OwnT.lt {α : Type} {w : World} {n0 : Nat} {t : TypeId} {n : Nat} {f : α → List Value} {l : List α} {v : Value} {bs : List Nat} (h : OwnT w n0 t n f l v bs) : ∀ k ∈ bs, n0 ≤ k ∧ k < w.heap.size := by
  obtain ⟨rfl, h1, ⟨rfl, _⟩ | ⟨g, cap, cur, rfl, hg, hh, r⟩⟩ := h
  · intro k hk; simp [Value.ownBlock] at hk
  · intro k hk
    simp [Value.ownBlock] at hk
    subst hk
    exact ⟨hg, (Array.getElem?_eq_some_iff.1 hh).1⟩
theorem own_empty {w : World} {b base : Nat} {e : TypeId} {size : Nat} (h : Blk w b #[] e) (hb : base ≤ b) : w.ownsRow base e size (.slice (some ⟨b, 0, none⟩) 0 0) 0 [] := ⟨by simp, .inr ⟨b, 0, #[], rfl, hb, h, Nat.le_refl _, by unfold maxLen; omega, by simp, by simp⟩⟩
theorem hR_read {t : Ord.Tk} {i : Nat} {vals : Nat → Value} {bs : Nat → List Nat} {w : World} {R : Act → World → Prop} (hR : ∀ a' w', t.Step i vals bs w a' w' → R a' w') {v : Value} {a' : Act} (ha : a' = ⟨t.F (Ord.setV vals i v), t.ds⟩) (hH : t.H w) (hu : ∀ u, t.rd i = some u → v = u) (hT : t.T i v [] w) (hk : ∀ j, t.lk i = some j → v = vals j := by intro _ h; cases h) : R a' w :=
  hR _ _ ⟨v, [], ha, hH, hu, hT, fun k hk => absurd hk (by simp), Nat.le_refl _, fun _ _ _ => rfl, hk⟩
theorem hR_alloc {t : Ord.Tk} {i : Nat} {vals : Nat → Value} {bs : Nat → List Nat} {w : World} {R : Act → World → Prop} (hR : ∀ a' w', t.Step i vals bs w a' w' → R a' w') {v : Value} {a' : Act} {o : Obj} (ha : a' = ⟨t.F (Ord.setV vals i v), t.ds⟩) (hH : t.H (w.alloc o)) (hu : ∀ u, t.rd i = some u → v = u) (hT : t.T i v [w.heap.size] (w.alloc o)) (hn : t.n0 ≤ w.heap.size) (hk : ∀ j, t.lk i = some j → v = vals j := by intro _ h; cases h) : R a' (w.alloc o) :=
  hR _ _ ⟨v, [w.heap.size], ha, hH, hu, hT, fun k hk => by simp at hk; subst hk; exact ⟨hn, by simp, .inl (Nat.le_refl _)⟩, by simp, fun k hk _ => Below.heap_alloc w o k hk, hk⟩
theorem hR_append {t : Ord.Tk} {i : Nat} {vals : Nat → Value} {bs : Nat → List Nat} {w w' : World} {R : Act → World → Prop} (hR : ∀ a' w', t.Step i vals bs w a' w' → R a' w') {v v' : Value} {a' : Act} {n1 : Nat} {e : TypeId} {n L : Nat} {xs : List Value} (ha : a' = ⟨t.F (Ord.setV vals i v'), t.ds⟩) (hH : t.H w') (hu : ∀ u, t.rd i = some u → v' = u) (hT : t.T i v' v'.ownBlock.toList w')
    (hown : w'.ownsRow n1 e n v' L xs) (hg : w.grownBy w' v.ownBlock) (hw : ∀ k, v'.ownBlock = some k → v.ownBlock = some k ∨ w.heap.size ≤ k) (hv : ∀ k, v.ownBlock = some k → ∃ j ∈ t.take i, k ∈ bs j) (hn : t.n0 ≤ n1) (hk : ∀ j, t.lk i = some j → v' = vals j := by intro _ h; cases h) : R a' w' := by
  refine hR _ _ ⟨v', v'.ownBlock.toList, ha, hH, hu, hT, fun k hk => ?_, hg.size, fun k hk hkT => hg.block k hk (fun e => by obtain ⟨j, hj, hb⟩ := hv k e.symm; exact hkT j hj hb), hk⟩
  have hk' : v'.ownBlock = some k := by simpa using hk
  have h1 := hown.lt k hk'
  refine ⟨by omega, h1.2, ?_⟩
  rcases hw k hk' with h2 | h2
  · exact .inr (hv k h2)
  · exact .inl h2
theorem ownsRow_offN {w w' : World} {base : Nat} {e : TypeId} {size : Nat} {v : Value} {n : Nat} {xs : List Value} {T : List Nat} (h : w.ownsRow base e size v n xs) (ho : Off T w.heap.size w w') (hT : ∀ g, v.ownBlock = some g → g ∉ T) : w'.ownsRow base e size v n xs := by
  obtain ⟨h1, h2⟩ := h
  refine ⟨h1, h2.imp id ?_⟩
  rintro ⟨g, cap, cur, rfl, hg, hh, r⟩
  exact ⟨g, cap, cur, rfl, hg, (ho.block g (Array.getElem?_eq_some_iff.1 hh).1 (hT g rfl)).trans hh, r⟩
theorem ownsRow_drew {w : World} {base : Nat} {e : TypeId} {size : Nat} {v : Value} {n : Nat} {xs : List Value} (h : w.ownsRow base e size v n xs) : w.drew.ownsRow base e size v n xs := h
theorem wp_seq_hid {P : Program} {x y : Code} {Q : Exit → Act → World → Prop} {a : Act} {w : World} (h : ∀ K : Act → World → Prop, Hid (∀ b v, y.wp P Q b v → K b v) → x.wp P (Exit.then K Q) a w) : (Code.seq x y).wp P Q a w :=
  wp_seq_k fun K hK => h K hK
theorem Fr_fast {lo : List Oper} {so : Nat → Option Nat} {n : Nat} (h : ((List.range n).all fun j => Ord.soL lo j == so j) = true) {tm : Array Value} (hs : tm.size = n) (vals : Nat → Value) : Ord.Fr lo tm vals = (Ord.frL so vals 0 tm.toList).toArray := by
  refine Array.ext_getElem? fun k => ?_
  have e : ((Ord.frL so vals 0 tm.toList).toArray)[k]? = (tm[k]?).map fun x => match so k with | some i => vals i | none => x := by rw [List.getElem?_toArray, Ord.frL_get, Nat.zero_add, Array.getElem?_toList]; rfl
  rw [e, Ord.Fr_get]
  by_cases hk : k < tm.size
  · have := List.all_eq_true.1 h k (List.mem_range.2 (by omega))
    rw [eq_of_beq this]
    rfl
  · rw [Array.getElem?_eq_none (by omega)]
    rfl
end Go.Proofs.Ytjbjmoghloabpaa
namespace Go.Ord
/-- An exit that is the plain one alone. -/
def Nm (Q : Exit → Act → World → Prop) : Exit → Act → World → Prop
  | .normal, a, w => Q .normal a w
  | _, _, _ => False
theorem at_nm {Q : Exit → Act → World → Prop} {a : Act} {w : World} (h : Q .normal a w) : Nm Q .normal a w := h
theorem wp_regionN {P : Program} {Q : Exit → Act → World → Prop} {id : Nat} {a : Act} {w : World} {lo : List Oper} (l : List (Nat × Nat)) (H : World → Prop) (hm : P.follows .mixedOrders = true) (hp : planOk lo.toArray l = true)
    (hH : H w.drew) (h : walk P lo.toArray H (Nm Q) l a w.drew) : (Code.region id lo.toArray true).wp P Q a w := by
  refine wp_mono (wp_region (Q := Nm Q) l H hm hp (fun c a d v w h => h.elim) hH h) ?_
  intro e a w h
  cases e <;> first | exact h | exact h.elim
end Go.Ord
namespace Go.Ord.Two
end Go.Ord.Two
namespace Go.Ord
end Go.Ord
namespace Go.Proofs.Ytjbjmoghloabpaa
open Go.RowKit Go.Proofs
attribute [local irreducible] Ord.walk
/-- A region's operations, by its number. -/
noncomputable def regOf (id : Nat) : Code → List Oper
  | .region i ops _ => if i = id then ops.toList else []
  | .seq a b => regOf id a ++ regOf id b
  | .cond _ a b => regOf id a ++ regOf id b
  | .block _ c => regOf id c
  | .loop c => regOf id c
  | _ => []
section
variable {P : Program} {Q : Exit → Act → World → Prop} {t : Ord.Tk} {lo : List Oper} {tm : Array Value} {i : Nat} {vals : Nat → Value} {bs : Nat → List Nat} {w : World} {R : Act → World → Prop}
theorem put_of (ok : Ord.okD lo = true) (hF : ∀ vals, t.F vals = Ord.Fr lo tm vals) {o : Oper} (ho : lo[i]? = some o) (v : Value) : (Act.mk (t.F vals) t.ds).put o.dst v = ⟨t.F (Ord.setV vals i v), t.ds⟩ := by
  have hd : Ord.dstO lo i = o.dst := by unfold Ord.dstO; rw [ho]; rfl
  rw [hF, hF, ← hd]
  exact Ord.Fr_put ok (List.getElem?_eq_some_iff.1 ho).1 v
theorem st_sem (ok : Ord.okD lo = true) (hF : ∀ vals, t.F vals = Ord.Fr lo tm vals) {o : Oper} (ho : lo[i]? = some o) (hg : o.guard = none) {w' : World} {v : Value} {s : Sem Value} (he : execOp (Act.mk (t.F vals) t.ds).eval o = (do pure (Next.value (← s)) : Sem Next)) (hr : s.run P w = .ok v w')
    (hR : R ⟨t.F (Ord.setV vals i v), t.ds⟩ w') : Ord.walk P lo.toArray (fun _ => True) (Ord.Qn Q R) [(i, 2)] ⟨t.F vals, t.ds⟩ w := by
  refine Ord.walk_one ho fun K hK => wpList_plain hg fun K' hK' => ?_
  unfold Oper.wp
  rw [he, Sem.run_bind, hr]
  show K' ((Act.mk (t.F vals) t.ds).put o.dst v) w'
  rw [put_of ok hF ho]
  exact hK' _ _ (wpList_nil (show K _ _ from hK _ _ hR))
theorem st_val (ok : Ord.okD lo = true) (hF : ∀ vals, t.F vals = Ord.Fr lo tm vals) {o : Oper} (ho : lo[i]? = some o) (hg : o.guard = none) {v : Value} (he : execOp (Act.mk (t.F vals) t.ds).eval o = pure (Next.value v))
    (hR : R ⟨t.F (Ord.setV vals i v), t.ds⟩ w) : Ord.walk P lo.toArray (fun _ => True) (Ord.Qn Q R) [(i, 2)] ⟨t.F vals, t.ds⟩ w := by
  refine Ord.walk_one ho fun K hK => wpList_plain hg fun K' hK' => ?_
  unfold Oper.wp
  rw [he]
  show K' ((Act.mk (t.F vals) t.ds).put o.dst v) w
  rw [put_of ok hF ho]
  exact hK' _ _ (wpList_nil (show K _ _ from hK _ _ hR))
theorem st_append (ok : Ord.okD lo = true) (hF : ∀ vals, t.F vals = Ord.Fr lo tm vals) {o : Oper} (ho : lo[i]? = some o) (hg : o.guard = none) {s x : Operand} {ty : TypeId} (hop : o.op = .call { callee := .builtin .append, args := #[s, x], argTypes := #[ty, ty] })
    {n1 : Nat} {e : TypeId} {i0 : TypeInfo} {z : Value} {size bytes : Nat} (ht : P.underlying ty = some (.slice e)) (hi : P.info? e = some i0) (hz : i0.zero = some z) (hsize : i0.size = size) (hby : i0.bytes = bytes) (hzs : z.cells.size = size) (hsz : 0 < size)
    {v : Value} {n : Nat} {xs : List Value} (hs : (Act.mk (t.F vals) t.ds).eval s = v) (hown : w.ownsRow n1 e size v n xs) {sv : Value} {m : Nat} {news : List Value} (hx : (Act.mk (t.F vals) t.ds).eval x = sv) (hsrc : SrcAt w sv m size news) (h1 : ∀ u ∈ news, u.oneCell' = true)
    (h63 : n + m ≤ maxLen) (hbytes : (n + m) * bytes ≤ 140737488355328) (hbase : n1 ≤ w.heap.size)
    (hR : ∀ a' w', t.Step i vals bs w a' w' → R a' w') (hH : ∀ w', w.grownBy w' v.ownBlock → t.H w') (hrd : t.rd i = none) (hT : ∀ v' w', w'.ownsRow n1 e size v' (n + m) (xs ++ news) → t.T i v' v'.ownBlock.toList w') (hv : ∀ k, v.ownBlock = some k → ∃ j ∈ t.take i, k ∈ bs j) (hn : t.n0 ≤ n1) (hlk : t.lk i = none := by rfl) :
    Ord.walk P lo.toArray (fun _ => True) (Ord.Qn Q R) [(i, 2)] ⟨t.F vals, t.ds⟩ w := by
  refine Ord.walk_one ho fun K hK => wpList_appendW hg s x ty hop n1 e i0 z size bytes ht hi hz hsize hby hzs hsz v n xs hs hown sv m news hx hsrc h1 h63 hbytes hbase fun v' w' ho' hgr hw => wpList_nil ?_
  rw [put_of ok hF ho]
  exact hK _ _ (hR_append hR rfl (hH w' hgr) (fun u hu => by rw [hrd] at hu; cases hu) (hT v' w' ho') ho' hgr hw hv hn (fun j e => by rw [hlk] at e; cases e))
/-- An assignment: the row passes over to it. -/
theorem st_pass (ok : Ord.okD lo = true) (hF : ∀ vals, t.F vals = Ord.Fr lo tm vals) {o : Oper} (ho : lo[i]? = some o) (hg : o.guard = none) {x : Operand} (hop : o.op = .assign x) {j : Nat} (hx : (Act.mk (t.F vals) t.ds).eval x = vals j) (hj : j ∈ t.take i) (hb : ∀ k ∈ bs j, t.n0 ≤ k ∧ k < w.heap.size)
    (hR : ∀ a' w', t.Step i vals bs w a' w' → R a' w') (hH : t.H w) (hrd : t.rd i = none) (hT : t.T i (vals j) (bs j) w) (hlk : t.lk i = none := by rfl) : Ord.walk P lo.toArray (fun _ => True) (Ord.Qn Q R) [(i, 2)] ⟨t.F vals, t.ds⟩ w := by
  refine st_val ok hF ho hg (v := vals j) (by simp [execOp, hop, hx]) (hR _ _ ⟨vals j, bs j, rfl, hH, (fun u hu => absurd (hrd.symm.trans hu) (by simp)), hT, fun k hk => ⟨(hb k hk).1, (hb k hk).2, .inr ⟨j, hj, hk⟩⟩, Nat.le_refl _, fun _ _ _ => rfl, fun j e => by rw [hlk] at e; cases e⟩)
end
section
variable {P : Program} {Q : Exit → Act → World → Prop} {t : Ord.Tk} {lo : List Oper} {tm : Array Value} {i : Nat} {vals : Nat → Value} {bs : Nat → List Nat} {w : World} {R : Act → World → Prop}
/-- A struct is stored into a block that its token holds. -/
theorem st_store (ok : Ord.okD lo = true) (hF : ∀ vals, t.F vals = Ord.Fr lo tm vals) {o : Oper} (ho : lo[i]? = some o) (hg : o.guard = none) {ty : TypeId} {x y : Operand} {n : Nat} (hk : AggTy P ty n) (hop : o.op = .store ty x y) (hd : o.dst = none) {b : Nat} (hx : (Act.mk (t.F vals) t.ds).eval x = .pointer (some ⟨b, 0, none⟩))
    {B : Array Value} (hy : (Act.mk (t.F vals) t.ds).eval y = .agg B) {A : Array Value} {u : TypeId} (hb : Blk w b A u) (hA : A.size = n) (hB : B.size = n) (h1 : B.all (·.oneCell') = true) (hR : ∀ w', Rowed w b B u w' → ∀ v, R ⟨t.F (Ord.setV vals i v), t.ds⟩ w' → True) (v : Value) (hR2 : ∀ w', Rowed w b B u w' → R ⟨t.F (Ord.setV vals i v), t.ds⟩ w') :
    Ord.walk P lo.toArray (fun _ => True) (Ord.Qn Q R) [(i, 2)] ⟨t.F vals, t.ds⟩ w := by
  refine Ord.walk_one ho fun K hK => wpList_store_blk ty x y hk hg hop hx hy hb hA hB h1 fun w' hw => wpList_nil ?_
  have := put_of ok hF ho v (vals := vals)
  rw [hd] at this ⊢
  have e : (Act.mk (t.F vals) t.ds).put none undef = (Act.mk (t.F vals) t.ds).put none v := rfl
  rw [e, this]
  exact hK _ _ (hR2 w' hw)
end
section
variable {P : Program} {Q : Exit → Act → World → Prop} {t : Ord.Tk} {lo : List Oper} {tm : Array Value} {i : Nat} {vals : Nat → Value} {bs : Nat → List Nat} {w : World} {R : Act → World → Prop}
/-- One cell is stored. -/
theorem st_cell (ok : Ord.okD lo = true) (hF : ∀ vals, t.F vals = Ord.Fr lo tm vals) {o : Oper} (ho : lo[i]? = some o) (hg : o.guard = none) {ty : TypeId} {x y : Operand} (hop : o.op = .store ty x y) (hd : o.dst = none) {p u : Value} (hx : (Act.mk (t.F vals) t.ds).eval x = p) (hy : (Act.mk (t.F vals) t.ds).eval y = u)
    {w' : World} (hr : (Instr.storeAt ty p u).run P w = .ok () w') (v : Value) (hR : R ⟨t.F (Ord.setV vals i v), t.ds⟩ w') : Ord.walk P lo.toArray (fun _ => True) (Ord.Qn Q R) [(i, 2)] ⟨t.F vals, t.ds⟩ w := by
  refine Ord.walk_one ho fun K hK => wpList_plain hg fun K' hK' => ?_
  unfold Oper.wp
  have he : execOp (Act.mk (t.F vals) t.ds).eval o = (do Instr.storeAt ty p u; pure Next.skip : Sem Next) := by
    rw [← hx, ← hy]
    unfold execOp
    simp only [hop]
  rw [he, Sem.run_bind, hr]
  show K' ((Act.mk (t.F vals) t.ds).put o.dst undef) w'
  have := put_of ok hF ho v (vals := vals)
  rw [hd] at this ⊢
  rw [show (Act.mk (t.F vals) t.ds).put none undef = (Act.mk (t.F vals) t.ds).put none v from rfl, this]
  exact hK' _ _ (wpList_nil (show K _ _ from hK _ _ hR))
end
end Go.Proofs.Ytjbjmoghloabpaa
set_option linter.unusedVariables false
set_option linter.unusedSimpArgs false
namespace Go.Proofs.Ytjbjmoghloabpaa
open Go.RowKit Go.Proofs
attribute [local irreducible] Ord.walk
open Go.Lib (wrap_i64_small)
theorem and_i64 (x y : Nat) (hx : x < 4611686018427387904) (hy : y < 4611686018427387904) : bits .and .i64 (x : Int) (y : Int) = ((x &&& y : Nat) : Int) := by
  show IntKind.i64.wrap ((BitVec.ofInt 64 (x : Int) &&& BitVec.ofInt 64 (y : Int)).toNat : Int) = _
  rw [BitVec.toNat_and, ofInt_u64 x (by omega), ofInt_u64 y (by omega)]
  have : x &&& y ≤ x := Nat.and_le_left
  exact wrap_i64_small _ (by omega)
theorem andNot_nat (x y : Nat) (hx : x < 2 ^ 62) (hy : y < 2 ^ 62) : x &&& (2 ^ 64 - 1 - y) = x ^^^ (x &&& y) := by
  apply Nat.eq_of_testBit_eq
  intro i
  rw [Nat.testBit_and, Nat.testBit_xor, Nat.testBit_and]
  by_cases hi : i < 62
  · have : (2 ^ 64 - 1 - y).testBit i = !y.testBit i := by
      have h := Nat.testBit_two_pow_sub_succ (x := y) (n := 64) (by omega) i
      rw [show 2 ^ 64 - 1 - y = 2 ^ 64 - (y + 1) by omega, h]
      simp; omega
    rw [this]
    cases x.testBit i <;> cases y.testBit i <;> rfl
  · have : x.testBit i = false := Nat.testBit_lt_two_pow (Nat.lt_of_lt_of_le hx (Nat.pow_le_pow_right (by omega) (by omega)))
    rw [this]; simp
theorem andNot_i64 (x y : Nat) (hx : x < 4611686018427387904) (hy : y < 4611686018427387904) : bits .andNot .i64 (x : Int) (y : Int) = ((x ^^^ (x &&& y) : Nat) : Int) := by
  show IntKind.i64.wrap ((BitVec.ofInt 64 (x : Int) &&& ~~~BitVec.ofInt 64 (y : Int)).toNat : Int) = _
  rw [BitVec.toNat_and, BitVec.toNat_not, ofInt_u64 x (by omega), ofInt_u64 y (by omega), andNot_nat x y hx hy]
  have h1 : x ^^^ (x &&& y) < 2 ^ 62 := Nat.xor_lt_two_pow hx (Nat.and_lt_two_pow _ hy)
  exact wrap_i64_small _ (by have : (2:Nat) ^ 62 = 4611686018427387904 := rfl; omega)
theorem andNot_zero (x y : Nat) : x ^^^ (x &&& y) = 0 ↔ ∀ i, x.testBit i = true → y.testBit i = true := by
  constructor
  · intro h i hi
    have h2 := congrArg (fun z => Nat.testBit z i) h
    simp only [Nat.testBit_xor, Nat.testBit_and, Nat.zero_testBit, hi] at h2
    cases hy : y.testBit i
    · rw [hy] at h2; simp at h2
    · rfl
  · intro h
    apply Nat.eq_of_testBit_eq
    intro i
    rw [Nat.testBit_xor, Nat.testBit_and, Nat.zero_testBit]
    cases hx : x.testBit i
    · rfl
    · rw [h i hx]; rfl
theorem hasB_test (x i : Nat) : hasB x i = x.testBit i := by
  rw [Nat.testBit_eq_decide_div_mod_eq]; unfold hasB
  rw [Bool.eq_iff_iff]; simp
theorem sz_drop : ∀ s, s < 512 → s ≠ 0 → sz s = sz (s &&& (s - 1)) + 1 := by decide +kernel
theorem drop_lt (s : Nat) (h : s ≠ 0) : s &&& (s - 1) < s := by
  have : s &&& (s - 1) ≤ s - 1 := Nat.and_le_right
  omega
theorem l_size_f (f : Nat → Nat) (F0 : Hid (f 0 = 0)) (FD : Hid (∀ s, s < 512 → s ≠ 0 → f s = f (s &&& (s - 1)) + 1)) (FL : Hid (∀ s, f s ≤ 62)) (s : Nat) (hs : s < 512) (w : World) : Calls Try.prog 38 #[.int .i64 s] w (Same (.int .i64 (f s : Nat)) w) := by
  go_enter Try.func38, Try.ntmps38
  go_wp2
  go_loop [0, 2] (fun a n => ∃ t k : Nat, a = .int .i64 t ∧ n = .int .i64 k ∧ t < 512 ∧ Hid (k + f t = f s) ∧ k ≤ 62) (fun a _ => (intOf a).toNat)
  case atStart => exact ⟨s, 0, rfl, rfl, hs, (show _ = _ by omega), by omega⟩
  case round =>
    obtain ⟨t, k, rfl, rfl, ht, hk, hk2⟩ := hrel
    by_cases h0 : t = 0
    · subst h0
      have e : f s = k := by have := hk.out; rw [F0.out] at this; omega
      have HE := Lib.hid e
      clear e hk
      go_wp2
      go_ret
      exact ⟨by rw [HE.out]; rfl, rfl⟩
    · have ht0 : ¬ (t : Int) = 0 := by omega
      have hand : bits .and .i64 (t : Int) ((t : Int) - 1) = ((t &&& (t - 1) : Nat) : Int) := by
        rw [show (t : Int) - 1 = ((t - 1 : Nat) : Int) by omega]
        exact and_i64 t (t - 1) (by omega) (by omega)
      have hlt := drop_lt t h0
      have HK : Hid ((k + 1) + f (t &&& (t - 1)) = f s) := by show _ = _; have := hk.out; have := FD.out t ht h0; omega
      have hk3 : k + 1 ≤ 62 := by have := HK.out; have := FL.out s; omega
      clear hk
      generalize t &&& (t - 1) = t2 at *
      go_wp2
      go_round
      case rel => exact ⟨t2, k + 1, by go_num, by go_num, by omega, HK, hk3⟩
      case measure => simp [intOf]; omega
theorem l_size (s : Nat) (hs : s < 512) (w : World) : Calls Try.prog 38 #[.int .i64 s] w (Same (.int .i64 (sz s)) w) :=
  l_size_f sz rfl sz_drop (fun s => szN_le 62 s) s hs w
end Go.Proofs.Ytjbjmoghloabpaa
set_option linter.unusedVariables false
set_option linter.unusedSimpArgs false
namespace Go.Ord
variable {P : Program} {ops : Array Oper} {Q : Exit → Act → World → Prop} {H : World → Prop} {eff : Nat → Bool}
def planF (ops : Array Oper) (eff : Nat → Bool) : List (Nat × Nat) → Array Bool → Bool
  | [], listed => (Region.ready .any ops listed).isEmpty
  | (k, c) :: l, listed =>
    (if eff k then c == 2 && decide (Region.ready .any ops listed = [k])
     else decide (c < 2) && (decide (Region.ready .any ops listed = [k]) || ((Region.ready .any ops listed).contains k && Region.free .any ops listed k && (c == 1 || calm ops eff k listed)))) &&
    planF ops eff l (listed.setIfInBounds k true)
def planOkF (ops : Array Oper) (l : List (Nat × Nat)) : Bool :=
  Region.noSelect ops && l.length == ops.size && planF ops (fun i => l.any fun (k, c) => k == i && c == 2) l (Array.replicate ops.size false)
theorem any_of_walkF (hs : Region.noSelect ops = true) (hQ : ∀ c a d v w, Q (.panic c) (a.put d v) w → Q (.panic c) a w) : ∀ (l : List (Nat × Nat)) (listed : Array Bool) (a : Act) (w : World), listed.size = ops.size → H w →
    planF ops eff l listed = true → walk P ops H Q l a w → any P ops eff H Q l.length listed a w
  | [], _, _, _, _, _, hB, h => ⟨by simpa [planF] using hB, h⟩
  | (k, c) :: l, listed, a, w, hsz, hw, hB, h => by
    rw [planF, Bool.and_eq_true] at hB
    obtain ⟨hB, hB'⟩ := hB
    rw [walk] at h
    cases ho : ops[k]? with
    | none => simp only [ho] at h
    | some o =>
      simp only [ho] at h
      have hsz' : (listed.setIfInBounds k true).size = ops.size := by simp [hsz]
      have ih : ∀ a w, H w → walk P ops H Q l a w → any P ops eff H Q l.length (listed.setIfInBounds k true) a w := fun a w h1 h2 => any_of_walkF hs hQ l _ a w hsz' h1 hB' h2
      cases he : eff k with
      | true =>
        simp only [he, if_true, Bool.and_eq_true, beq_iff_eq, decide_eq_true_eq] at hB
        obtain ⟨rfl, hr⟩ := hB
        refine ⟨fun h0 => (by rw [h0] at hr; cases hr), fun j hj => ?_⟩
        rw [hr] at hj
        have hjk : j = k := by simpa using hj
        subst hjk
        unfold op
        simp only [ho, he, if_true]
        split
        · rename_i hwt
          simp only [hwt, if_true] at h
          exact h.imp (Oper.wp_mono (fun a w hk => ⟨hk.1, ih a w hk.1 hk.2⟩)) id
        · rename_i hwt
          simp only [hwt] at h
          exact ih _ _ hw h
      | false =>
        simp only [he, Bool.false_eq_true, if_false, Bool.and_eq_true, Bool.or_eq_true, beq_iff_eq, decide_eq_true_eq] at hB
        obtain ⟨hc2, hone | ⟨⟨hr, hf⟩, hcc⟩⟩ := hB
        · refine ⟨fun h0 => (by rw [h0] at hone; cases hone), fun j hj => ?_⟩
          rw [hone] at hj
          have hjk : j = k := by simpa using hj
          subst hjk
          unfold op
          simp only [ho, he, Bool.false_eq_true, if_false]
          split
          · rename_i hwt
            simp only [hwt, if_true] at h
            match c, hc2, h with
            | 0, _, h =>
              obtain ⟨v, h1, h2⟩ := h
              exact ⟨v, h1, ih _ _ hw h2⟩
            | 1, _, h =>
              obtain ⟨v, h1, h2⟩ := h
              exact ⟨v, h1 w hw, ih _ _ hw h2⟩
            | (n + 2), hc2, _ => exact absurd hc2 (by omega)
          · rename_i hwt
            simp only [hwt] at h
            exact ih _ _ hw h
        have hr' : k ∈ Region.ready .any ops listed := by simpa using hr
        by_cases hwt : Region.wanted o (yielded ops a.tmps) = true
        · simp only [hwt, if_true] at h
          match c, hc2, h with
          | 0, _, h =>
            obtain ⟨v, h1, h2⟩ := h
            have hcalm : calm ops eff k listed = true := hcc.resolve_left (by simp)
            obtain ⟨L, hL⟩ := calm_spec hsz hcalm
            exact any_calm ho he (Region.noSelect_spec hs) (fun c a w => hQ c a _ _ w) l.length listed a hL (Region.free_spec ho hf) hr' (.inl ⟨hwt, fun w' e => by subst e; exact h1⟩) (ih _ _ hw h2)
          | 1, _, h =>
            obtain ⟨v, h1, h2⟩ := h
            exact any_first ho he (Region.noSelect_spec hs) (fun c a w => hQ c a _ _ w) l.length listed a w hw (Region.free_spec ho hf) hr' (.inl ⟨hwt, h1⟩) (ih _ _ hw h2)
          | (n + 2), hc2, _ => exact absurd hc2 (by omega)
        · have hwt' : Region.wanted o (yielded ops a.tmps) = false := by simpa using hwt
          simp only [hwt', Bool.false_eq_true, if_false] at h
          exact any_first ho he (Region.noSelect_spec hs) (fun c a w => hQ c a _ _ w) l.length listed a w hw (Region.free_spec ho hf) hr' (.inr ⟨hwt', rfl⟩) (ih _ _ hw h)
theorem wp_regionF {id : Nat} {a : Act} {w : World} {lo : List Oper} (l : List (Nat × Nat)) (H : World → Prop) (hm : P.follows .mixedOrders = true) (hp : planOkF lo.toArray l = true)
    (hQ : ∀ c a d v w, Q (.panic c) (a.put d v) w → Q (.panic c) a w) (hH : H w.drew) (h : walk P lo.toArray H Q l a w.drew) : (Code.region id lo.toArray true).wp P Q a w := by
  simp only [planOkF, Bool.and_eq_true, beq_iff_eq] at hp
  obtain ⟨⟨hs, hl⟩, hp⟩ := hp
  refine wp_region_any hm (wpAny_of_any (H := H) (eff := fun i => l.any fun (k, c) => k == i && c == 2) _ _ _ _ ?_)
  have h2 := any_of_walkF (H := H) (eff := fun i => l.any fun (k, c) => k == i && c == 2) hs hQ l (Array.replicate lo.toArray.size false) a _ (by simp) hH hp h
  rw [hl] at h2
  exact h2
end Go.Ord
