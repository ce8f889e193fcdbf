/- Parts of a proof: MapStB, BnF, BnG, RoundK, BlkB, OrdD, BnI. -/
import Derived.Test.YtjbjmoghloabpaaP04
import Derived.Test.YtjbjmoghloabpaaP03
import Derived.RangeFuncIn
import Derived.RangeFuncCalls
import Derived.TacticsIn
import Derived.OrdersIn
import Derived.Laws.MakeOwn
import Derived.OwnWalk
import Derived.RangeFuncRecord
import Derived.LoopIn
import Derived.BigFrameIn
set_option linter.unusedVariables false
set_option linter.unusedSimpArgs false
namespace Go.Proofs.Ytjbjmoghloabpaa
open Go.RowKit Go.Proofs

theorem MapIs.lt {w : World} {m : Nat} {l : List (SL × Nat)} (h : MapIs w m l) : m < w.heap.size := lt_of_block h
theorem MapIs.turn {w w' : World} {m b : Nat} {l : List (SL × Nat)} (h : MapIs w m l) (ht : Turn1 w b w') (hm : m ≠ b) : MapIs w' m l := (ht.other hm).trans h
theorem MapIs.alloc {w : World} {m : Nat} {l : List (SL × Nat)} (h : MapIs w m l) (o : Obj) : MapIs (w.alloc o) m l := (Below.heap_alloc w o m h.lt).trans h
theorem MapIs.setCell {w : World} {m : Nat} {l : List (SL × Nat)} (h : MapIs w m l) {p : Addr} (hp : m ≠ p.block) (v : Value) : MapIs (w.setCell p v) m l := (Below.heap_setCell w p v m hp).trans h
theorem MapIs.drew {w : World} {m : Nat} {l : List (SL × Nat)} (h : MapIs w m l) : MapIs w.drew m l := h
theorem MapIs.below {w w' : World} {m n : Nat} {l : List (SL × Nat)} (h : MapIs w m l) (hb : Below n w w') (hn : m < n) : MapIs w' m l := (hb.block m hn).trans h
theorem MapIs.new (w : World) : MapIs (w.alloc (.map #[] 0)) w.heap.size [] := by
  show (w.heap.push _)[w.heap.size]? = _
  simp [ents, entsFrom]
theorem MapOk.nil : MapOk [] := ⟨(by intro p hp; cases hp), (by simp)⟩
/-- A range over a map: the entries that have been, by their places. -/
def IterIs (w : World) (r m : Nat) (n : Nat) (seen : List Nat) : Prop := ∃ c, n ≤ c ∧ w.heap[r]? = some (.mapIter (some m) n seen.toArray c)
theorem IterIs.lt {w : World} {r m n : Nat} {seen : List Nat} (h : IterIs w r m n seen) : r < w.heap.size := by
  obtain ⟨c, -, h⟩ := h
  exact lt_of_block h
theorem IterIs.turn {w w' : World} {r m n b : Nat} {seen : List Nat} (h : IterIs w r m n seen) (ht : Turn1 w b w') (hm : r ≠ b) : IterIs w' r m n seen := by
  obtain ⟨c, hc, h⟩ := h
  exact ⟨c, hc, (ht.other hm).trans h⟩
theorem IterIs.alloc {w : World} {r m n : Nat} {seen : List Nat} (h : IterIs w r m n seen) (o : Obj) : IterIs (w.alloc o) r m n seen := by
  have hl := h.lt
  obtain ⟨c, hc, h⟩ := h
  exact ⟨c, hc, (Below.heap_alloc w o r hl).trans h⟩
theorem IterIs.setCell {w : World} {r m n : Nat} {seen : List Nat} (h : IterIs w r m n seen) {p : Addr} (hp : r ≠ p.block) (v : Value) : IterIs (w.setCell p v) r m n seen := by
  obtain ⟨c, hc, h⟩ := h
  exact ⟨c, hc, (Below.heap_setCell w p v r hp).trans h⟩
theorem IterIs.drew {w : World} {r m n : Nat} {seen : List Nat} (h : IterIs w r m n seen) : IterIs w.drew r m n seen := h
theorem IterIs.below {w w' : World} {r m n k : Nat} {seen : List Nat} (h : IterIs w r m n seen) (hb : Below k w w') (hn : r < k) : IterIs w' r m n seen := by
  obtain ⟨c, hc, h⟩ := h
  exact ⟨c, hc, (hb.block r hn).trans h⟩

section
variable {ops : Array Oper} {rest : List Oper} {o : Oper} {a : Act} {w : World} {Q : Exit → Act → World → Prop}
theorem wpList_lookup_st (x y : Operand) (hgd : o.guard = none) (ho : o.op = .lookup 127 x y false) {m : Nat} (hx : a.eval x = .map (some m)) {k : SL} (hy : a.eval y = .agg (lcells k)) {l : List (SL × Nat)} (hm : MapIs w m l) (h : MapOk l) (hk : SL7 k)
    (hK : wpList Try.prog ops Q rest (a.put o.dst (.int .i64 (getM l k))) w) : wpList Try.prog ops Q (o :: rest) a w := by
  refine wpList_plain hgd fun K' hK' => ?_
  unfold Oper.wp
  simp [execOp, ho, hx, hy, run_lookup_st hm h hk, Result.andThen]
  exact hK' _ _ hK
theorem wpList_mapUpdate_st (x y z : Operand) (hgd : o.guard = none) (ho : o.op = .mapUpdate 127 x y z ∨ o.op = .insert 127 x y z) {m : Nat} (hx : a.eval x = .map (some m)) {k : SL} (hy : a.eval y = .agg (lcells k)) {v : Nat} (hz : a.eval z = .int .i64 v) {l : List (SL × Nat)} (hm : MapIs w m l) (h : MapOk l) (hk : SL7 k)
    (hK : ∀ w', Turn1 w m w' → MapIs w' m (putM l k v) → wpList Try.prog ops Q rest (a.put o.dst undef) w') : wpList Try.prog ops Q (o :: rest) a w := by
  refine wpList_plain hgd fun K' hK' => ?_
  obtain ⟨w', h1, h2, h3⟩ := run_mapUpdate_st hm h hk v
  unfold Oper.wp
  rcases ho with ho | ho <;> simp [execOp, ho, hx, hy, hz, h1, Result.andThen] <;> exact hK' _ _ (hK w' h2 h3)
theorem wpList_range_st (x : Operand) (hgd : o.guard = none) (ho : o.op = .range 127 x) {m : Nat} (hx : a.eval x = .map (some m)) {l : List (SL × Nat)} (hm : MapIs w m l)
    (hK : ∀ w', w' = w.alloc (.mapIter (some m) l.length #[] l.length) → IterIs w' w.heap.size m l.length [] → MapIs w' m l → wpList Try.prog ops Q rest (a.put o.dst (.pointer (some ⟨w.heap.size, 0, none⟩))) w') : wpList Try.prog ops Q (o :: rest) a w := by
  refine wpList_plain hgd fun K' hK' => ?_
  have hr := run_range_map (P := Try.prog) w 127 126 3 m (ents l) l.length Try.underlying127 hm
  unfold Oper.wp
  simp [execOp, ho, hx, hr, Result.andThen]
  exact hK' _ _ (hK _ rfl ⟨l.length, Nat.le_refl _, heap_alloc_new w _⟩ (hm.alloc _))
theorem ents_born {l : List (SL × Nat)} : ∀ x ∈ (ents l).toList, x.born < l.length := by
  intro x hx
  obtain ⟨i, hi⟩ := List.getElem?_of_mem hx
  have h4 : (entsFrom 0 l)[i]? = some x := by simpa [ents] using hi
  rw [entsFrom_get] at h4
  cases hp : l[i]? with
  | none => simp [hp] at h4
  | some p =>
    simp only [hp, Option.map_some, Option.some.injEq] at h4
    subst h4
    have := (List.getElem?_eq_some_iff.1 hp).1
    simp; exact this
theorem ents_borns (i : Nat) (l : List (SL × Nat)) : (entsFrom i l).map (·.born) = List.range' i l.length := by
  induction l generalizing i with
  | nil => rfl
  | cons p l ih => simp [entsFrom, ih, List.range'_succ]
theorem ents_nodup (l : List (SL × Nat)) : ((ents l).toList.map (·.born)).Nodup := by
  simp only [ents]
  rw [ents_borns]
  exact List.nodup_range'
theorem wpList_next_st (x : Operand) (hgd : o.guard = none) (ho : o.op = .next x false) {r m : Nat} (hx : a.eval x = .pointer (some ⟨r, 0, none⟩)) {l : List (SL × Nat)} {seen : List Nat} (hr : IterIs w r m l.length seen) (hm : MapIs w m l)
    (hDone : (∀ i, i < l.length → i ∈ seen) → wpList Try.prog ops Q rest (a.put o.dst (.tuple #[.bool false])) w)
    (hMore : ∀ i p w', l[i]? = some p → i ∉ seen → Turn1 w r w' → IterIs w' r m l.length (seen ++ [i]) → MapIs w' m l → (Instr.entry (.pointer (some ⟨r, 0, none⟩))).run Try.prog w' = .ok (.tuple #[.agg (lcells p.1), .int .i64 p.2]) w' →
      wpList Try.prog ops Q rest (a.put o.dst (.tuple #[.bool true, .agg (lcells p.1), .int .i64 p.2])) w') : wpList Try.prog ops Q (o :: rest) a w := by
  refine wpList_plain hgd fun K' hK' => ?_
  have hrl := hr.lt
  obtain ⟨c, hc, hr⟩ := hr
  have hne : m ≠ r := by
    intro e; subst e
    rw [show w.heap[m]? = _ from hm] at hr
    cases hr
  rcases run_next_at (P := Try.prog) w o.type r m l.length c seen.toArray (ents l) l.length hr hm ents_born hc with ⟨h0, hrun⟩ | ⟨e, he, w1, hw1, hrun⟩
  · unfold Oper.wp
    simp [execOp, ho, hx, hrun, Result.andThen]
    refine hK' _ _ (hDone fun i hi => ?_)
    obtain ⟨p, hp⟩ : ∃ p, l[i]? = some p := ⟨l[i], by simp [hi]⟩
    have := all_seen (ents l) seen.toArray h0 { key := .agg (lcells p.1), val := .int .i64 p.2, born := 0 + i } (List.mem_of_getElem? (i := i) (by simp [ents, entsFrom_get, hp]))
    simpa using this
  · obtain ⟨h1, h2⟩ := mem_left he
    obtain ⟨i, hi⟩ := List.getElem?_of_mem h1
    have h4 : (entsFrom 0 l)[i]? = some e := by simpa [ents] using hi
    rw [entsFrom_get] at h4
    cases hp : l[i]? with
    | none => simp [hp] at h4
    | some p =>
      simp only [hp, Option.map_some, Option.some.injEq] at h4
      obtain ⟨t1, t2⟩ := Turn1.of (w := w) (w1 := w1) (b := r) (o := .mapIter (some m) l.length (seen.toArray.push e.born) l.length) hw1 hrl
      have hm' : MapIs (Go.ChangeMaps.setBlock w1 r (.mapIter (some m) l.length (seen.toArray.push e.born) l.length)) m l := (t1.other hne).trans hm
      have hen := run_entry_at (P := Try.prog) _ r m l.length seen.toArray (ents l) l.length e t2 hm' h1 (ents_nodup l)
      have hni : i ∉ seen := by rw [← h4] at h2; simpa using h2
      have hit : IterIs (Go.ChangeMaps.setBlock w1 r (.mapIter (some m) l.length (seen.toArray.push e.born) l.length)) r m l.length (seen ++ [i]) := ⟨l.length, Nat.le_refl _, by rw [t2, ← h4]; simp⟩
      generalize Go.ChangeMaps.setBlock w1 r (.mapIter (some m) l.length (seen.toArray.push e.born) l.length) = W' at *
      subst h4
      unfold Oper.wp
      simp [execOp, ho, hx, hrun, Result.andThen]
      exact hK' _ _ (hMore i p _ hp hni t1 hit hm' hen)
end
end Go.Proofs.Ytjbjmoghloabpaa
set_option linter.unusedVariables false
set_option linter.unusedSimpArgs false
namespace Go.Proofs.Ytjbjmoghloabpaa
open Go.RowKit Go.Proofs

/-- A map stands for a list of states. -/
def Rep (l : List (SL × Nat)) (S : List SL) : Prop := MapOk l ∧ ∀ x, getM l x = S.count x
theorem getM_put {l : List (SL × Nat)} (h : MapOk l) (y : SL) (v : Nat) (z : SL) : getM (putM l y v) z = if z = y then v else getM l z := by
  unfold putM
  split
  · rename_i hin
    by_cases hz : z = y
    · subst hz
      rw [if_pos rfl]
      obtain ⟨p, hp, he⟩ := List.mem_map.1 hin
      unfold getM
      rw [List.find?_map]
      have hf : l.find? ((fun q : SL × Nat => q.1 == z) ∘ fun p => if p.1 = z then (z, v) else p) = l.find? (fun q => q.1 == z) := by
        congr 1
        funext q
        by_cases hq : q.1 = z
        · simp [hq]
        · simp [hq]
      rw [hf]
      cases hfd : l.find? (fun q => q.1 == z) with
      | none =>
        have := List.find?_eq_none.1 hfd p hp
        simp [he] at this
      | some q =>
        have h2 := List.find?_some hfd
        simp only [beq_iff_eq] at h2
        simp [h2]
    · rw [if_neg hz]
      unfold getM
      rw [List.find?_map]
      have hf : l.find? ((fun q : SL × Nat => q.1 == z) ∘ fun p => if p.1 = y then (y, v) else p) = l.find? (fun q => q.1 == z) := by
        congr 1
        funext q
        by_cases hq : q.1 = y
        · simp [hq]
        · simp [hq]
      rw [hf]
      cases hfd : l.find? (fun q => q.1 == z) with
      | none => rfl
      | some q =>
        have h2 := List.find?_some hfd
        simp only [beq_iff_eq] at h2
        have : q.1 ≠ y := fun e => hz (h2.symm.trans e)
        simp [this]
  · rename_i hni
    unfold getM
    rw [List.find?_append]
    by_cases hz : z = y
    · subst hz
      rw [if_pos rfl, List.find?_eq_none.2 (fun p hp => by
        simp only [beq_iff_eq]
        intro e
        exact hni (e ▸ List.mem_map_of_mem hp))]
      simp
    · rw [if_neg hz]
      cases hfd : l.find? (fun q => q.1 == z) with
      | none => simp [Ne.symm hz]
      | some q => simp
theorem Rep.add {l : List (SL × Nat)} {S : List SL} (h : Rep l S) {y : SL} (hy : SL7 y) (n : Nat) : Rep (putM l y (getM l y + n)) (S ++ List.replicate n y) := by
  refine ⟨h.1.put hy _, fun x => ?_⟩
  rw [getM_put h.1, List.count_append, List.count_replicate, ← h.2 x]
  by_cases hx : x = y
  · subst hx; simp
  · rw [if_neg hx, if_neg (by simpa using Ne.symm hx)]; omega
theorem Rep.perm {l : List (SL × Nat)} {S T : List SL} (h : Rep l S) (hp : S.Perm T) : Rep l T := ⟨h.1, fun x => (h.2 x).trans (hp.count_eq x)⟩
theorem Rep.nil : Rep [] [] := ⟨MapOk.nil, fun x => rfl⟩
/-- The states of a map's entries, each as often as it counts. -/
def expand (l : List (SL × Nat)) : List SL := l.flatMap fun p => List.replicate p.2 p.1
theorem count_expand {l : List (SL × Nat)} (h : (l.map (·.1)).Nodup) (x : SL) : (expand l).count x = getM l x := by
  induction l with
  | nil => rfl
  | cons p l ih =>
    simp only [List.map_cons, List.nodup_cons] at h
    unfold expand at *
    rw [List.flatMap_cons, List.count_append, ih h.2, List.count_replicate]
    unfold getM
    rw [List.find?_cons]
    by_cases hx : p.1 = x
    · subst hx
      simp only [beq_self_eq_true, if_true]
      rw [List.find?_eq_none.2 (fun q hq => by
        simp only [beq_iff_eq]
        intro e
        exact h.1 (e ▸ List.mem_map_of_mem hq))]
      simp
    · have : (p.1 == x) = false := by simpa using hx
      simp [this]
theorem Rep.expand {l : List (SL × Nat)} {S : List SL} (h : Rep l S) : (expand l).Perm S := by
  rw [List.perm_iff_count]
  intro x
  rw [count_expand h.1.2, h.2]
/-- What a round adds for one entry. -/
def addOf (st : Bool → SL → SL) (p : SL × Nat) : List SL := List.replicate p.2 (st false p.1) ++ List.replicate p.2 (st true p.1)
theorem addOf_perm (st : Bool → SL → SL) (p : SL × Nat) : (addOf st p).Perm ((List.replicate p.2 p.1).flatMap fun x => [st false x, st true x]) := by
  unfold addOf
  obtain ⟨x, n⟩ := p
  simp only
  induction n with
  | zero => simp
  | succ n ih =>
    rw [List.replicate_succ, List.replicate_succ, List.replicate_succ, List.flatMap_cons]
    simp only [List.cons_append, List.nil_append]
    refine List.Perm.cons _ ?_
    refine (List.perm_middle).trans ?_
    exact List.Perm.cons _ ih
theorem addOf_all (st : Bool → SL → SL) (l : List (SL × Nat)) : (l.flatMap (addOf st)).Perm ((expand l).flatMap fun x => [st false x, st true x]) := by
  induction l with
  | nil => exact List.Perm.refl _
  | cons p l ih =>
    unfold expand at *
    rw [List.flatMap_cons, List.flatMap_cons, List.flatMap_append]
    exact (addOf_perm st p).append ih
/-- All entries have been, each once, whichever came when. -/
theorem seen_perm {α : Type} (l : List α) (d : α) (seen : List Nat) (hn : seen.Nodup) (hlt : ∀ i ∈ seen, i < l.length) (hall : ∀ i, i < l.length → i ∈ seen) : (seen.map fun i => l.getD i d).Perm l := by
  have h1 : seen.Perm (List.range l.length) := (List.perm_ext_iff_of_nodup hn List.nodup_range).2 fun i => ⟨fun h => List.mem_range.2 (hlt i h), fun h => hall i (List.mem_range.1 h)⟩
  have h2 := h1.map fun i => l.getD i d
  have h3 : (List.range l.length).map (fun i => l.getD i d) = l := by
    apply List.ext_getElem?
    intro i
    by_cases hi : i < l.length
    · simp [hi]
    · simp [hi]
  rwa [h3] at h2
end Go.Proofs.Ytjbjmoghloabpaa
set_option linter.unusedVariables false
set_option linter.unusedSimpArgs false
namespace Go.Proofs.Ytjbjmoghloabpaa
open Go.RowKit Go.Proofs

/-- One thing that is known: a group, or a pair. -/
inductive Kn where
  | g (vo : Nat) (lo hi : Int)
  | p (a b : Nat) (s : Bool)
def knV : Kn → Value
  | .g vo lo hi => gv vo lo hi
  | .p a b s => pv a b s
def KnAt (w : World) (ka : Option Addr) (ks : List Kn) : Prop := ∀ i, (h : i < ks.length) → ∃ b o, ka = some ⟨b, o, none⟩ ∧ w.cell? ⟨b, o + i, none⟩ = some (knV ks[i])
theorem KnAt.below {w w' : World} {ka : Option Addr} {ks : List Kn} (h : KnAt w ka ks) (hb : Below w.heap.size w w') : KnAt w' ka ks := fun i hi =>
  let ⟨b, o, h0, h1⟩ := h i hi
  ⟨b, o, h0, cell_later hb h1⟩
/-- Its voters are voters. -/
def knOk : Kn → Prop
  | .g vo _ _ => vo < 256
  | .p a b _ => a < 8 ∧ b < 8
/-- What is left when some of it has been looked at: ties and groups; none: it cannot be. -/
def kstep (x : Option (Ti × List Gr)) (k : Kn) : Option (Ti × List Gr) :=
  match x, k with
  | none, _ => none
  | some (t, gs), .g vo lo hi => some (t, gs ++ [(vo, lo, hi)])
  | some (t, gs), .p a b s => if tiedOk t a b s then some (tiedT t a b s, gs) else none
def kfold (L : List Kn) (g0 : Gr) : Option (Ti × List Gr) := L.foldl kstep (some (freeT, [g0]))
/-- What of a set is known, and what is wished. -/
def selTo (ks : List Kn) (set : Nat) (k : Nat) : List Kn := (List.range k).flatMap fun i => match ks[i]? with | some x => if hasB set i then [x] else [] | none => []
def sel (ks : List Kn) (set : Nat) (ws : List Kn) : List Kn := selTo ks set ks.length ++ ws

/-- The seven numbers of a state. -/
def x7 (s : St) : SL := [s 0, s 1, s 2, s 3, s 4, s 5, s 6]
def f7 (x : SL) : St := fun i => x.getD i 0
theorem f7_x7 (s : St) (i : Nat) (h : i < 7) : f7 (x7 s) i = s i := by
  rcases (show i = 0 ∨ i = 1 ∨ i = 2 ∨ i = 3 ∨ i = 4 ∨ i = 5 ∨ i = 6 by omega) with rfl | rfl | rfl | rfl | rfl | rfl | rfl <;> rfl
theorem x7_f7 (x : SL) (h : x.length = 7) : x7 (f7 x) = x := by
  match x, h with
  | [a, b, c, d, e, f, g], _ => rfl
theorem lcells_x7 (s : St) : lcells (x7 s) = scells s := rfl
theorem scells_f7 (x : SL) (h : x.length = 7) : scells (f7 x) = lcells x := by rw [← lcells_x7, x7_f7 x h]
/-- A state, when the voters before k that chose with 'first' have been reckoned in. -/
def chooseTo (gs : List Gr) (t : Ti) (first : Nat) (white : Bool) (s : St) : Nat → St
  | 0 => s
  | k + 1 => if (t k).1 = first ∧ (t k).2 = white then withS gs (chooseTo gs t first white s k) k else chooseTo gs t first white s k
def chooseX (gs : List Gr) (t : Ti) (V first : Nat) (white : Bool) (x : SL) : SL := x7 (chooseTo gs t first white (f7 x) V)
/-- All states, when the voters before k have chosen. -/
def statesTo (gs : List Gr) (t : Ti) (V : Nat) : Nat → List SL
  | 0 => [[0, 0, 0, 0, 0, 0, 0]]
  | k + 1 => if (t k).1 = k then (statesTo gs t V k).flatMap fun x => [chooseX gs t V k false x, chooseX gs t V k true x] else statesTo gs t V k
def outN (gs : List Gr) (S : List SL) (n : Nat) : Nat := S.countP fun x => fitsB gs (f7 x) && f7 x 0 == n
/-- What counts returns. -/
def countN (V : Nat) (lo hi : Int) (L : List Kn) (n : Nat) : Nat :=
  match kfold L (2 ^ V - 1, lo, hi) with
  | none => 0
  | some (t, gs) => outN gs (statesTo gs t V V) n

theorem withTo_le (gs : List Gr) (s : St) (v k i : Nat) : withTo gs s v k i ≤ s i + 1 := by unfold withTo; split <;> omega
theorem chooseTo_le (gs : List Gr) (t : Ti) (first : Nat) (white : Bool) (s : St) (k i : Nat) : chooseTo gs t first white s k i ≤ s i + k := by
  induction k with
  | zero => simp [chooseTo]
  | succ k ih =>
    simp only [chooseTo]
    split
    · have := withTo_le gs (chooseTo gs t first white s k) k gs.length i
      show withTo _ _ _ _ _ ≤ _
      omega
    · omega
end Go.Proofs.Ytjbjmoghloabpaa
set_option linter.unusedVariables false
namespace Go
variable {P : Program} {ops : Array Oper} {Q : Exit → Act → World → Prop} {K : Act → World → Prop} {a : Act} {w : World} {o : Oper} {l n : Nat}

def noDefer (o : Oper) : Bool := match o.op with | .defer _ => false | _ => true
theorem noDefer_ne (h : noDefer o = true) : ∀ c, o.op ≠ .defer c := by
  intro c hc
  simp [noDefer, hc] at h

theorem rowsIn_wide' {row : String} {args : Array Value} {R : Value → World → Prop} (h : Rows P row args w R) : RowsIn (Fence.wide.inRound l) n P row args w R := by
  intro c cs hr
  obtain ⟨v, w', r, s⟩ := h c cs
  exact ⟨v, w', r, stepsIn_wide.2 s⟩

theorem Oper.wpIn_of_wp (hd : noDefer o = true) (h : o.wp P a w K Q) : o.wpIn (Fence.wide.inRound l) n P a w K Q := by
  unfold Oper.wpIn
  refine ⟨fun f _ => trivial, ?_⟩
  rw [Oper.semAt_eq _ _ _ (noDefer_ne hd)]
  unfold Oper.wp at h
  generalize (execOp a.eval o).run P w = r at h
  cases r with
  | ok x w' =>
    cases x <;> simp only [Oper.upon, Oper.uponIn] at h ⊢ <;>
      first
        | exact h
        | exact ⟨fun h0 => (by simp [Fence.wide] at h0), CallsIn.inRound l (callsIn_wide.2 h)⟩
        | exact ⟨fun h0 => (by simp [Fence.wide] at h0), rowsIn_wide' h⟩
        | exact h.elim
  | halt x w' => cases x <;> simp only [Oper.upon, Oper.uponIn] at h ⊢ <;> exact h

theorem wpListIn_of (hQ : ¬ LetsOut Q) : ∀ (lo : List Oper) (a : Act) (w : World), (∀ o ∈ lo, noDefer o = true) → wpList P ops Q lo a w → wpListIn (Fence.wide.inRound l) n P ops Q lo a w
  | [], a, w, _, h => h
  | o :: rest, a, w, hd, h => by
    simp only [wpList, wpListIn] at h ⊢
    split
    · rename_i hw
      simp only [hw, if_true] at h
      rcases h with h | h
      · exact Oper.wpIn_mono (fun a w h => wpListIn_of hQ rest a w (fun o ho => hd o (by simp [ho])) h) (Oper.wpIn_of_wp (hd o (by simp)) h)
      · exact absurd h.2 hQ
    · rename_i hw
      simp only [hw] at h
      exact ⟨fun f _ => trivial, wpListIn_of hQ rest _ w (fun o ho => hd o (by simp [ho])) h⟩
theorem wpIn_region_of {id : Nat} {lo : List Oper} (hQ : ¬ LetsOut Q) (hd : lo.all noDefer = true) (h : wpList P lo.toArray Q lo a w) : (Code.region id lo.toArray false).wpIn (Fence.wide.inRound l) n P Q a w :=
  wpIn_region_lit (wpListIn_of hQ lo a w (fun o ho => List.all_eq_true.1 hd o ho) h)

theorem wpAnyIn_of (hQ : ¬ LetsOut Q) (hd : ∀ (i : Nat) (o : Oper), ops[i]? = some o → noDefer o = true) : ∀ (fuel : Nat) (listed : Array Bool) (a : Act) (w : World), wpAny P .any ops Q fuel listed a w → wpAnyIn (Fence.wide.inRound l) n P .any ops Q fuel listed a w
  | 0, _, _, _, h => h
  | fuel + 1, listed, a, w, h => by
    refine ⟨h.1, fun i hi => ?_⟩
    have h2 := h.2 i hi
    unfold wpOp at h2
    unfold wpOpIn
    split
    · rename_i ho
      simp only [ho] at h2
      exact wpAnyIn_of hQ hd fuel _ _ _ h2
    · rename_i o ho
      simp only [ho] at h2
      split
      · rename_i hw
        simp only [hw, if_true] at h2
        rcases h2 with h2 | h2
        · exact Oper.wpIn_mono (fun a w h => wpAnyIn_of hQ hd fuel _ a w h) (Oper.wpIn_of_wp (hd i o ho) h2)
        · exact absurd h2.2 hQ
      · rename_i hw
        simp only [hw] at h2
        exact ⟨fun f _ => trivial, wpAnyIn_of hQ hd fuel _ _ _ h2⟩

/-- A region that draws its order, in a round's frame. -/
theorem Ord.wpIn_region {id : Nat} {lo : List Oper} (hO : ¬ LetsOut Q) (pl : List (Nat × Nat)) (H : World → Prop) (hm : P.follows .mixedOrders = true) (hp : Ord.planOk lo.toArray pl = true) (hd : lo.all noDefer = true)
    (hQ : ∀ c a d v w, Q (.panic c) (a.put d v) w → Q (.panic c) a w) (hH : H w.drew) (h : Ord.walk P lo.toArray H Q pl a w.drew) : (Code.region id lo.toArray true).wpIn (Fence.wide.inRound l) n P Q a w := by
  simp only [Ord.planOk, Bool.and_eq_true, beq_iff_eq] at hp
  obtain ⟨⟨hs, hl⟩, hp⟩ := hp
  refine wpIn_region_any hm (wpAnyIn_of hO (fun i o ho => List.all_eq_true.1 hd o (List.mem_of_getElem? (by simpa using ho))) _ _ _ _ (Ord.wpAny_of_any (H := H) (eff := fun i => pl.any fun (k, c) => k == i && c == 2) _ _ _ _ ?_))
  have h2 := Ord.any_of_walk (H := H) (eff := fun i => pl.any fun (k, c) => k == i && c == 2) hs hQ pl (Array.replicate lo.toArray.size false) a _ (by simp) hH hp h
  rw [hl] at h2
  exact h2
end Go
set_option linter.unusedVariables false
namespace Go
open Go.RowKit
section
variable {P : Program} {ops : Array Oper} {rest : List Oper} {o : Oper} {a : Act} {w : World} {Q : Exit → Act → World → Prop}
theorem madeCells_one (z : Value) (hz : z.cells = #[z]) (m : Nat) : madeCells z.cells m = Array.replicate m z := by
  apply Array.ext_getElem?
  intro i
  rw [hz]
  simp only [madeCells]
  by_cases h : i < m
  · simp [h, Nat.mod_one]
  · simp [h]
theorem wpList_make_blk (hg : o.guard = none) (l c : Operand) (t : TypeId) (hop : o.op = Op.makeSlice t l c) (e : TypeId) (i : TypeInfo) (z : Value) (h1 : P.underlying t = some (.slice e)) (h2 : P.info? e = some i) (h3 : i.zero = some z) (h4 : i.size = 1) (hz1 : z.cells = #[z])
    (kl kc : IntKind) (L C : Int) (k m : Nat) (hl : a.eval l = .int kl L) (hc : a.eval c = .int kc C) (hL : L = (k : Int)) (hC : C = (m : Int)) (hkm : k ≤ m) (b2 : i.bytes * m ≤ 281474976710656) (b3 : m ≤ maxLen)
    (hK : wpList P ops Q rest (a.put o.dst (.slice (some ⟨w.heap.size, 0, none⟩) k m)) (w.alloc (.cells (Array.replicate m z) e))) :
    wpList P ops Q (o :: rest) a w := by
  refine wpList_plain hg fun K hK' => ?_
  subst hL hC
  have h63' : (m : Int) ≤ 9223372036854775807 := by
    have h := b3
    simp [maxLen] at h
    omega
  have hb' : (i.bytes : Int) * (m : Int) ≤ 281474976710656 := by
    have h : ((i.bytes * m : Nat) : Int) ≤ 281474976710656 := by omega
    rwa [Int.natCast_mul] at h
  have hr := run_make (P := P) w t e i z h1 h2 h3 kl kc k m (by omega) (by omega) hb' h63'
  simp only [Int.toNat_natCast, h4, Nat.mul_one, madeCells_one z hz1] at hr
  unfold Oper.wp
  simp [execOp, hop, hl, hc, hr, Result.andThen]
  exact hK' _ _ hK
/-- A block of one-cell elements as an owned row. -/
theorem own_of_blk {b base : Nat} {A : Array Value} {e : TypeId} (h : Blk w b A e) (hb : base ≤ b) {k m : Nat} (hA : A.size = m) (hkm : k ≤ m) (hm : m ≤ maxLen) : w.ownsRow base e 1 (.slice (some ⟨b, 0, none⟩) k m) k (A.toList.take k) :=
  ⟨by simp; omega, .inr ⟨b, m, A, rfl, hb, h, hkm, hm, by omega, by simp⟩⟩
end
end Go
set_option linter.unusedVariables false
namespace Go.Ord
section
variable {P : Program} {H : World → Prop} {Q : Exit → Act → World → Prop} {k : Nat} {l : List (Nat × Nat)} {a : Act} {w : World} {lo : List Oper}
variable {d : Option Tmp} {ty t t' : TypeId} {pos : String} {af : Array Edge} {g : Option (Nat × Bool)} {x y i : Operand} {bo : BinOp}
/-- A sum, a shift .. among effects. -/
theorem wild_bin (v : Value) (ho : lo[k]? = some ⟨d, .binOp bo t x y t', ty, pos, af, g⟩) (hv : ∀ W, H W → yields P ⟨d, .binOp bo t x y t', ty, pos, af, g⟩ a W v)
    (h : ∀ K : Act → World → Prop, (∀ a, walk P lo.toArray H Q l a w → K a w) → wpList P lo.toArray (Exit.then K (fun _ _ _ => False)) [⟨d, .move (.const v), ty, pos, af, g⟩] a w) : walk P lo.toArray H Q ((k, 1) :: l) a w :=
  walk_wild_as ho v hv h
end
end Go.Ord
set_option linter.unusedVariables false
set_option linter.unusedSimpArgs false
namespace Go.Proofs.Ytjbjmoghloabpaa
open Go.RowKit Go.Proofs
attribute [local irreducible] Ord.walk

/-- Blocks below n are as they were, but those of a list. -/
structure Off (T : List Nat) (n : Nat) (w w' : World) : Prop where
  os : w'.os = w.os
  tape : w'.tape = w.tape
  output : w'.output = w.output
  size : w.heap.size ≤ w'.heap.size
  block : ∀ k, k < n → k ∉ T → w'.heap[k]? = w.heap[k]?
namespace Off
variable {T : List Nat} {n : Nat} {w w' w'' : World}
theorem refl (T : List Nat) (n : Nat) (w : World) : Off T n w w := ⟨rfl, rfl, rfl, Nat.le_refl _, fun _ _ _ => rfl⟩
theorem trans (h : Off T n w w') (k : Off T n w' w'') : Off T n w w'' :=
  ⟨k.os.trans h.os, k.tape.trans h.tape, k.output.trans h.output, Nat.le_trans h.size k.size, fun i hi ht => (k.block i hi ht).trans (h.block i hi ht)⟩
theorem mono {T' : List Nat} {m : Nat} (h : Off T n w w') (hm : m ≤ n) (hT : ∀ k, k < m → k ∈ T → k ∈ T') : Off T' m w w' :=
  ⟨h.os, h.tape, h.output, h.size, fun k hk ht => h.block k (by omega) (fun e => ht (hT k hk e))⟩
theorem of_below {m : Nat} (h : Below m w w') (hm : n ≤ m) : Off T n w w' := ⟨h.os, h.tape, h.output, h.size, fun k hk _ => h.block k (by omega)⟩
theorem below {m : Nat} (h : Off T n w w') (hm : m ≤ n) (hT : ∀ k ∈ T, m ≤ k) : Below m w w' := ⟨h.os, h.tape, h.output, h.size, fun k hk => h.block k (by omega) (fun e => absurd (hT k e) (by omega))⟩
theorem blk (h : Off T n w w') {b : Nat} {A : Array Value} {t : TypeId} (hb : Blk w b A t) (hn : b < n) (ht : b ∉ T) : Blk w' b A t := (h.block b hn ht).trans hb
theorem cell (h : Off T n w w') {a : Addr} (hn : a.block < n) (ht : a.block ∉ T) : w'.cell? a = w.cell? a := World.cell?_of_block (h.block _ hn ht)
theorem map (h : Off T n w w') {b : Nat} {l : List (SL × Nat)} (hb : MapIs w b l) (hn : b < n) (ht : b ∉ T) : MapIs w' b l := (h.block b hn ht).trans hb
theorem alloc (h : Off T n w w') (hn : n ≤ w'.heap.size) (o : Obj) : Off T n w (w'.alloc o) := h.trans (of_below ((Below.refl n w').alloc hn o) (Nat.le_refl _))
theorem drew (h : Off T n w w') : Off T n w w'.drew := ⟨h.os, h.tape, h.output, h.size, h.block⟩
theorem setCell (h : Off T n w w') {p : Addr} (hp : p.block ∈ T ∨ n ≤ p.block) (v : Value) : Off T n w (w'.setCell p v) :=
  h.trans ⟨rfl, rfl, rfl, by simp, fun k hk ht => Below.heap_setCell w' p v k (fun e => by subst e; rcases hp with hp | hp; exact ht hp; omega)⟩
theorem putObj (h : Off T n w w') {p : Nat} (hp : p ∈ T ∨ n ≤ p) (o : Obj) : Off T n w (w'.putObj p o) :=
  h.trans ⟨rfl, rfl, rfl, by simp, fun k hk ht => World.putObj_heap_other (fun e => by subst e; rcases hp with hp | hp; exact ht hp; omega)⟩
theorem rowed {b : Nat} {B : Array Value} {t : TypeId} (h : Off T n w w') (hr : Rowed w' b B t w'') (hp : b ∈ T ∨ n ≤ b) : Off T n w w'' := by
  have hb := hr.below (Below.refl b w') (Nat.le_refl _)
  refine h.trans ⟨hb.os, hb.tape, hb.output, by rw [hr.size]; exact Nat.le_refl _, fun k hk ht => ?_⟩
  exact hr.heap k (fun e => by subst e; rcases hp with hp | hp; exact ht hp; omega)
theorem turn {b : Nat} (h : Off T n w w') (hr : Turn1 w' b w'') (hp : b ∈ T ∨ n ≤ b) : Off T n w w'' := by
  have hb := hr.below (Below.refl b w') (Nat.le_refl _)
  exact h.trans ⟨hb.os, hb.tape, hb.output, by rw [hr.size]; exact Nat.le_refl _, fun k hk ht => hr.other (fun e => by subst e; rcases hp with hp | hp; exact ht hp; omega)⟩
end Off
theorem GrAt.off {T : List Nat} {n : Nat} {w w' : World} {gb : Nat} {go : Nat} {gs : List Gr} (h : GrAt w (some ⟨gb, go, none⟩) gs) (ho : Off T n w w') (hn : gb < n) (ht : gb ∉ T) : GrAt w' (some ⟨gb, go, none⟩) gs := fun i hi => by
  obtain ⟨b, o, h0, h1, h2, h3⟩ := h i hi
  simp only [Option.some.injEq, Addr.mk.injEq] at h0
  obtain ⟨rfl, rfl, -⟩ := h0
  exact ⟨gb, go, rfl, (ho.cell hn ht).trans h1, (ho.cell hn ht).trans h2, (ho.cell hn ht).trans h3⟩

def sL : Code → Code
  | .seq a _ => a
  | c => c
def sR : Code → Code
  | .seq _ b => b
  | c => c
def sI : Code → Code
  | .loop c => c
  | .block _ c => c
  | .scope c => c
  | .rangeFunc _ _ _ c => c
  | c => c
noncomputable def cTop : Code := sI (sR (Try.f56.body.getD .skip))
noncomputable def cX : Code := sR (sR (sR (sR cTop)))
noncomputable def cA : Code := sI (sR (sL cX))
noncomputable def cB : Code := sI (sR (sL (sR (sR (sR cX)))))
noncomputable def cY : Code := sI (sL (sR (sR (sI cB))))
noncomputable def cC : Code := sI (sR (sL (sR (sR (sR cY)))))
noncomputable def cRf : Code := sI (sR (sR (sI (sR (sR (sI cC))))))
noncomputable def cRb : Code := sI (sI cRf)
noncomputable def cD : Code := sI (sR (sL (sR cRb)))
noncomputable def cE : Code := sI (sR (sL (sR (sR (sR (sR cX))))))

set_option maxHeartbeats 4000000 in
set_option maxRecDepth 100000 in
theorem counts_l4 {u0 u1 u2 u3 u4 u5 u6 u7 u9 u11 u12 u13 u14 u15 u17 u18 u19 u22 u23 u24 u25 u26 u27 u28 u29 u30 u31 u32 u33 u34 u35 u36 u37 u38 u39 u40 u41 u42 u43 u44 u45 u46 u47 u48 u49 u50 u51 u52 u53 u54 u55 u56 u57 u58 u59 u60 u61 u62 u63 u64 u65 u66 u67 u68 u69 u70 u71 u72 u73 u74 u75 u76 u77 u78 u79 u80 u81 u82 u83 u84 u85 u86 u87 u88 u89 u90 u91 u92 u93 u94 u95 u96 u97 u98 u99 u100 u101 u102 u103 u104 u105 u106 u107 u108 u109 u110 u111 u112 u113 u114 u115 u116 u117 u118 u119 u120 u121 u122 u123 u124 u125 u126 u127 u128 u129 u130 u131 u132 u133 u134 u137 u138 u139 u140 u141 u142 u143 u144 u145 u146 u147 u148 u149 u150 u151 u152 u153 u154 u155 u156 u157 u158 u159 u160 u161 u162 u163 u164 u165 u166 u167 u168 u169 u170 u171 u172 u173 u174 u175 u176 u177 u178 u179 u180 u181 u182 u183 u184 u185 u186 u187 u188 u189 u190 : Value} {ds : List Deferred} (L m : Nat) (Q : Exit → Act → World → Prop) (hQ : ¬ LetsOut Q) (hP : ∀ c a w, ¬ Q (.panic c) a w) (W : World) (V bt gp gb gc fb xb first : Nat) (t : Ti) (gs : List Gr) (white : Bool) (s : St)
    (hV : V ≤ 8) (hgl : gs.length ≤ 7) (hvo : ∀ g ∈ gs, g.1 < 2 ^ 62) (hs : ∀ i, s i < 900)
    (b8 : Blk W bt (tcells t) 118) (b10 : Blk W gp #[.slice (some ⟨gb, 0, none⟩) gs.length gc] 120) (bg : GrAt W (some ⟨gb, 0, none⟩) gs) (hgb : gb < W.heap.size)
    (b16 : Blk W fb #[.int .i64 first] 3) (bx : Blk W xb (scells s) 126) (d1 : bt ≠ xb) (d2 : gp ≠ xb) (d3 : gb ≠ xb) (d4 : fb ≠ xb)
    (hexit : ∀ (x22 x136 x137 x138 x139 x140 x141 x142 x143 x144 x145 x146 x147 x148 x149 x150 x151 x152 x153 x154 x155 x156 x157 : Value) W', Off [xb] W.heap.size W W' → Blk W' xb (scells (chooseTo gs t first white s V)) 126 →
      Q (.exit 8) ⟨(u0 :: u1 :: u2 :: u3 :: u4 :: u5 :: u6 :: u7 :: .pointer (some ⟨bt, 0, none⟩) :: u9 :: .pointer (some ⟨gp, 0, none⟩) :: u11 :: u12 :: u13 :: u14 :: u15 :: .pointer (some ⟨fb, 0, none⟩) :: u17 :: u18 :: u19 :: .bool white :: .pointer (some ⟨xb, 0, none⟩) :: x22 :: u23 :: u24 :: u25 :: u26 :: u27 :: u28 :: u29 :: u30 :: u31 :: u32 :: u33 :: u34 :: u35 :: u36 :: u37 :: u38 :: u39 :: u40 :: u41 :: u42 :: u43 :: u44 :: u45 :: u46 :: u47 :: u48 :: u49 :: u50 :: u51 :: u52 :: u53 :: u54 :: u55 :: u56 :: u57 :: u58 :: u59 :: u60 :: u61 :: u62 :: u63 :: u64 :: u65 :: u66 :: u67 :: u68 :: u69 :: u70 :: u71 :: u72 :: u73 :: u74 :: u75 :: u76 :: u77 :: u78 :: u79 :: u80 :: u81 :: u82 :: u83 :: u84 :: u85 :: u86 :: u87 :: u88 :: u89 :: u90 :: u91 :: u92 :: u93 :: u94 :: u95 :: u96 :: u97 :: u98 :: u99 :: u100 :: u101 :: u102 :: u103 :: u104 :: u105 :: u106 :: u107 :: u108 :: u109 :: u110 :: u111 :: u112 :: u113 :: u114 :: u115 :: u116 :: u117 :: u118 :: u119 :: u120 :: u121 :: u122 :: u123 :: u124 :: u125 :: u126 :: u127 :: u128 :: u129 :: u130 :: u131 :: u132 :: u133 :: u134 :: .int .i64 V :: x136 :: x137 :: x138 :: x139 :: x140 :: x141 :: x142 :: x143 :: x144 :: x145 :: x146 :: x147 :: x148 :: x149 :: x150 :: x151 :: x152 :: x153 :: x154 :: x155 :: x156 :: x157 :: u158 :: u159 :: u160 :: u161 :: u162 :: u163 :: u164 :: u165 :: u166 :: u167 :: u168 :: u169 :: u170 :: u171 :: u172 :: u173 :: u174 :: u175 :: u176 :: u177 :: u178 :: u179 :: u180 :: u181 :: u182 :: u183 :: u184 :: u185 :: u186 :: u187 :: u188 :: u189 :: u190 :: []).toArray, ds⟩ W') :
    cD.wpIn (Fence.wide.inRound L) m Try.prog Q ⟨(u0 :: u1 :: u2 :: u3 :: u4 :: u5 :: u6 :: u7 :: .pointer (some ⟨bt, 0, none⟩) :: u9 :: .pointer (some ⟨gp, 0, none⟩) :: u11 :: u12 :: u13 :: u14 :: u15 :: .pointer (some ⟨fb, 0, none⟩) :: u17 :: u18 :: u19 :: .bool white :: .pointer (some ⟨xb, 0, none⟩) :: u22 :: u23 :: u24 :: u25 :: u26 :: u27 :: u28 :: u29 :: u30 :: u31 :: u32 :: u33 :: u34 :: u35 :: u36 :: u37 :: u38 :: u39 :: u40 :: u41 :: u42 :: u43 :: u44 :: u45 :: u46 :: u47 :: u48 :: u49 :: u50 :: u51 :: u52 :: u53 :: u54 :: u55 :: u56 :: u57 :: u58 :: u59 :: u60 :: u61 :: u62 :: u63 :: u64 :: u65 :: u66 :: u67 :: u68 :: u69 :: u70 :: u71 :: u72 :: u73 :: u74 :: u75 :: u76 :: u77 :: u78 :: u79 :: u80 :: u81 :: u82 :: u83 :: u84 :: u85 :: u86 :: u87 :: u88 :: u89 :: u90 :: u91 :: u92 :: u93 :: u94 :: u95 :: u96 :: u97 :: u98 :: u99 :: u100 :: u101 :: u102 :: u103 :: u104 :: u105 :: u106 :: u107 :: u108 :: u109 :: u110 :: u111 :: u112 :: u113 :: u114 :: u115 :: u116 :: u117 :: u118 :: u119 :: u120 :: u121 :: u122 :: u123 :: u124 :: u125 :: u126 :: u127 :: u128 :: u129 :: u130 :: u131 :: u132 :: u133 :: u134 :: .int .i64 V :: .int .i64 0 :: u137 :: u138 :: u139 :: u140 :: u141 :: u142 :: u143 :: u144 :: u145 :: u146 :: u147 :: u148 :: u149 :: u150 :: u151 :: u152 :: u153 :: u154 :: u155 :: u156 :: u157 :: u158 :: u159 :: u160 :: u161 :: u162 :: u163 :: u164 :: u165 :: u166 :: u167 :: u168 :: u169 :: u170 :: u171 :: u172 :: u173 :: u174 :: u175 :: u176 :: u177 :: u178 :: u179 :: u180 :: u181 :: u182 :: u183 :: u184 :: u185 :: u186 :: u187 :: u188 :: u189 :: u190 :: []).toArray, ds⟩ W := by
  have HE := Lib.hid hexit
  clear hexit
  conv => arg 4; whnf
  gi_loopw [136] (fun i wr => ∃ k : Nat, k ≤ V ∧ i = .int .i64 k ∧ Off [xb] W.heap.size W wr ∧ Blk wr xb (scells (chooseTo gs t first white s k)) 126) (fun i _ => V - (intOf i).toNat)
  case atStart => exact ⟨0, by omega, rfl, Off.refl _ _ _, bx⟩
  case round =>
    obtain ⟨k, hk, rfl, hO, hx⟩ := hrel
    have e8 := hO.blk b8 b8.lt (by simpa using d1)
    have e10 := hO.blk b10 b10.lt (by simpa using d2)
    have e16 := hO.blk b16 b16.lt (by simpa using d4)
    have eg := bg.off hO hgb (by simpa using d3)
    have hxl : xb < wr.heap.size := hx.lt
    have hnw := hO.size
    have hgbw : gb < wr.heap.size := by omega
    have n8 := b8.lt
    have n10 := b10.lt
    have n16 := b16.lt
    have nx := bx.lt
    have hsk : ∀ i, chooseTo gs t first white s k i < 1000 := fun i => by have := chooseTo_le gs t first white s k i; have := hs i; omega
    clear b8 b10 b16 bg bx hs
    by_cases hlt : k < V
    · have hlti : (k : Int) < V := by omega
      have hk8 : (k : Int) < 8 := by omega
      have hc1 := tcells_to t k (by omega)
      have hc2 := tcells_same t k (by omega)
      have hix := index_ties t k (by omega)
      have HS : Hid (chooseTo gs t first white s (k + 1) = if (t k).1 = first ∧ (t k).2 = white then withS gs (chooseTo gs t first white s k) k else chooseTo gs t first white s k) := rfl
      generalize tcells t = TC at *
      have r8 := e8.cell
      have r10 := e10.cell
      have r16 := e16.cell
      (repeat (first | ((with_reducible refine wpIn_region_of ?_ ?_ ?_); (focus exact fun ⟨a, w, h⟩ => hQ ⟨a, w, h⟩); (focus rfl)) | gi_step))
      go_wp2_with fail
      (repeat (first | ((with_reducible refine wpIn_region_of ?_ ?_ ?_); (focus exact fun ⟨a, w, h⟩ => hQ ⟨a, w, h⟩); (focus rfl)) | gi_step))
      go_wp2_with fail
      (repeat (first | ((with_reducible refine wpIn_region_of ?_ ?_ ?_); (focus exact fun ⟨a, w, h⟩ => hQ ⟨a, w, h⟩); (focus rfl)) | gi_step))
      by_cases hf : (t k).1 = first
      · have hfi : (((t k).1 : Int) == (first : Int)) = true := by simp [hf]
        by_cases hw : (t k).2 = white
        · have hwi : ((t k).2 == white) = true := by simp [hw]
          have h2 := HS.out
          rw [if_pos ⟨hf, hw⟩] at h2
          have hW0 := b_with (chooseTo gs t first white s k) hsk (some ⟨gb, 0, none⟩) gc gs hgl hvo k k rfl (by omega) wr.drew eg
          rw [← h2] at hW0
          clear h2 HS hf hw hsk
          obtain ⟨s2, hS3⟩ : ∃ s2, chooseTo gs t first white s (k + 1) = s2 := ⟨_, rfl⟩
          rw [hS3] at hW0
          have HW := Lib.hid hW0
          have HS3 := Lib.hid hS3
          clear hS3 hW0
          generalize chooseTo gs t first white s k = s1 at *
          refine Ord.wpIn_region (fun ⟨a, w, h⟩ => hQ ⟨a, w, h⟩) [(0, 0), (1, 0), (2, 0), (3, 0), (4, 0), (5, 0), (6, 0), (7, 0), (8, 0), (9, 0), (10, 0), (11, 0), (12, 0), (13, 0)] (fun _ => True) (by kernel_rfl) (by kernel_rfl) (by kernel_rfl) (fun c a d v w h => (hP c _ w h).elim) trivial ?_
          go_wp2_with (first | ((with_reducible refine Ord.at_calm ?_); refine Ord.calm_skip rfl ?_ (fun K hK => ?_); (focus (simp [Region.wanted, yielded]; done))) | with_reducible refine Ord.walk_calm rfl rfl (fun K hK => ?_) | ((with_reducible refine Ord.at_wild ?_); refine Ord.wild_fieldAddr rfl rfl (fun W => by simp [go_sem]; rfl) (fun K hK => ?_)) | ((with_reducible refine Ord.at_wild ?_); refine Ord.wild_move rfl rfl (fun K hK => ?_)) | ((with_reducible refine Ord.at_wild ?_); refine Ord.wild_nilCheck rfl rfl (fun K hK => ?_)) | with_reducible refine Ord.walk_eff rfl (by first | (simp; done) | assumption | (go_simp; done) | (repeat (first | assumption | exact Below.refl _ _ | refine Below.drew ?_ | refine Below.alloc ?_ (by first | omega | (simp; done) | (simp; omega)) _ | refine Below.setCell ?_ (by first | omega | (simp; done) | (simp; omega)) _ | refine Below.trans ?_ (Below.mono (by assumption) (by first | omega | (simp; done) | (simp; omega)))))) (fun K hK => ?_) | with_reducible refine Ord.at_fork ?_ ?_ | with_reducible refine Ord.walk_nil ?_ | (with_reducible refine Ord.next_of (by first | (simp; done) | (go_simp; done) | (repeat (first | assumption | exact Below.refl _ _ | refine Below.drew ?_ | refine Below.alloc ?_ (by first | omega | (simp; done) | (simp; omega)) _ | refine Below.setCell ?_ (by first | omega | (simp; done) | (simp; omega)) _ | refine Below.trans ?_ (Below.mono (by assumption) (by first | omega | (simp; done) | (simp; omega)))))) (fun _ => ?_)))
          (repeat (first | ((with_reducible refine wpIn_region_of ?_ ?_ ?_); (focus exact fun ⟨a, w, h⟩ => hQ ⟨a, w, h⟩); (focus rfl)) | gi_step))
          have q1 := scells_size s1
          have q2 := scells_size s2
          have q3 := ones_st s2
          generalize hX1 : scells s1 = X1 at *
          generalize hX2 : scells s2 = X2 at *
          have HX2 := Lib.hid hX2
          clear hX2
          clear eg e8 e16 r8 r16 hc1 hc2 hix hX1
          go_wp2_with (first
            | (refine wpList_load_blk 126 (.tmp 21) agg_st rfl rfl rfl hx.drew q1 ?_)
            | (go_at_call 99; refine HW.out.mono ?_; rintro e w4 ⟨rfl, hb4⟩)
            | (refine wpList_store_blk 126 (.tmp 21) (.tmp 156) agg_st rfl rfl rfl rfl (hx.drew.below hb4 hxl) q1 q2 q3 ?_; intro w5 h5))
          (repeat (first | ((with_reducible refine wpIn_region_of ?_ ?_ ?_); (focus exact fun ⟨a, w, h⟩ => hQ ⟨a, w, h⟩); (focus rfl)) | gi_step))
          go_wp2_with fail
          refine ⟨⟨k + 1, by omega, by go_num, ((hO.drew.trans (Off.of_below hb4 hnw)).rowed h5 (by simp)), (by rw [HS3.out, HX2.out]; exact h5.blk)⟩, by simp [intOf]; omega⟩
        · have hwi : ((t k).2 == white) = false := by simp [hw]
          have h2 := HS.out
          rw [if_neg (fun e => hw e.2)] at h2
          clear HS hf hw hsk
          rw [← h2] at hx
          clear h2
          refine Ord.wpIn_region (fun ⟨a, w, h⟩ => hQ ⟨a, w, h⟩) [(0, 0), (1, 0), (2, 0), (3, 0), (4, 0), (5, 0), (6, 0), (7, 0), (8, 0), (9, 0), (10, 0), (11, 0), (12, 0), (13, 0)] (fun _ => True) (by kernel_rfl) (by kernel_rfl) (by kernel_rfl) (fun c a d v w h => (hP c _ w h).elim) trivial ?_
          go_wp2_with (first | ((with_reducible refine Ord.at_calm ?_); refine Ord.calm_skip rfl ?_ (fun K hK => ?_); (focus (simp [Region.wanted, yielded]; done))) | with_reducible refine Ord.walk_calm rfl rfl (fun K hK => ?_) | ((with_reducible refine Ord.at_wild ?_); refine Ord.wild_fieldAddr rfl rfl (fun W => by simp [go_sem]; rfl) (fun K hK => ?_)) | ((with_reducible refine Ord.at_wild ?_); refine Ord.wild_move rfl rfl (fun K hK => ?_)) | ((with_reducible refine Ord.at_wild ?_); refine Ord.wild_nilCheck rfl rfl (fun K hK => ?_)) | with_reducible refine Ord.walk_eff rfl (by first | (simp; done) | assumption | (go_simp; done) | (repeat (first | assumption | exact Below.refl _ _ | refine Below.drew ?_ | refine Below.alloc ?_ (by first | omega | (simp; done) | (simp; omega)) _ | refine Below.setCell ?_ (by first | omega | (simp; done) | (simp; omega)) _ | refine Below.trans ?_ (Below.mono (by assumption) (by first | omega | (simp; done) | (simp; omega)))))) (fun K hK => ?_) | with_reducible refine Ord.at_fork ?_ ?_ | with_reducible refine Ord.walk_nil ?_ | (with_reducible refine Ord.next_of (by first | (simp; done) | (go_simp; done) | (repeat (first | assumption | exact Below.refl _ _ | refine Below.drew ?_ | refine Below.alloc ?_ (by first | omega | (simp; done) | (simp; omega)) _ | refine Below.setCell ?_ (by first | omega | (simp; done) | (simp; omega)) _ | refine Below.trans ?_ (Below.mono (by assumption) (by first | omega | (simp; done) | (simp; omega)))))) (fun _ => ?_)))
          (repeat (first | ((with_reducible refine wpIn_region_of ?_ ?_ ?_); (focus exact fun ⟨a, w, h⟩ => hQ ⟨a, w, h⟩); (focus rfl)) | gi_step))
          go_wp2_with fail
          refine ⟨⟨k + 1, by omega, by go_num, hO.drew, hx.drew⟩, by simp [intOf]; omega⟩
      · have hfi : (((t k).1 : Int) == (first : Int)) = false := by simp; omega
        have h2 := HS.out
        rw [if_neg (fun e => hf e.1)] at h2
        clear HS hf hsk
        rw [← h2] at hx
        clear h2
        refine Ord.wpIn_region (fun ⟨a, w, h⟩ => hQ ⟨a, w, h⟩) [(0, 0), (1, 0), (2, 0), (3, 0), (4, 0), (5, 0), (6, 0), (7, 0), (8, 0), (9, 0), (10, 0), (11, 0), (12, 0), (13, 0)] (fun _ => True) (by kernel_rfl) (by kernel_rfl) (by kernel_rfl) (fun c a d v w h => (hP c _ w h).elim) trivial ?_
        go_wp2_with (first | ((with_reducible refine Ord.at_calm ?_); refine Ord.calm_skip rfl ?_ (fun K hK => ?_); (focus (simp [Region.wanted, yielded]; done))) | with_reducible refine Ord.walk_calm rfl rfl (fun K hK => ?_) | ((with_reducible refine Ord.at_wild ?_); refine Ord.wild_fieldAddr rfl rfl (fun W => by simp [go_sem]; rfl) (fun K hK => ?_)) | ((with_reducible refine Ord.at_wild ?_); refine Ord.wild_move rfl rfl (fun K hK => ?_)) | ((with_reducible refine Ord.at_wild ?_); refine Ord.wild_nilCheck rfl rfl (fun K hK => ?_)) | with_reducible refine Ord.walk_eff rfl (by first | (simp; done) | assumption | (go_simp; done) | (repeat (first | assumption | exact Below.refl _ _ | refine Below.drew ?_ | refine Below.alloc ?_ (by first | omega | (simp; done) | (simp; omega)) _ | refine Below.setCell ?_ (by first | omega | (simp; done) | (simp; omega)) _ | refine Below.trans ?_ (Below.mono (by assumption) (by first | omega | (simp; done) | (simp; omega)))))) (fun K hK => ?_) | with_reducible refine Ord.at_fork ?_ ?_ | with_reducible refine Ord.walk_nil ?_ | (with_reducible refine Ord.next_of (by first | (simp; done) | (go_simp; done) | (repeat (first | assumption | exact Below.refl _ _ | refine Below.drew ?_ | refine Below.alloc ?_ (by first | omega | (simp; done) | (simp; omega)) _ | refine Below.setCell ?_ (by first | omega | (simp; done) | (simp; omega)) _ | refine Below.trans ?_ (Below.mono (by assumption) (by first | omega | (simp; done) | (simp; omega)))))) (fun _ => ?_)))
        (repeat (first | ((with_reducible refine wpIn_region_of ?_ ?_ ?_); (focus exact fun ⟨a, w, h⟩ => hQ ⟨a, w, h⟩); (focus rfl)) | gi_step))
        go_wp2_with fail
        refine ⟨⟨k + 1, by omega, by go_num, hO.drew, hx.drew⟩, by simp [intOf]; omega⟩
    · have hkl : k = V := by omega
      subst hkl
      (repeat (first | ((with_reducible refine wpIn_region_of ?_ ?_ ?_); (focus exact fun ⟨a, w, h⟩ => hQ ⟨a, w, h⟩); (focus rfl)) | gi_step))
      go_wp2_with fail
      (repeat (first | ((with_reducible refine wpIn_region_of ?_ ?_ ?_); (focus exact fun ⟨a, w, h⟩ => hQ ⟨a, w, h⟩); (focus rfl)) | gi_step))
      exact HE.out _ _ _ _ _ _ _ _ _ _ _ _ _ _ _ _ _ _ _ _ _ _ _ _ hO hx
end Go.Proofs.Ytjbjmoghloabpaa
