/- Parts of a proof: MapSt, MapStB, BnF. -/
import Derived.Test.YtjbjmoghloabpaaM06
import Derived.Maps.RangeRun
import Derived.DeepKeys5
import Derived.Carry
/- Maps from states to numbers. -/
set_option linter.unusedVariables false
set_option linter.unusedSimpArgs false
namespace Go.Proofs.Ytjbjmoghloabpaa
open Go.RowKit Go.Proofs

/-- A state as its seven numbers. -/
abbrev SL := List Nat
def lcells (x : SL) : Array Value := (x.map fun n : Nat => Value.int .i64 n).toArray
def SL7 (x : SL) : Prop := x.length = 7 ∧ ∀ n ∈ x, n < 1000
theorem lcells_inj {x y : SL} (h : lcells x = lcells y) : x = y := by
  unfold lcells at h
  have h2 : x.map (fun n : Nat => Value.int .i64 n) = y.map (fun n : Nat => Value.int .i64 n) := by simpa using h
  refine List.map_inj_right (f := fun n : Nat => Value.int .i64 n) (fun a b hab => ?_) |>.1 h2
  simp only [Value.int.injEq, true_and] at hab
  omega

theorem laid_out : laidOutB Try.prog = true := by kernel_rfl
theorem st_law : WideMaps.KeyLaw Try.prog 126 :=
  deep_law_gate laid_out (of_decide_eq_true (by kernel_rfl)) (of_decide_eq_true (by kernel_rfl)) (by kernel_rfl) (by rw [Try.underlying126])

theorem st_key {x : SL} (h : SL7 x) : ∃ l, keyOf Try.prog 126 (.agg (lcells x)) = some l := by
  obtain ⟨h7, hx⟩ := h
  match x, h7 with
  | [a, b, c, d, e, f, g], _ =>
    simp only [List.mem_cons, List.not_mem_nil, or_false, forall_eq_or_imp, forall_eq] at hx
    obtain ⟨ha, hb, hc, hd, he, hf, hg⟩ := hx
    have hk : Try.prog.keyType 126 = true := by kernel_rfl
    obtain ⟨n, hn⟩ : ∃ n, Try.prog.types.size + 1 = n + 3 := ⟨Try.prog.types.size - 2, by have : 2 ≤ Try.prog.types.size := of_decide_eq_true (by kernel_rfl); omega⟩
    unfold keyOf
    rw [Try.underlying126]
    simp only [hk, hn]
    have c1 : Try.prog.cellsOf 126 = 7 := by kernel_rfl
    have c2 : Try.prog.cellsOf 124 = 7 := by kernel_rfl
    have c3 : Try.prog.cellsOf 3 = 1 := by kernel_rfl
    have hform : (Value.agg (lcells [a, b, c, d, e, f, g])).formed Try.prog 126 = true := by
      simp [Value.formed, Try.underlying126, c1, lcells]
    rw [hform]
    have hr : List.range 7 = [0, 1, 2, 3, 4, 5, 6] := rfl
    have hw : ∀ n : Nat, n < 1000 → (Lit.int .i64 n).wf = true := fun n hn => by have : IntKind.i64.min = -9223372036854775808 := rfl; simp [Lit.wf, this]; omega
    simp [Program.keyLits, Try.underlying126, Try.underlying124, Try.underlying3, lcells, c1, c2, c3, Value.cells, hr, hw a ha, hw b hb, hw c hc, hw d hd, hw e he, hw f hf, hw g hg]

/-- A map's entries. -/
def entsFrom : Nat → List (SL × Nat) → List MapEntry
  | _, [] => []
  | i, p :: l => { key := .agg (lcells p.1), val := .int .i64 p.2, born := i } :: entsFrom (i + 1) l
def ents (l : List (SL × Nat)) : Array MapEntry := (entsFrom 0 l).toArray
def MapIs (w : World) (m : Nat) (l : List (SL × Nat)) : Prop := w.heap[m]? = some (.map (ents l) l.length)
def MapOk (l : List (SL × Nat)) : Prop := (∀ p ∈ l, SL7 p.1) ∧ (l.map (·.1)).Nodup
def getM (l : List (SL × Nat)) (x : SL) : Nat := ((l.find? (fun p => p.1 == x)).map (·.2)).getD 0
def putM (l : List (SL × Nat)) (x : SL) (v : Nat) : List (SL × Nat) := if x ∈ l.map (·.1) then l.map (fun p => if p.1 = x then (x, v) else p) else l ++ [(x, v)]
theorem entsFrom_length (i : Nat) (l : List (SL × Nat)) : (entsFrom i l).length = l.length := by
  induction l generalizing i with
  | nil => rfl
  | cons p l ih => simp [entsFrom, ih]
theorem entsFrom_get (i : Nat) (l : List (SL × Nat)) (j : Nat) : (entsFrom i l)[j]? = l[j]?.map fun p => { key := .agg (lcells p.1), val := .int .i64 p.2, born := i + j } := by
  induction l generalizing i j with
  | nil => simp [entsFrom]
  | cons p l ih =>
    cases j with
    | zero => simp [entsFrom]
    | succ j => simp [entsFrom, ih]; congr 1; funext q; congr 1; omega
theorem entsFrom_mem {i : Nat} {l : List (SL × Nat)} {e : MapEntry} (h : e ∈ entsFrom i l) : ∃ p ∈ l, e.key = .agg (lcells p.1) ∧ e.val = .int .i64 p.2 := by
  induction l generalizing i with
  | nil => simp [entsFrom] at h
  | cons p l ih =>
    simp only [entsFrom, List.mem_cons] at h
    rcases h with rfl | h
    · exact ⟨p, by simp, rfl, rfl⟩
    · obtain ⟨q, h1, h2, h3⟩ := ih h
      exact ⟨q, by simp [h1], h2, h3⟩
theorem MapOk.keyed {l : List (SL × Nat)} (h : MapOk l) : ∀ e ∈ (ents l).toList, ∃ k, keyOf Try.prog 126 e.key = some k := by
  intro e he
  obtain ⟨p, hp, hk, -⟩ := entsFrom_mem (show e ∈ entsFrom 0 l by simpa [ents] using he)
  rw [hk]
  exact st_key (h.1 p hp)

theorem getM_at {l : List (SL × Nat)} (h : MapOk l) {j : Nat} {p : SL × Nat} (hj : l[j]? = some p) : getM l p.1 = p.2 := by
  unfold getM
  have hm : p ∈ l := List.mem_of_getElem? hj
  have h1 : ∀ q ∈ l, q.1 = p.1 → q = p := by
    have hn := h.2
    intro q hq he
    obtain ⟨i, hi⟩ := List.getElem?_of_mem hq
    have hi' : (l.map (·.1))[i]? = some q.1 := by simp [hi]
    have hj' : (l.map (·.1))[j]? = some p.1 := by simp [hj]
    rw [he] at hi'
    have hij : i = j := (List.getElem?_inj (by simpa using (List.getElem?_eq_some_iff.1 hi).1) hn).1 (hi'.trans hj'.symm)
    subst hij
    rw [hi] at hj
    simpa using hj
  cases hf : l.find? (fun q => q.1 == p.1) with
  | none =>
    have := List.find?_eq_none.1 hf p hm
    simp at this
  | some q =>
    have h2 := List.find?_some hf
    have h3 := List.mem_of_find?_eq_some hf
    have h4 := h1 q h3 (by simpa using h2)
    subst h4
    rfl
theorem getM_none {l : List (SL × Nat)} {x : SL} (h : ∀ p ∈ l, p.1 ≠ x) : getM l x = 0 := by
  unfold getM
  rw [List.find?_eq_none.2 (fun p hp => by simpa using h p hp)]
  rfl
/-- What is found at a key. -/
theorem run_find_st {l : List (SL × Nat)} (h : MapOk l) {x : SL} (hx : SL7 x) (w : World) :
    ((Instr.findKey 126 (.agg (lcells x)) (ents l).toList).run Try.prog w = .ok none w ∧ ∀ p ∈ l, p.1 ≠ x) ∨
    ∃ j p, (Instr.findKey 126 (.agg (lcells x)) (ents l).toList).run Try.prog w = .ok (some (j, .int .i64 p.2)) w ∧ l[j]? = some p ∧ p.1 = x := by
  obtain ⟨k, hk⟩ := st_key hx
  rcases st_law.find w hk (ents l).toList h.keyed with ⟨h1, h2⟩ | ⟨j, e, h1, h2, h3⟩
  · refine .inl ⟨h1, fun p hp he => ?_⟩
    obtain ⟨i, hi⟩ := List.getElem?_of_mem hp
    have : ({ key := .agg (lcells p.1), val := .int .i64 p.2, born := 0 + i } : MapEntry) ∈ (ents l).toList := by
      refine List.mem_of_getElem? (i := i) ?_
      simp [ents, entsFrom_get, hi]
    exact h2 _ this (by rw [he])
  · have h4 : (entsFrom 0 l)[j]? = some e := by simpa [ents] using h2
    rw [entsFrom_get] at h4
    cases hp : l[j]? with
    | none => simp [hp] at h4
    | some p =>
      simp only [hp, Option.map_some, Option.some.injEq] at h4
      subst h4
      exact .inr ⟨j, p, h1, hp, lcells_inj (by simpa using h3)⟩
theorem run_lookup_st {w : World} {m : Nat} {l : List (SL × Nat)} (hm : MapIs w m l) (h : MapOk l) {x : SL} (hx : SL7 x) :
    (Instr.lookup 127 (.map (some m)) (.agg (lcells x)) false).run Try.prog w = .ok (.int .i64 (getM l x)) w := by
  obtain ⟨k, hk⟩ := st_key hx
  have hc := fun em => st_law.check w em hk
  have hz : (zeroValue 3).run Try.prog w = .ok (.int .i64 0) w := by simp [go_sem]
  rcases run_find_st h hx w with ⟨h1, h2⟩ | ⟨j, p, h1, h2, h3⟩
  · simp [Instr.lookup, Try.underlying127, MapKept.run_getObj_map hm, hc, h1, hz, getM_none h2]
  · subst h3
    simp [Instr.lookup, Try.underlying127, MapKept.run_getObj_map hm, hc, h1, getM_at h h2]

/-- A world in which block b alone has turned. -/
structure Turn1 (w : World) (b : Nat) (w' : World) : Prop where
  size : w'.heap.size = w.heap.size
  other : ∀ {c : Nat}, c ≠ b → w'.heap[c]? = w.heap[c]?
  cell : ∀ c i, w'.cell? ⟨c, i, none⟩ = if c = b then cellX w' b i else w.cell? ⟨c, i, none⟩
  free : ∀ c i, w'.frozen? ⟨c, i, none⟩ = if c = b then frozenX w' b i else w.frozen? ⟨c, i, none⟩
  below : ∀ {n : Nat} {W : World}, Below n W w → n ≤ b → Below n W w'
theorem Turn1.blk {w w' : World} {b c : Nat} {A : Array Value} {t : TypeId} (h : Turn1 w b w') (hb : Blk w c A t) (hc : c ≠ b) : Blk w' c A t := (h.other hc).trans hb
theorem Turn1.of {w w1 : World} {b : Nat} {o : Obj} (hw : w1 = w ∨ w1 = w.drew) (hb : b < w.heap.size) : Turn1 w b (Go.ChangeMaps.setBlock w1 b o) ∧ (Go.ChangeMaps.setBlock w1 b o).heap[b]? = some o := by
  have hh : w1.heap = w.heap := by rcases hw with rfl | rfl <;> rfl
  have hot : ∀ {c : Nat}, c ≠ b → (Go.ChangeMaps.setBlock w1 b o).heap[c]? = w.heap[c]? := by
    intro c hc
    simp only [Go.ChangeMaps.setBlock]
    rw [Array.getElem?_setIfInBounds, if_neg (Ne.symm hc), hh]
  have hsz : (Go.ChangeMaps.setBlock w1 b o).heap.size = w.heap.size := by simp [Go.ChangeMaps.setBlock, hh]
  refine ⟨⟨hsz, hot, fun c i => ?_, fun c i => ?_, fun hB hn => hB.trans ⟨?_, ?_, ?_, Nat.le_of_eq hsz.symm, fun k hk => hot (by omega)⟩⟩, ?_⟩
  · by_cases hc : c = b
    · subst hc; rw [if_pos rfl]; rfl
    · rw [if_neg hc]; exact World.cell?_of_block (a := ⟨c, i, none⟩) (hot hc)
  · by_cases hc : c = b
    · subst hc; rw [if_pos rfl]; rfl
    · rw [if_neg hc]; exact World.frozen?_of_block (a := ⟨c, i, none⟩) (hot hc)
  · rcases hw with rfl | rfl <;> rfl
  · rcases hw with rfl | rfl <;> rfl
  · rcases hw with rfl | rfl <;> rfl
  · simp only [Go.ChangeMaps.setBlock]
    rw [Array.getElem?_setIfInBounds, if_pos rfl, if_pos (by rw [hh]; exact hb)]

theorem putM_old {l : List (SL × Nat)} (h : MapOk l) {j : Nat} {p : SL × Nat} (hj : l[j]? = some p) (v : Nat) :
    (ents l).modify j (fun e => { e with key := .agg (lcells p.1), val := .int .i64 v }) = ents (putM l p.1 v) ∧ (putM l p.1 v).length = l.length := by
  have hm : p ∈ l := List.mem_of_getElem? hj
  have hin : p.1 ∈ l.map (·.1) := List.mem_map_of_mem hm
  unfold putM
  rw [if_pos hin]
  refine ⟨?_, by simp⟩
  apply Array.ext_getElem?
  intro i
  rw [Array.getElem?_modify]
  simp only [ents, List.getElem?_toArray, entsFrom_get, List.getElem?_map, Option.map_map]
  by_cases hij : j = i
  · subst hij
    rw [if_pos rfl, hj]
    simp
  · rw [if_neg hij]
    cases hq : l[i]? with
    | none => rfl
    | some q =>
      have hne : q.1 ≠ p.1 := by
        intro he
        have hi' : (l.map (·.1))[i]? = some q.1 := by simp [hq]
        have hj' : (l.map (·.1))[j]? = some p.1 := by simp [hj]
        rw [he] at hi'
        exact hij ((List.getElem?_inj (by simpa using (List.getElem?_eq_some_iff.1 hj).1) h.2).1 (hj'.trans hi'.symm))
      simp [hne]
theorem putM_new {l : List (SL × Nat)} {x : SL} (hn : ∀ p ∈ l, p.1 ≠ x) (v : Nat) :
    (ents l).push { key := .agg (lcells x), val := .int .i64 v, born := l.length } = ents (putM l x v) ∧ (putM l x v).length = l.length + 1 := by
  have hni : x ∉ l.map (·.1) := by
    intro h
    obtain ⟨p, hp, he⟩ := List.mem_map.1 h
    exact hn p hp he
  unfold putM
  rw [if_neg hni]
  refine ⟨?_, by simp⟩
  apply Array.ext_getElem?
  intro i
  rw [Array.getElem?_push]
  simp only [ents, List.getElem?_toArray, entsFrom_get, List.size_toArray, entsFrom_length]
  by_cases hi : i = l.length
  · subst hi
    simp
  · rw [if_neg hi]
    by_cases h2 : i < l.length
    · rw [List.getElem?_append_left h2]
    · rw [List.getElem?_eq_none (by omega), List.getElem?_eq_none (by simp; omega)]
theorem MapOk.put {l : List (SL × Nat)} (h : MapOk l) {x : SL} (hx : SL7 x) (v : Nat) : MapOk (putM l x v) := by
  unfold putM
  split
  · rename_i hin
    refine ⟨fun p hp => ?_, ?_⟩
    · obtain ⟨q, hq, rfl⟩ := List.mem_map.1 hp
      split
      · exact hx
      · exact h.1 q hq
    · have : (l.map (fun p => if p.1 = x then (x, v) else p)).map (·.1) = l.map (·.1) := by
        rw [List.map_map]
        apply List.map_congr_left
        intro p _
        by_cases he : p.1 = x
        · simp [he]
        · simp [he]
      rw [this]
      exact h.2
  · rename_i hni
    refine ⟨fun p hp => ?_, ?_⟩
    · rcases List.mem_append.1 hp with hp | hp
      · exact h.1 p hp
      · simp at hp; subst hp; exact hx
    · rw [List.map_append, List.nodup_append]
      refine ⟨h.2, by simp, fun a ha b hb => ?_⟩
      simp at hb
      subst hb
      exact fun e => hni (e ▸ ha)

theorem run_mapUpdate_st {w : World} {m : Nat} {l : List (SL × Nat)} (hm : MapIs w m l) (h : MapOk l) {x : SL} (hx : SL7 x) (v : Nat) :
    ∃ w', (Instr.mapUpdate 127 (.map (some m)) (.agg (lcells x)) (.int .i64 v)).run Try.prog w = .ok () w' ∧ Turn1 w m w' ∧ MapIs w' m (putM l x v) := by
  obtain ⟨k, hk⟩ := st_key hx
  have hc := fun em => st_law.check w em hk
  have hst := st_law.stays w hk
  have hlt : m < w.heap.size := by
    rcases Nat.lt_or_ge m w.heap.size with h' | h'
    · exact h'
    · unfold MapIs at hm; simp [Array.getElem?_eq_none h'] at hm
  rcases run_find_st h hx w with ⟨h1, h2⟩ | ⟨j, p, h1, h2, h3⟩
  · obtain ⟨e1, e2⟩ := putM_new h2 v
    obtain ⟨t1, t2⟩ := Turn1.of (w := w) (w1 := w) (b := m) (o := .map ((ents l).push { key := .agg (lcells x), val := .int .i64 v, born := l.length }) (l.length + 1)) (.inl rfl) hlt
    refine ⟨_, ?_, t1, ?_⟩
    · simp [Instr.mapUpdate, Try.underlying127, MapKept.run_getObj_map hm, hc, h1, MapKept.run_setObj_map _ hm, Go.ChangeMaps.setBlock]
    · unfold MapIs; rw [t2, e1, e2]
  · subst h3
    obtain ⟨e1, e2⟩ := putM_old h h2 v
    have hent : (ents l)[j]? = some { key := .agg (lcells p.1), val := .int .i64 p.2, born := 0 + j } := by simp [ents, entsFrom_get, h2]
    obtain ⟨t1, t2⟩ := Turn1.of (w := w) (w1 := w) (b := m) (o := .map ((ents l).modify j fun e => { e with key := .agg (lcells p.1), val := .int .i64 v }) l.length) (.inl rfl) hlt
    refine ⟨_, ?_, t1, ?_⟩
    · simp [Instr.mapUpdate, Try.underlying127, MapKept.run_getObj_map hm, hc, h1, hent, hst, MapKept.run_setObj_map _ hm, Go.ChangeMaps.setBlock]
    · unfold MapIs; rw [t2, e1, e2]
end Go.Proofs.Ytjbjmoghloabpaa
/- Maps from states to numbers: the operations in a walk. -/
set_option linter.unusedVariables false
set_option linter.unusedSimpArgs false
namespace Go.Proofs.Ytjbjmoghloabpaa
open Go.RowKit Go.Proofs

theorem MapIs.lt {w : World} {m : Nat} {l : List (SL × Nat)} (h : MapIs w m l) : m < w.heap.size := lt_of_block h
theorem MapIs.turn {w w' : World} {m b : Nat} {l : List (SL × Nat)} (h : MapIs w m l) (ht : Turn1 w b w') (hm : m ≠ b) : MapIs w' m l := (ht.other hm).trans h
theorem MapIs.alloc {w : World} {m : Nat} {l : List (SL × Nat)} (h : MapIs w m l) (o : Obj) : MapIs (w.alloc o) m l := (Below.heap_alloc w o m h.lt).trans h
theorem MapIs.setCell {w : World} {m : Nat} {l : List (SL × Nat)} (h : MapIs w m l) {p : Addr} (hp : m ≠ p.block) (v : Value) : MapIs (w.setCell p v) m l := (Below.heap_setCell w p v m hp).trans h
theorem MapIs.drew {w : World} {m : Nat} {l : List (SL × Nat)} (h : MapIs w m l) : MapIs w.drew m l := h
theorem MapIs.below {w w' : World} {m n : Nat} {l : List (SL × Nat)} (h : MapIs w m l) (hb : Below n w w') (hn : m < n) : MapIs w' m l := (hb.block m hn).trans h
theorem MapIs.new (w : World) : MapIs (w.alloc (.map #[] 0)) w.heap.size [] := by
  show (w.heap.push _)[w.heap.size]? = _
  simp [ents, entsFrom]
theorem MapOk.nil : MapOk [] := ⟨(by intro p hp; cases hp), (by simp)⟩
/-- A range over a map: the entries that have been, by their places. -/
def IterIs (w : World) (r m : Nat) (n : Nat) (seen : List Nat) : Prop := ∃ c, n ≤ c ∧ w.heap[r]? = some (.mapIter (some m) n seen.toArray c)
theorem IterIs.lt {w : World} {r m n : Nat} {seen : List Nat} (h : IterIs w r m n seen) : r < w.heap.size := by
  obtain ⟨c, -, h⟩ := h
  exact lt_of_block h
theorem IterIs.turn {w w' : World} {r m n b : Nat} {seen : List Nat} (h : IterIs w r m n seen) (ht : Turn1 w b w') (hm : r ≠ b) : IterIs w' r m n seen := by
  obtain ⟨c, hc, h⟩ := h
  exact ⟨c, hc, (ht.other hm).trans h⟩
theorem IterIs.alloc {w : World} {r m n : Nat} {seen : List Nat} (h : IterIs w r m n seen) (o : Obj) : IterIs (w.alloc o) r m n seen := by
  have hl := h.lt
  obtain ⟨c, hc, h⟩ := h
  exact ⟨c, hc, (Below.heap_alloc w o r hl).trans h⟩
theorem IterIs.setCell {w : World} {r m n : Nat} {seen : List Nat} (h : IterIs w r m n seen) {p : Addr} (hp : r ≠ p.block) (v : Value) : IterIs (w.setCell p v) r m n seen := by
  obtain ⟨c, hc, h⟩ := h
  exact ⟨c, hc, (Below.heap_setCell w p v r hp).trans h⟩
theorem IterIs.drew {w : World} {r m n : Nat} {seen : List Nat} (h : IterIs w r m n seen) : IterIs w.drew r m n seen := h
theorem IterIs.below {w w' : World} {r m n k : Nat} {seen : List Nat} (h : IterIs w r m n seen) (hb : Below k w w') (hn : r < k) : IterIs w' r m n seen := by
  obtain ⟨c, hc, h⟩ := h
  exact ⟨c, hc, (hb.block r hn).trans h⟩

section
variable {ops : Array Oper} {rest : List Oper} {o : Oper} {a : Act} {w : World} {Q : Exit → Act → World → Prop}
theorem wpList_lookup_st (x y : Operand) (hgd : o.guard = none) (ho : o.op = .lookup 127 x y false) {m : Nat} (hx : a.eval x = .map (some m)) {k : SL} (hy : a.eval y = .agg (lcells k)) {l : List (SL × Nat)} (hm : MapIs w m l) (h : MapOk l) (hk : SL7 k)
    (hK : wpList Try.prog ops Q rest (a.put o.dst (.int .i64 (getM l k))) w) : wpList Try.prog ops Q (o :: rest) a w := by
  refine wpList_plain hgd fun K' hK' => ?_
  unfold Oper.wp
  simp [execOp, ho, hx, hy, run_lookup_st hm h hk, Result.andThen]
  exact hK' _ _ hK
theorem wpList_mapUpdate_st (x y z : Operand) (hgd : o.guard = none) (ho : o.op = .mapUpdate 127 x y z ∨ o.op = .insert 127 x y z) {m : Nat} (hx : a.eval x = .map (some m)) {k : SL} (hy : a.eval y = .agg (lcells k)) {v : Nat} (hz : a.eval z = .int .i64 v) {l : List (SL × Nat)} (hm : MapIs w m l) (h : MapOk l) (hk : SL7 k)
    (hK : ∀ w', Turn1 w m w' → MapIs w' m (putM l k v) → wpList Try.prog ops Q rest (a.put o.dst undef) w') : wpList Try.prog ops Q (o :: rest) a w := by
  refine wpList_plain hgd fun K' hK' => ?_
  obtain ⟨w', h1, h2, h3⟩ := run_mapUpdate_st hm h hk v
  unfold Oper.wp
  rcases ho with ho | ho <;> simp [execOp, ho, hx, hy, hz, h1, Result.andThen] <;> exact hK' _ _ (hK w' h2 h3)
theorem wpList_range_st (x : Operand) (hgd : o.guard = none) (ho : o.op = .range 127 x) {m : Nat} (hx : a.eval x = .map (some m)) {l : List (SL × Nat)} (hm : MapIs w m l)
    (hK : ∀ w', w' = w.alloc (.mapIter (some m) l.length #[] l.length) → IterIs w' w.heap.size m l.length [] → MapIs w' m l → wpList Try.prog ops Q rest (a.put o.dst (.pointer (some ⟨w.heap.size, 0, none⟩))) w') : wpList Try.prog ops Q (o :: rest) a w := by
  refine wpList_plain hgd fun K' hK' => ?_
  have hr := run_range_map (P := Try.prog) w 127 126 3 m (ents l) l.length Try.underlying127 hm
  unfold Oper.wp
  simp [execOp, ho, hx, hr, Result.andThen]
  exact hK' _ _ (hK _ rfl ⟨l.length, Nat.le_refl _, heap_alloc_new w _⟩ (hm.alloc _))
theorem ents_born {l : List (SL × Nat)} : ∀ x ∈ (ents l).toList, x.born < l.length := by
  intro x hx
  obtain ⟨i, hi⟩ := List.getElem?_of_mem hx
  have h4 : (entsFrom 0 l)[i]? = some x := by simpa [ents] using hi
  rw [entsFrom_get] at h4
  cases hp : l[i]? with
  | none => simp [hp] at h4
  | some p =>
    simp only [hp, Option.map_some, Option.some.injEq] at h4
    subst h4
    have := (List.getElem?_eq_some_iff.1 hp).1
    simp; exact this
theorem ents_borns (i : Nat) (l : List (SL × Nat)) : (entsFrom i l).map (·.born) = List.range' i l.length := by
  induction l generalizing i with
  | nil => rfl
  | cons p l ih => simp [entsFrom, ih, List.range'_succ]
theorem ents_nodup (l : List (SL × Nat)) : ((ents l).toList.map (·.born)).Nodup := by
  simp only [ents]
  rw [ents_borns]
  exact List.nodup_range'
theorem wpList_next_st (x : Operand) (hgd : o.guard = none) (ho : o.op = .next x false) {r m : Nat} (hx : a.eval x = .pointer (some ⟨r, 0, none⟩)) {l : List (SL × Nat)} {seen : List Nat} (hr : IterIs w r m l.length seen) (hm : MapIs w m l)
    (hDone : (∀ i, i < l.length → i ∈ seen) → wpList Try.prog ops Q rest (a.put o.dst (.tuple #[.bool false])) w)
    (hMore : ∀ i p w', l[i]? = some p → i ∉ seen → Turn1 w r w' → IterIs w' r m l.length (seen ++ [i]) → MapIs w' m l → (Instr.entry (.pointer (some ⟨r, 0, none⟩))).run Try.prog w' = .ok (.tuple #[.agg (lcells p.1), .int .i64 p.2]) w' →
      wpList Try.prog ops Q rest (a.put o.dst (.tuple #[.bool true, .agg (lcells p.1), .int .i64 p.2])) w') : wpList Try.prog ops Q (o :: rest) a w := by
  refine wpList_plain hgd fun K' hK' => ?_
  have hrl := hr.lt
  obtain ⟨c, hc, hr⟩ := hr
  have hne : m ≠ r := by
    intro e; subst e
    rw [show w.heap[m]? = _ from hm] at hr
    cases hr
  rcases run_next_at (P := Try.prog) w o.type r m l.length c seen.toArray (ents l) l.length hr hm ents_born hc with ⟨h0, hrun⟩ | ⟨e, he, w1, hw1, hrun⟩
  · unfold Oper.wp
    simp [execOp, ho, hx, hrun, Result.andThen]
    refine hK' _ _ (hDone fun i hi => ?_)
    obtain ⟨p, hp⟩ : ∃ p, l[i]? = some p := ⟨l[i], by simp [hi]⟩
    have := all_seen (ents l) seen.toArray h0 { key := .agg (lcells p.1), val := .int .i64 p.2, born := 0 + i } (List.mem_of_getElem? (i := i) (by simp [ents, entsFrom_get, hp]))
    simpa using this
  · obtain ⟨h1, h2⟩ := mem_left he
    obtain ⟨i, hi⟩ := List.getElem?_of_mem h1
    have h4 : (entsFrom 0 l)[i]? = some e := by simpa [ents] using hi
    rw [entsFrom_get] at h4
    cases hp : l[i]? with
    | none => simp [hp] at h4
    | some p =>
      simp only [hp, Option.map_some, Option.some.injEq] at h4
      obtain ⟨t1, t2⟩ := Turn1.of (w := w) (w1 := w1) (b := r) (o := .mapIter (some m) l.length (seen.toArray.push e.born) l.length) hw1 hrl
      have hm' : MapIs (Go.ChangeMaps.setBlock w1 r (.mapIter (some m) l.length (seen.toArray.push e.born) l.length)) m l := (t1.other hne).trans hm
      have hen := run_entry_at (P := Try.prog) _ r m l.length seen.toArray (ents l) l.length e t2 hm' h1 (ents_nodup l)
      have hni : i ∉ seen := by rw [← h4] at h2; simpa using h2
      have hit : IterIs (Go.ChangeMaps.setBlock w1 r (.mapIter (some m) l.length (seen.toArray.push e.born) l.length)) r m l.length (seen ++ [i]) := ⟨l.length, Nat.le_refl _, by rw [t2, ← h4]; simp⟩
      generalize Go.ChangeMaps.setBlock w1 r (.mapIter (some m) l.length (seen.toArray.push e.born) l.length) = W' at *
      subst h4
      unfold Oper.wp
      simp [execOp, ho, hx, hrun, Result.andThen]
      exact hK' _ _ (hMore i p _ hp hni t1 hit hm' hen)
end
end Go.Proofs.Ytjbjmoghloabpaa
/- Plain laws for counts: what is known, states, and maps that stand for lists of states. -/
set_option linter.unusedVariables false
set_option linter.unusedSimpArgs false
namespace Go.Proofs.Ytjbjmoghloabpaa
open Go.RowKit Go.Proofs

/-- A map stands for a list of states. -/
def Rep (l : List (SL × Nat)) (S : List SL) : Prop := MapOk l ∧ ∀ x, getM l x = S.count x
theorem getM_put {l : List (SL × Nat)} (h : MapOk l) (y : SL) (v : Nat) (z : SL) : getM (putM l y v) z = if z = y then v else getM l z := by
  unfold putM
  split
  · rename_i hin
    by_cases hz : z = y
    · subst hz
      rw [if_pos rfl]
      obtain ⟨p, hp, he⟩ := List.mem_map.1 hin
      unfold getM
      rw [List.find?_map]
      have hf : l.find? ((fun q : SL × Nat => q.1 == z) ∘ fun p => if p.1 = z then (z, v) else p) = l.find? (fun q => q.1 == z) := by
        congr 1
        funext q
        by_cases hq : q.1 = z
        · simp [hq]
        · simp [hq]
      rw [hf]
      cases hfd : l.find? (fun q => q.1 == z) with
      | none =>
        have := List.find?_eq_none.1 hfd p hp
        simp [he] at this
      | some q =>
        have h2 := List.find?_some hfd
        simp only [beq_iff_eq] at h2
        simp [h2]
    · rw [if_neg hz]
      unfold getM
      rw [List.find?_map]
      have hf : l.find? ((fun q : SL × Nat => q.1 == z) ∘ fun p => if p.1 = y then (y, v) else p) = l.find? (fun q => q.1 == z) := by
        congr 1
        funext q
        by_cases hq : q.1 = y
        · simp [hq]
        · simp [hq]
      rw [hf]
      cases hfd : l.find? (fun q => q.1 == z) with
      | none => rfl
      | some q =>
        have h2 := List.find?_some hfd
        simp only [beq_iff_eq] at h2
        have : q.1 ≠ y := fun e => hz (h2.symm.trans e)
        simp [this]
  · rename_i hni
    unfold getM
    rw [List.find?_append]
    by_cases hz : z = y
    · subst hz
      rw [if_pos rfl, List.find?_eq_none.2 (fun p hp => by
        simp only [beq_iff_eq]
        intro e
        exact hni (e ▸ List.mem_map_of_mem hp))]
      simp
    · rw [if_neg hz]
      cases hfd : l.find? (fun q => q.1 == z) with
      | none => simp [Ne.symm hz]
      | some q => simp
theorem Rep.add {l : List (SL × Nat)} {S : List SL} (h : Rep l S) {y : SL} (hy : SL7 y) (n : Nat) : Rep (putM l y (getM l y + n)) (S ++ List.replicate n y) := by
  refine ⟨h.1.put hy _, fun x => ?_⟩
  rw [getM_put h.1, List.count_append, List.count_replicate, ← h.2 x]
  by_cases hx : x = y
  · subst hx; simp
  · rw [if_neg hx, if_neg (by simpa using Ne.symm hx)]; omega
theorem Rep.perm {l : List (SL × Nat)} {S T : List SL} (h : Rep l S) (hp : S.Perm T) : Rep l T := ⟨h.1, fun x => (h.2 x).trans (hp.count_eq x)⟩
theorem Rep.nil : Rep [] [] := ⟨MapOk.nil, fun x => rfl⟩
/-- The states of a map's entries, each as often as it counts. -/
def expand (l : List (SL × Nat)) : List SL := l.flatMap fun p => List.replicate p.2 p.1
theorem count_expand {l : List (SL × Nat)} (h : (l.map (·.1)).Nodup) (x : SL) : (expand l).count x = getM l x := by
  induction l with
  | nil => rfl
  | cons p l ih =>
    simp only [List.map_cons, List.nodup_cons] at h
    unfold expand at *
    rw [List.flatMap_cons, List.count_append, ih h.2, List.count_replicate]
    unfold getM
    rw [List.find?_cons]
    by_cases hx : p.1 = x
    · subst hx
      simp only [beq_self_eq_true, if_true]
      rw [List.find?_eq_none.2 (fun q hq => by
        simp only [beq_iff_eq]
        intro e
        exact h.1 (e ▸ List.mem_map_of_mem hq))]
      simp
    · have : (p.1 == x) = false := by simpa using hx
      simp [this]
theorem Rep.expand {l : List (SL × Nat)} {S : List SL} (h : Rep l S) : (expand l).Perm S := by
  rw [List.perm_iff_count]
  intro x
  rw [count_expand h.1.2, h.2]
/-- What a round adds for one entry. -/
def addOf (st : Bool → SL → SL) (p : SL × Nat) : List SL := List.replicate p.2 (st false p.1) ++ List.replicate p.2 (st true p.1)
theorem addOf_perm (st : Bool → SL → SL) (p : SL × Nat) : (addOf st p).Perm ((List.replicate p.2 p.1).flatMap fun x => [st false x, st true x]) := by
  unfold addOf
  obtain ⟨x, n⟩ := p
  simp only
  induction n with
  | zero => simp
  | succ n ih =>
    rw [List.replicate_succ, List.replicate_succ, List.replicate_succ, List.flatMap_cons]
    simp only [List.cons_append, List.nil_append]
    refine List.Perm.cons _ ?_
    refine (List.perm_middle).trans ?_
    exact List.Perm.cons _ ih
theorem addOf_all (st : Bool → SL → SL) (l : List (SL × Nat)) : (l.flatMap (addOf st)).Perm ((expand l).flatMap fun x => [st false x, st true x]) := by
  induction l with
  | nil => exact List.Perm.refl _
  | cons p l ih =>
    unfold expand at *
    rw [List.flatMap_cons, List.flatMap_cons, List.flatMap_append]
    exact (addOf_perm st p).append ih
/-- All entries have been, each once, whichever came when. -/
theorem seen_perm {α : Type} (l : List α) (d : α) (seen : List Nat) (hn : seen.Nodup) (hlt : ∀ i ∈ seen, i < l.length) (hall : ∀ i, i < l.length → i ∈ seen) : (seen.map fun i => l.getD i d).Perm l := by
  have h1 : seen.Perm (List.range l.length) := (List.perm_ext_iff_of_nodup hn List.nodup_range).2 fun i => ⟨fun h => List.mem_range.2 (hlt i h), fun h => hall i (List.mem_range.1 h)⟩
  have h2 := h1.map fun i => l.getD i d
  have h3 : (List.range l.length).map (fun i => l.getD i d) = l := by
    apply List.ext_getElem?
    intro i
    by_cases hi : i < l.length
    · simp [hi]
    · simp [hi]
  rwa [h3] at h2
end Go.Proofs.Ytjbjmoghloabpaa
