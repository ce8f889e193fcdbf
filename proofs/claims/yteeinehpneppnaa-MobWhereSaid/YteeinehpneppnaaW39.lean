/- Parts of a proof: MapI, MapIB, MtT. -/
import Derived.Test.YteeinehpneppnaaW12
import Derived.Maps.RangeRun
import Derived.Maps.Keyed
import Derived.Test.YteeinehpneppnaaW34
/- Maps from ints to ints. (Printed by mkMapI.py) -/
set_option linter.unusedVariables false
set_option linter.unusedSimpArgs false
namespace Go.Proofs.Yteeinehpneppnaa
open Go.RowKit Go.Proofs
/-- A key that can be. -/
def Ik (x : Int) : Prop := -1000000 ≤ x ∧ x ≤ 1000000
theorem int_law : Maps.Keyed Try.prog 3 := Maps.int_keyed Try.underlying3
theorem int_key {x : Int} (h : Ik x) : ∃ l, keyOf Try.prog 3 (.int .i64 x) = some l := by
  obtain ⟨h1, h2⟩ := h
  have hk : Try.prog.keyType 3 = true := by kernel_rfl
  have : (Lit.int .i64 x).wf = true := by have : IntKind.i64.min = -9223372036854775808 := rfl; have : IntKind.i64.max = 9223372036854775807 := rfl; simp [Lit.wf, *]; omega
  refine ⟨.int .i64 x, ?_⟩
  unfold keyOf
  rw [Try.underlying3]
  simp [mapKey, Try.underlying3, this, hk]
/-- A map's entries. -/
def entsFromI : Nat → List (Int × Int) → List MapEntry
  | _, [] => []
  | i, p :: l => { key := .int .i64 p.1, val := .int .i64 p.2, born := i } :: entsFromI (i + 1) l
def entsI (l : List (Int × Int)) : Array MapEntry := (entsFromI 0 l).toArray
def MapII (w : World) (m : Nat) (l : List (Int × Int)) : Prop := w.heap[m]? = some (.map (entsI l) l.length)
def OkI (l : List (Int × Int)) : Prop := (∀ p ∈ l, Ik p.1) ∧ (l.map (·.1)).Nodup
def getI (l : List (Int × Int)) (x : Int) : Int := ((l.find? (fun p => p.1 == x)).map (·.2)).getD 0
def putI (l : List (Int × Int)) (x : Int) (v : Int) : List (Int × Int) := if x ∈ l.map (·.1) then l.map (fun p => if p.1 = x then (x, v) else p) else l ++ [(x, v)]
theorem entsFromI_length (i : Nat) (l : List (Int × Int)) : (entsFromI i l).length = l.length := by
  induction l generalizing i with
  | nil => rfl
  | cons p l ih => simp [entsFromI, ih]
theorem entsFromI_get (i : Nat) (l : List (Int × Int)) (j : Nat) : (entsFromI i l)[j]? = l[j]?.map fun p => { key := .int .i64 p.1, val := .int .i64 p.2, born := i + j } := by
  induction l generalizing i j with
  | nil => simp [entsFromI]
  | cons p l ih =>
    cases j with
    | zero => simp [entsFromI]
    | succ j => simp [entsFromI, ih]; congr 1; funext q; congr 1; omega
theorem entsFromI_mem {i : Nat} {l : List (Int × Int)} {e : MapEntry} (h : e ∈ entsFromI i l) : ∃ p ∈ l, e.key = .int .i64 p.1 ∧ e.val = .int .i64 p.2 := by
  induction l generalizing i with
  | nil => simp [entsFromI] at h
  | cons p l ih =>
    simp only [entsFromI, List.mem_cons] at h
    rcases h with rfl | h
    · exact ⟨p, by simp, rfl, rfl⟩
    · obtain ⟨q, h1, h2, h3⟩ := ih h
      exact ⟨q, by simp [h1], h2, h3⟩
theorem OkI.keyed {l : List (Int × Int)} (h : OkI l) : ∀ e ∈ (entsI l).toList, ∃ k, keyOf Try.prog 3 e.key = some k := by
  intro e he
  obtain ⟨p, hp, hk, -⟩ := entsFromI_mem (show e ∈ entsFromI 0 l by simpa [entsI] using he)
  rw [hk]
  exact int_key (h.1 p hp)

theorem getI_at {l : List (Int × Int)} (h : OkI l) {j : Nat} {p : Int × Int} (hj : l[j]? = some p) : getI l p.1 = p.2 := by
  unfold getI
  have hm : p ∈ l := List.mem_of_getElem? hj
  have h1 : ∀ q ∈ l, q.1 = p.1 → q = p := by
    have hn := h.2
    intro q hq he
    obtain ⟨i, hi⟩ := List.getElem?_of_mem hq
    have hi' : (l.map (·.1))[i]? = some q.1 := by simp [hi]
    have hj' : (l.map (·.1))[j]? = some p.1 := by simp [hj]
    rw [he] at hi'
    have hij : i = j := (List.getElem?_inj (by simpa using (List.getElem?_eq_some_iff.1 hi).1) hn).1 (hi'.trans hj'.symm)
    subst hij
    rw [hi] at hj
    simpa using hj
  cases hf : l.find? (fun q => q.1 == p.1) with
  | none =>
    have := List.find?_eq_none.1 hf p hm
    simp at this
  | some q =>
    have h2 := List.find?_some hf
    have h3 := List.mem_of_find?_eq_some hf
    have h4 := h1 q h3 (by simpa using h2)
    subst h4
    rfl
theorem getI_none {l : List (Int × Int)} {x : Int} (h : ∀ p ∈ l, p.1 ≠ x) : getI l x = 0 := by
  unfold getI
  rw [List.find?_eq_none.2 (fun p hp => by simpa using h p hp)]
  rfl
/-- What is found at a key. -/
theorem run_find_int {l : List (Int × Int)} (h : OkI l) {x : Int} (hx : Ik x) (w : World) :
    ((Instr.findKey 3 (.int .i64 x) (entsI l).toList).run Try.prog w = .ok none w ∧ ∀ p ∈ l, p.1 ≠ x) ∨
    ∃ j p, (Instr.findKey 3 (.int .i64 x) (entsI l).toList).run Try.prog w = .ok (some (j, .int .i64 p.2)) w ∧ l[j]? = some p ∧ p.1 = x := by
  obtain ⟨k, hk⟩ := int_key hx
  rcases int_law.find w hk (entsI l).toList h.keyed with ⟨h1, h2⟩ | ⟨j, e, h1, h2, h3⟩
  · refine .inl ⟨h1, fun p hp he => ?_⟩
    obtain ⟨i, hi⟩ := List.getElem?_of_mem hp
    have : ({ key := .int .i64 p.1, val := .int .i64 p.2, born := 0 + i } : MapEntry) ∈ (entsI l).toList := by
      refine List.mem_of_getElem? (i := i) ?_
      simp [entsI, entsFromI_get, hi]
    exact h2 _ this (by rw [he])
  · have h4 : (entsFromI 0 l)[j]? = some e := by simpa [entsI] using h2
    rw [entsFromI_get] at h4
    cases hp : l[j]? with
    | none => simp [hp] at h4
    | some p =>
      simp only [hp, Option.map_some, Option.some.injEq] at h4
      subst h4
      exact .inr ⟨j, p, h1, hp, by simpa using h3⟩
theorem run_lookup_int {w : World} {m : Nat} {l : List (Int × Int)} (hm : MapII w m l) (h : OkI l) {x : Int} (hx : Ik x) :
    (Instr.lookup 57 (.map (some m)) (.int .i64 x) false).run Try.prog w = .ok (.int .i64 (getI l x)) w := by
  obtain ⟨k, hk⟩ := int_key hx
  have hc := fun em => int_law.check w em hk
  have hz : (zeroValue 3).run Try.prog w = .ok (.int .i64 0) w := by simp [go_sem]
  rcases run_find_int h hx w with ⟨h1, h2⟩ | ⟨j, p, h1, h2, h3⟩
  · simp [Instr.lookup, Try.underlying57, MapKept.run_getObj_map hm, hc, h1, hz, getI_none h2]
  · subst h3
    simp [Instr.lookup, Try.underlying57, MapKept.run_getObj_map hm, hc, h1, getI_at h h2]

theorem putI_old {l : List (Int × Int)} (h : OkI l) {j : Nat} {p : Int × Int} (hj : l[j]? = some p) (v : Int) :
    (entsI l).modify j (fun e => { e with key := .int .i64 p.1, val := .int .i64 v }) = entsI (putI l p.1 v) ∧ (putI l p.1 v).length = l.length := by
  have hm : p ∈ l := List.mem_of_getElem? hj
  have hin : p.1 ∈ l.map (·.1) := List.mem_map_of_mem hm
  unfold putI
  rw [if_pos hin]
  refine ⟨?_, by simp⟩
  apply Array.ext_getElem?
  intro i
  rw [Array.getElem?_modify]
  simp only [entsI, List.getElem?_toArray, entsFromI_get, List.getElem?_map, Option.map_map]
  by_cases hij : j = i
  · subst hij
    rw [if_pos rfl, hj]
    simp
  · rw [if_neg hij]
    cases hq : l[i]? with
    | none => rfl
    | some q =>
      have hne : q.1 ≠ p.1 := by
        intro he
        have hi' : (l.map (·.1))[i]? = some q.1 := by simp [hq]
        have hj' : (l.map (·.1))[j]? = some p.1 := by simp [hj]
        rw [he] at hi'
        exact hij ((List.getElem?_inj (by simpa using (List.getElem?_eq_some_iff.1 hj).1) h.2).1 (hj'.trans hi'.symm))
      simp [hne]
theorem putI_new {l : List (Int × Int)} {x : Int} (hn : ∀ p ∈ l, p.1 ≠ x) (v : Int) :
    (entsI l).push { key := .int .i64 x, val := .int .i64 v, born := l.length } = entsI (putI l x v) ∧ (putI l x v).length = l.length + 1 := by
  have hni : x ∉ l.map (·.1) := by
    intro h
    obtain ⟨p, hp, he⟩ := List.mem_map.1 h
    exact hn p hp he
  unfold putI
  rw [if_neg hni]
  refine ⟨?_, by simp⟩
  apply Array.ext_getElem?
  intro i
  rw [Array.getElem?_push]
  simp only [entsI, List.getElem?_toArray, entsFromI_get, List.size_toArray, entsFromI_length]
  by_cases hi : i = l.length
  · subst hi
    simp
  · rw [if_neg hi]
    by_cases h2 : i < l.length
    · rw [List.getElem?_append_left h2]
    · rw [List.getElem?_eq_none (by omega), List.getElem?_eq_none (by simp; omega)]
theorem OkI.put {l : List (Int × Int)} (h : OkI l) {x : Int} (hx : Ik x) (v : Int) : OkI (putI l x v) := by
  unfold putI
  split
  · rename_i hin
    refine ⟨fun p hp => ?_, ?_⟩
    · obtain ⟨q, hq, rfl⟩ := List.mem_map.1 hp
      split
      · exact hx
      · exact h.1 q hq
    · have : (l.map (fun p => if p.1 = x then (x, v) else p)).map (·.1) = l.map (·.1) := by
        rw [List.map_map]
        apply List.map_congr_left
        intro p _
        by_cases he : p.1 = x
        · simp [he]
        · simp [he]
      rw [this]
      exact h.2
  · rename_i hni
    refine ⟨fun p hp => ?_, ?_⟩
    · rcases List.mem_append.1 hp with hp | hp
      · exact h.1 p hp
      · simp at hp; subst hp; exact hx
    · rw [List.map_append, List.nodup_append]
      refine ⟨h.2, by simp, fun a ha b hb => ?_⟩
      simp at hb
      subst hb
      exact fun e => hni (e ▸ ha)

theorem run_mapUpdate_int {w : World} {m : Nat} {l : List (Int × Int)} (hm : MapII w m l) (h : OkI l) {x : Int} (hx : Ik x) (v : Int) :
    ∃ w', (Instr.mapUpdate 57 (.map (some m)) (.int .i64 x) (.int .i64 v)).run Try.prog w = .ok () w' ∧ Turn1 w m w' ∧ MapII w' m (putI l x v) := by
  obtain ⟨k, hk⟩ := int_key hx
  have hc := fun em => int_law.check w em hk
  have hst := int_law.stays w hk
  have hlt : m < w.heap.size := by
    rcases Nat.lt_or_ge m w.heap.size with h' | h'
    · exact h'
    · unfold MapII at hm; simp [Array.getElem?_eq_none h'] at hm
  rcases run_find_int h hx w with ⟨h1, h2⟩ | ⟨j, p, h1, h2, h3⟩
  · obtain ⟨e1, e2⟩ := putI_new h2 v
    obtain ⟨t1, t2⟩ := Turn1.of (w := w) (w1 := w) (b := m) (o := .map ((entsI l).push { key := .int .i64 x, val := .int .i64 v, born := l.length }) (l.length + 1)) (.inl rfl) hlt
    refine ⟨_, ?_, t1, ?_⟩
    · simp [Instr.mapUpdate, Try.underlying57, MapKept.run_getObj_map hm, hc, h1, MapKept.run_setObj_map _ hm, Go.ChangeMaps.setBlock]
    · unfold MapII; rw [t2, e1, e2]
  · subst h3
    obtain ⟨e1, e2⟩ := putI_old h h2 v
    have hent : (entsI l)[j]? = some { key := .int .i64 p.1, val := .int .i64 p.2, born := 0 + j } := by simp [entsI, entsFromI_get, h2]
    obtain ⟨t1, t2⟩ := Turn1.of (w := w) (w1 := w) (b := m) (o := .map ((entsI l).modify j fun e => { e with key := .int .i64 p.1, val := .int .i64 v }) l.length) (.inl rfl) hlt
    refine ⟨_, ?_, t1, ?_⟩
    · simp [Instr.mapUpdate, Try.underlying57, MapKept.run_getObj_map hm, hc, h1, hent, hst, MapKept.run_setObj_map _ hm, Go.ChangeMaps.setBlock]
    · unfold MapII; rw [t2, e1, e2]
end Go.Proofs.Yteeinehpneppnaa
/- Maps from ints to ints: the operations in a walk. (Printed by mkMapI.py) -/
set_option linter.unusedVariables false
set_option linter.unusedSimpArgs false
namespace Go.Proofs.Yteeinehpneppnaa
open Go.RowKit Go.Proofs

theorem MapII.lt {w : World} {m : Nat} {l : List (Int × Int)} (h : MapII w m l) : m < w.heap.size := lt_of_block h
theorem MapII.turn {w w' : World} {m b : Nat} {l : List (Int × Int)} (h : MapII w m l) (ht : Turn1 w b w') (hm : m ≠ b) : MapII w' m l := (ht.other hm).trans h
theorem MapII.alloc {w : World} {m : Nat} {l : List (Int × Int)} (h : MapII w m l) (o : Obj) : MapII (w.alloc o) m l := (Below.heap_alloc w o m h.lt).trans h
theorem MapII.setCell {w : World} {m : Nat} {l : List (Int × Int)} (h : MapII w m l) {p : Addr} (hp : m ≠ p.block) (v : Value) : MapII (w.setCell p v) m l := (Below.heap_setCell w p v m hp).trans h
theorem MapII.drew {w : World} {m : Nat} {l : List (Int × Int)} (h : MapII w m l) : MapII w.drew m l := h
theorem MapII.below {w w' : World} {m n : Nat} {l : List (Int × Int)} (h : MapII w m l) (hb : Below n w w') (hn : m < n) : MapII w' m l := (hb.block m hn).trans h
theorem MapII.new (w : World) : MapII (w.alloc (.map #[] 0)) w.heap.size [] := by
  show (w.heap.push _)[w.heap.size]? = _
  simp [entsI, entsFromI]
theorem OkI.nil : OkI [] := ⟨(by intro p hp; cases hp), (by simp)⟩
/-- A range over a map: the entries that have been, by their places. -/
def IterI (w : World) (r m : Nat) (n : Nat) (seen : List Nat) : Prop := ∃ c, n ≤ c ∧ w.heap[r]? = some (.mapIter (some m) n seen.toArray c)
theorem IterI.lt {w : World} {r m n : Nat} {seen : List Nat} (h : IterI w r m n seen) : r < w.heap.size := by
  obtain ⟨c, -, h⟩ := h
  exact lt_of_block h
theorem IterI.turn {w w' : World} {r m n b : Nat} {seen : List Nat} (h : IterI w r m n seen) (ht : Turn1 w b w') (hm : r ≠ b) : IterI w' r m n seen := by
  obtain ⟨c, hc, h⟩ := h
  exact ⟨c, hc, (ht.other hm).trans h⟩
theorem IterI.alloc {w : World} {r m n : Nat} {seen : List Nat} (h : IterI w r m n seen) (o : Obj) : IterI (w.alloc o) r m n seen := by
  have hl := h.lt
  obtain ⟨c, hc, h⟩ := h
  exact ⟨c, hc, (Below.heap_alloc w o r hl).trans h⟩
theorem IterI.setCell {w : World} {r m n : Nat} {seen : List Nat} (h : IterI w r m n seen) {p : Addr} (hp : r ≠ p.block) (v : Value) : IterI (w.setCell p v) r m n seen := by
  obtain ⟨c, hc, h⟩ := h
  exact ⟨c, hc, (Below.heap_setCell w p v r hp).trans h⟩
theorem IterI.drew {w : World} {r m n : Nat} {seen : List Nat} (h : IterI w r m n seen) : IterI w.drew r m n seen := h
theorem IterI.below {w w' : World} {r m n k : Nat} {seen : List Nat} (h : IterI w r m n seen) (hb : Below k w w') (hn : r < k) : IterI w' r m n seen := by
  obtain ⟨c, hc, h⟩ := h
  exact ⟨c, hc, (hb.block r hn).trans h⟩

section
variable {ops : Array Oper} {rest : List Oper} {o : Oper} {a : Act} {w : World} {Q : Exit → Act → World → Prop}
theorem wpList_lookup_int (x y : Operand) (hgd : o.guard = none) (ho : o.op = .lookup 57 x y false) {m : Nat} (hx : a.eval x = .map (some m)) {k : Int} (hy : a.eval y = .int .i64 k) {l : List (Int × Int)} (hm : MapII w m l) (h : OkI l) (hk : Ik k)
    (hK : wpList Try.prog ops Q rest (a.put o.dst (.int .i64 (getI l k))) w) : wpList Try.prog ops Q (o :: rest) a w := by
  refine wpList_plain hgd fun K' hK' => ?_
  unfold Oper.wp
  simp [execOp, ho, hx, hy, run_lookup_int hm h hk, Result.andThen]
  exact hK' _ _ hK
theorem wpList_mapUpdate_int (x y z : Operand) (hgd : o.guard = none) (ho : o.op = .mapUpdate 57 x y z ∨ o.op = .insert 57 x y z) {m : Nat} (hx : a.eval x = .map (some m)) {k : Int} (hy : a.eval y = .int .i64 k) {v : Int} (hz : a.eval z = .int .i64 v) {l : List (Int × Int)} (hm : MapII w m l) (h : OkI l) (hk : Ik k)
    (hK : ∀ w', Turn1 w m w' → MapII w' m (putI l k v) → wpList Try.prog ops Q rest (a.put o.dst undef) w') : wpList Try.prog ops Q (o :: rest) a w := by
  refine wpList_plain hgd fun K' hK' => ?_
  obtain ⟨w', h1, h2, h3⟩ := run_mapUpdate_int hm h hk v
  unfold Oper.wp
  rcases ho with ho | ho <;> simp [execOp, ho, hx, hy, hz, h1, Result.andThen] <;> exact hK' _ _ (hK w' h2 h3)
theorem wpList_range_int (x : Operand) (hgd : o.guard = none) (ho : o.op = .range 57 x) {m : Nat} (hx : a.eval x = .map (some m)) {l : List (Int × Int)} (hm : MapII w m l)
    (hK : ∀ w', w' = w.alloc (.mapIter (some m) l.length #[] l.length) → IterI w' w.heap.size m l.length [] → MapII w' m l → wpList Try.prog ops Q rest (a.put o.dst (.pointer (some ⟨w.heap.size, 0, none⟩))) w') : wpList Try.prog ops Q (o :: rest) a w := by
  refine wpList_plain hgd fun K' hK' => ?_
  have hr := run_range_map (P := Try.prog) w 57 3 3 m (entsI l) l.length Try.underlying57 hm
  unfold Oper.wp
  simp [execOp, ho, hx, hr, Result.andThen]
  exact hK' _ _ (hK _ rfl ⟨l.length, Nat.le_refl _, heap_alloc_new w _⟩ (hm.alloc _))
theorem entsI_born {l : List (Int × Int)} : ∀ x ∈ (entsI l).toList, x.born < l.length := by
  intro x hx
  obtain ⟨i, hi⟩ := List.getElem?_of_mem hx
  have h4 : (entsFromI 0 l)[i]? = some x := by simpa [entsI] using hi
  rw [entsFromI_get] at h4
  cases hp : l[i]? with
  | none => simp [hp] at h4
  | some p =>
    simp only [hp, Option.map_some, Option.some.injEq] at h4
    subst h4
    have := (List.getElem?_eq_some_iff.1 hp).1
    simp; exact this
theorem entsI_borns (i : Nat) (l : List (Int × Int)) : (entsFromI i l).map (·.born) = List.range' i l.length := by
  induction l generalizing i with
  | nil => rfl
  | cons p l ih => simp [entsFromI, ih, List.range'_succ]
theorem entsI_nodup (l : List (Int × Int)) : ((entsI l).toList.map (·.born)).Nodup := by
  simp only [entsI]
  rw [entsI_borns]
  exact List.nodup_range'
theorem wpList_next_int (x : Operand) (hgd : o.guard = none) (ho : o.op = .next x false) {r m : Nat} (hx : a.eval x = .pointer (some ⟨r, 0, none⟩)) {l : List (Int × Int)} {seen : List Nat} (hr : IterI w r m l.length seen) (hm : MapII w m l)
    (hDone : (∀ i, i < l.length → i ∈ seen) → wpList Try.prog ops Q rest (a.put o.dst (.tuple #[.bool false])) w)
    (hMore : ∀ i p w', l[i]? = some p → i ∉ seen → Turn1 w r w' → IterI w' r m l.length (seen ++ [i]) → MapII w' m l → (Instr.entry (.pointer (some ⟨r, 0, none⟩))).run Try.prog w' = .ok (.tuple #[.int .i64 p.1, .int .i64 p.2]) w' →
      wpList Try.prog ops Q rest (a.put o.dst (.tuple #[.bool true, .int .i64 p.1, .int .i64 p.2])) w') : wpList Try.prog ops Q (o :: rest) a w := by
  refine wpList_plain hgd fun K' hK' => ?_
  have hrl := hr.lt
  obtain ⟨c, hc, hr⟩ := hr
  have hne : m ≠ r := by
    intro e; subst e
    rw [show w.heap[m]? = _ from hm] at hr
    cases hr
  rcases run_next_at (P := Try.prog) w o.type r m l.length c seen.toArray (entsI l) l.length hr hm entsI_born hc with ⟨h0, hrun⟩ | ⟨e, he, w1, hw1, hrun⟩
  · unfold Oper.wp
    simp [execOp, ho, hx, hrun, Result.andThen]
    refine hK' _ _ (hDone fun i hi => ?_)
    obtain ⟨p, hp⟩ : ∃ p, l[i]? = some p := ⟨l[i], by simp [hi]⟩
    have := all_seen (entsI l) seen.toArray h0 { key := .int .i64 p.1, val := .int .i64 p.2, born := 0 + i } (List.mem_of_getElem? (i := i) (by simp [entsI, entsFromI_get, hp]))
    simpa using this
  · obtain ⟨h1, h2⟩ := mem_left he
    obtain ⟨i, hi⟩ := List.getElem?_of_mem h1
    have h4 : (entsFromI 0 l)[i]? = some e := by simpa [entsI] using hi
    rw [entsFromI_get] at h4
    cases hp : l[i]? with
    | none => simp [hp] at h4
    | some p =>
      simp only [hp, Option.map_some, Option.some.injEq] at h4
      obtain ⟨t1, t2⟩ := Turn1.of (w := w) (w1 := w1) (b := r) (o := .mapIter (some m) l.length (seen.toArray.push e.born) l.length) hw1 hrl
      have hm' : MapII (Go.ChangeMaps.setBlock w1 r (.mapIter (some m) l.length (seen.toArray.push e.born) l.length)) m l := (t1.other hne).trans hm
      have hen := run_entry_at (P := Try.prog) _ r m l.length seen.toArray (entsI l) l.length e t2 hm' h1 (entsI_nodup l)
      have hni : i ∉ seen := by rw [← h4] at h2; simpa using h2
      have hit : IterI (Go.ChangeMaps.setBlock w1 r (.mapIter (some m) l.length (seen.toArray.push e.born) l.length)) r m l.length (seen ++ [i]) := ⟨l.length, Nat.le_refl _, by rw [t2, ← h4]; simp⟩
      generalize Go.ChangeMaps.setBlock w1 r (.mapIter (some m) l.length (seen.toArray.push e.born) l.length) = W' at *
      subst h4
      unfold Oper.wp
      simp [execOp, ho, hx, hrun, Result.andThen]
      exact hK' _ _ (hMore i p _ hp hni t1 hit hm' hen)
end
end Go.Proofs.Yteeinehpneppnaa
/- The law's trip: on which day a mob comes to each place, and its longest stretch. -/
set_option linter.unusedVariables false
set_option linter.unusedSimpArgs false
namespace Go.Proofs.Yteeinehpneppnaa
open Go.RowKit Go.Proofs
attribute [local irreducible] Ord.walk
/-- The days of a trip, by places. -/
def tripL (m : Mb) (L : List Int) (s : Nat) (d : Int) : Nat → List (Int × Int)
  | 0 => [((s : Int), d)]
  | k + 1 => tripL m L s d k ++ [(((s + k + 1 : Nat) : Int), inK m L s d (k + 1))]
theorem tripL_len (m : Mb) (L : List Int) (s : Nat) (d : Int) : ∀ k, (tripL m L s d k).length = k + 1
  | 0 => rfl
  | k + 1 => by simp [tripL, tripL_len m L s d k]
theorem tripL_mem (m : Mb) (L : List Int) (s : Nat) (d : Int) (x : Int × Int) : ∀ k, x ∈ tripL m L s d k ↔ ∃ j, j ≤ k ∧ x = (((s + j : Nat) : Int), inK m L s d j)
  | 0 => by
    simp only [tripL, List.mem_singleton]
    constructor
    · rintro rfl; exact ⟨0, Nat.le_refl _, rfl⟩
    · rintro ⟨j, hj, rfl⟩
      obtain rfl : j = 0 := by omega
      rfl
  | k + 1 => by
    rw [tripL, List.mem_append, tripL_mem m L s d x k, List.mem_singleton]
    constructor
    · rintro (⟨j, hj, rfl⟩ | rfl)
      · exact ⟨j, by omega, rfl⟩
      · exact ⟨k + 1, by omega, rfl⟩
    · rintro ⟨j, hj, rfl⟩
      rcases Nat.lt_or_ge k j with h | h
      · obtain rfl : j = k + 1 := by omega
        exact .inr rfl
      · exact .inl ⟨j, h, rfl⟩
theorem tripL_new (m : Mb) (L : List Int) (s : Nat) (d : Int) (k : Nat) (v : Int) : putI (tripL m L s d k) ((s + k + 1 : Nat) : Int) v = tripL m L s d k ++ [(((s + k + 1 : Nat) : Int), v)] := by
  unfold putI
  rw [if_neg]
  intro h
  obtain ⟨x, hx, e⟩ := List.mem_map.1 h
  obtain ⟨j, hj, rfl⟩ := (tripL_mem m L s d x k).1 hx
  simp only at e
  omega
theorem tripL_ok (m : Mb) (L : List Int) (s : Nat) (d : Int) : ∀ k, s + k ≤ 1000 → OkI (tripL m L s d k)
  | 0, h => ⟨fun p hp => by obtain ⟨j, hj, rfl⟩ := (tripL_mem m L s d p 0).1 hp; constructor <;> simp only <;> omega, by simp [tripL]⟩
  | k + 1, h => by
    have := (tripL_ok m L s d k (by omega)).put (x := ((s + k + 1 : Nat) : Int)) ⟨by omega, by omega⟩ (inK m L s d (k + 1))
    rw [tripL_new] at this
    exact this
theorem tripL_get (m : Mb) (L : List Int) (s : Nat) (d : Int) {k j : Nat} (hk : s + k ≤ 1000) (hj : j ≤ k) : getI (tripL m L s d k) ((s + j : Nat) : Int) = inK m L s d j := by
  have hm : (((s + j : Nat) : Int), inK m L s d j) ∈ tripL m L s d k := (tripL_mem m L s d _ k).2 ⟨j, hj, rfl⟩
  obtain ⟨q, hq⟩ := List.getElem?_of_mem hm
  exact getI_at (tripL_ok m L s d k hk) hq
/-- A trip is returned. -/
def Trip (m : Mb) (L : List Int) (i : Nat) (d : Int) (w : World) (e : Ending) (w' : World) : Prop :=
  ∃ mp, e = .returned (.tuple #[.map (some mp), .int .i64 (strF m i L)]) ∧ MapII w' mp (tripL m L (startN m i) d (m.places.length - 1 - startN m i)) ∧ w.heap.size ≤ mp ∧ Below w.heap.size w w'
theorem Turn1.off {w w' : World} {b n : Nat} (h : Turn1 w b w') (hn : n ≤ w.heap.size) : Off [b] n w w' := by
  have hb := h.below (Below.refl b w) (Nat.le_refl _)
  exact ⟨hb.os, hb.tape, hb.output, by rw [h.size]; exact Nat.le_refl _, fun k _ hk => h.other (by simpa using hk)⟩
theorem dryF_in2 {m : Mb} (hv : validM m = true) {L : List Int} (hL : L ∈ prodL m.legs) (s : Nat) : ∀ k, s + k + 1 ≤ m.places.length → 0 ≤ (dryF m.places.length (waterB m) L s k).1 ∧ (dryF m.places.length (waterB m) L s k).1 ≤ 5 * k ∧ 0 ≤ (dryF m.places.length (waterB m) L s k).2 ∧ (dryF m.places.length (waterB m) L s k).2 ≤ 5 * k
  | 0, _ => by simp [dryF]
  | k + 1, hk => by
    have ih := dryF_in2 hv hL s k (by omega)
    have hlen := validM_len hv
    have h1 := legs_in hv hL (p := s + k) (by omega)
    have h2 := validM_leg hv (i := s + k) (by omega)
    simp only [dryF]
    split
    · simp only; omega
    · simp only; omega
set_option maxHeartbeats 40000000 in
set_option maxRecDepth 100000 in
theorem l_trip {m : Mb} {A : Ma} (i : Nat) {L : List Int} {a : Option Addr} (c : Nat) (d : Int) (w : World) (hm : MbAt w m A) (hv : validM m = true) (hi : i < m.herds.length) (hL : L ∈ prodL m.legs) (hr : IntsM w a L) (hd0 : 0 ≤ d) (hd1 : d ≤ 30) :
    Calls Try.prog 31 #[mv m A, .int .i64 (i : Int), .slice a L.length c, .int .i64 d] w (Trip m L i d w) := by
  have hln := validM_len hv
  have hst := start_le hv hi
  have hLl : L.length = m.legs.length := ((mem_prodL _ _).1 hL).1
  have hgi : m.herds.getD i (0, 0, 0, 0) = m.herds[i] := by rw [List.getD_eq_getElem?_getD, List.getElem?_eq_getElem hi]; rfl
  have hstart : m.herds[i].1 = (startN m i : Int) := by rw [← hst.2]; unfold startI; rw [Int.toNat_natCast, ← List.getD_eq_getElem?_getD, hgi]
  have HTr : Hid (∀ mp w', MapII w' mp (tripL m L (startN m i) d (m.places.length - 1 - startN m i)) → w.heap.size ≤ mp → Below w.heap.size w w' → Trip m L i d w (.returned (.tuple #[.map (some mp), .int .i64 (dryF m.places.length (waterB m) L (startN m i) (m.places.length - 1 - startN m i)).1])) w') := fun mp w' h1 h2 h3 => ⟨mp, rfl, h1, h2, h3⟩
  generalize hQ : Trip m L i d w = Q at *
  clear hQ
  have HI0 : Hid (inK m L (startN m i) d 0 = d) := rfl
  have HS0 : stayK m (startN m i) 0 = 0 := by unfold stayK; rw [if_neg (by omega)]
  have HS : Hid (∀ k, stayK m (startN m i) (k + 1) = if waterB m (startN m i + k + 1) = true then restI m (startN m i + k + 1) else 0) := fun k => by unfold stayK; simp [Nat.add_assoc]
  have HI : Hid (∀ k, inK m L (startN m i) d (k + 1) = inK m L (startN m i) d k + stayK m (startN m i) k + L.getD (startN m i + k) 0) := fun _ => rfl
  have HIb : Hid (∀ k, 0 ≤ inK m L (startN m i) d k ∧ inK m L (startN m i) d k ≤ 30 + 8 * (k : Int)) := fun k => inK_bound hv hL _ hd0 hd1 k
  have HD0 : dryF m.places.length (waterB m) L (startN m i) 0 = (0, 0) := rfl
  have HD : Hid (∀ k, dryF m.places.length (waterB m) L (startN m i) (k + 1) = if waterB m (startN m i + k + 1) = false ∧ startN m i + k + 2 < m.places.length then ((dryF m.places.length (waterB m) L (startN m i) k).1, (dryF m.places.length (waterB m) L (startN m i) k).2 + L.getD (startN m i + k) 0) else (max (dryF m.places.length (waterB m) L (startN m i) k).1 ((dryF m.places.length (waterB m) L (startN m i) k).2 + L.getD (startN m i + k) 0), 0)) := fun _ => rfl
  have HDb : Hid (∀ k, startN m i + k + 1 ≤ m.places.length → 0 ≤ (dryF m.places.length (waterB m) L (startN m i) k).1 ∧ (dryF m.places.length (waterB m) L (startN m i) k).1 ≤ 5 * k ∧ 0 ≤ (dryF m.places.length (waterB m) L (startN m i) k).2 ∧ (dryF m.places.length (waterB m) L (startN m i) k).2 ≤ 5 * k) := fun k hk => dryF_in2 hv hL _ k hk
  have HT0 : Hid (putI [] (startN m i : Int) d = tripL m L (startN m i) d 0) := rfl
  have HT : Hid (∀ k, putI (tripL m L (startN m i) d k) ((startN m i + k + 1 : Nat) : Int) (inK m L (startN m i) d (k + 1)) = tripL m L (startN m i) d (k + 1)) := fun k => tripL_new m L _ d k _
  have HTo : Hid (∀ k, startN m i + k ≤ 1000 → OkI (tripL m L (startN m i) d k)) := fun k h => tripL_ok m L _ d k h
  have HR : Hid (∀ p, 0 ≤ restI m p ∧ restI m p ≤ 3) := fun p => validM_rest hv p
  have HLb : Hid (∀ p, p < m.legs.length → 1 ≤ L.getD p 0 ∧ L.getD p 0 ≤ 5) := fun p hp => by have := legs_in hv hL hp; have := validM_leg hv hp; omega
  have HLg : Hid (∀ p, (h : p < L.length) → L[p] = L.getD p 0) := fun p h => by rw [List.getD_eq_getElem?_getD, List.getElem?_eq_getElem h]; rfl
  have HWp : Hid (∀ p, (h : p < m.places.length) → m.places[p].1 = waterB m p ∧ m.places[p].2 = restI m p) := fun p h => by unfold waterB restI; rw [List.getElem?_eq_getElem h]; exact ⟨rfl, rfl⟩
  have hst1 := hst.1
  have hM := hm
  obtain ⟨gb, go, hha, c1, c2, c3, c4⟩ := hm.herds.get4 hi
  have hgb := World.block_lt_of_cell? w _ c1
  simp only at hgb
  rw [hstart] at c1
  generalize dryF m.places.length (waterB m) L (startN m i) = dF at *
  generalize startN m i = st at *
  generalize inK m L st d = ik at *
  generalize stayK m st = sk at *
  generalize restI m = rI at *
  generalize waterB m = wB at *
  generalize tripL m L st d = tl at *
  generalize m.herds[i] = hd at *
  obtain ⟨d1, d2, d3, d4⟩ := hd
  simp only at c2 c3 c4
  rcases A with ⟨pa, pc, la, lc, ha, hc, sa, sc⟩
  rcases m with ⟨ps, ls, hs, ss⟩
  unfold mv mcells at *
  simp only at *
  subst hha
  have hll : L.length ≤ ls.length ∧ ls.length ≤ L.length := by omega
  obtain ⟨n0, hn0⟩ : ∃ n0, n0 = w.heap.size := ⟨_, rfl⟩
  have hsti : (st : Int) + 2 ≤ (ps.length : Int) := by omega
  have hnp6 : (ps.length : Int) ≤ 6 := by omega
  have hli5 : (L.length : Int) + 1 = (ps.length : Int) := by omega
  have hhi : (i : Int) < (hs.length : Int) := by omega
  have hpr := hM.places
  have hik0 : Ik (st : Int) := ⟨by omega, by omega⟩
  simp only at hpr
  clear hgi hst hstart hM hm hv hL hLl hn0
  have hmm := @run_makeMap Try.prog
  go_enter Try.func31, Try.ntmps31
  go_wp2_with (first
    | (refine wpList_store_blk 56 (.tmp 10) (.tmp 18) agg_herdA rfl rfl rfl rfl (Blk.new' _ _ _ _ (by simp)) rfl rfl (by simp [Value.oneCell']) ?_; intro w2 h2; refine at_stop ?_))
  unfold Stop
  have b10 := h2.blk
  have b4 := h2.other ((Blk.new w #[.slice pa ps.length pc, .slice la ls.length lc, .slice (some ⟨gb, go, none⟩) hs.length hc, .slice sa ss.length sc] 27).alloc _) (by simp)
  have hB2 : Below w.heap.size w w2 := h2.below (((Below.refl _ _).alloc (Nat.le_refl _) _).alloc (by simp) _) (by simp)
  have hs2 : w2.heap.size ≤ w.heap.size + 2 ∧ w.heap.size + 2 ≤ w2.heap.size := by rw [h2.size]; simp
  have r10 := b10.cell
  have l10 := b10.lt
  clear h2 c1 c2 c3 c4
  go_wp2_with (first
    | (refine wpList_mapUpdate_int (.tmp 19) (.tmp 21) (.tmp 22) rfl (.inr rfl) rfl (k := (st : Int)) rfl (v := d) rfl (MapII.new _) OkI.nil hik0 ?_; intro w3 ht3 hm3; refine at_stop ?_))
  unfold Stop
  rw [HT0.out] at hm3
  have b43 := ht3.blk (b4.alloc _) (by omega)
  have b103 := ht3.blk (b10.alloc _) (by omega)
  have hB3 : Below w.heap.size w w3 := ht3.below (hB2.alloc (by omega) _) (by omega)
  have hs3 : w3.heap.size = w.heap.size + 3 := by rw [ht3.size]; simp; omega
  obtain ⟨mp, hmp⟩ : ∃ mp, w2.heap.size = mp := ⟨_, rfl⟩
  have hmp2 : w.heap.size + 2 ≤ mp ∧ mp ≤ w.heap.size + 2 := by omega
  have hs3a : w3.heap.size ≤ w.heap.size + 3 ∧ w.heap.size + 3 ≤ w3.heap.size := by omega
  rw [hmp] at hm3
  rw [hmp]
  clear hs2 hs3 hmp ht3 b4 b10 r10 hB2
  have r4 := b43.cell
  have r10 := b103.cell
  go_wp2_with fail
  go_loopw [9, 11, 12, 13] (fun x9 x11 x12 x13 wr => ∃ (k p : Nat) (u v : Int), st + k + 1 = p ∧ p ≤ ps.length ∧ x13 = .int .i64 (p : Int) ∧ x9 = .int .i64 (dF k).1 ∧ u = ik k + sk k ∧ x11 = .int .i64 u ∧ x12 = .int .i64 v ∧ (p < ps.length → u - v = (dF k).2) ∧ 0 ≤ v ∧ v ≤ 200 ∧ 0 ≤ sk k ∧ sk k ≤ 3 ∧ Off [mp] w3.heap.size w3 wr ∧ MapII wr mp (tl k)) (fun _ _ _ x13 _ => ps.length - (intOf x13).toNat)
  case atStart =>
    refine ⟨0, st + 1, d, d, rfl, by omega, by go_num, by rw [HD0], by rw [HI0.out, HS0]; omega, rfl, rfl, fun _ => by rw [HD0]; simp, hd0, by omega, by omega, by omega, Off.refl _ _ _, hm3⟩
  case round =>
    clear hm3 r4 r10
    obtain ⟨k, p, u, v, hp, hpl, rfl, rfl, hu, rfl, rfl, huv, hv0, hv2, hs0, hs3, hO, hmr⟩ := hrel
    have hIb := HIb.out k
    have b4r := hO.blk b43 (by omega) (by simp; omega)
    have r4 := b4r.cell
    have hsO := hO.size
    by_cases hlt : p < ps.length
    · obtain ⟨q, hq⟩ : ∃ q, st + k = q := ⟨_, rfl⟩
      have hpm : (p : Int) - 1 = (q : Int) := by omega
      obtain ⟨gl, gol, rfl, el⟩ := hr.get1 (i := q) (by omega)
      obtain ⟨gp, gop, rfl, ep1, ep2⟩ := hpr.getP (i := p) hlt
      rw [HLg.out q] at el
      rw [(HWp.out p hlt).1] at ep1
      rw [(HWp.out p hlt).2] at ep2
      have hgl := World.block_lt_of_cell? w _ el
      have hgp := World.block_lt_of_cell? w _ ep1
      simp only at hgl hgp
      have hgpl := hgp
      have hcell : ∀ b o, b < w.heap.size → wr.cell? ⟨b, o, none⟩ = w.cell? ⟨b, o, none⟩ := fun b o hb => (hO.cell (a := ⟨b, o, none⟩) (by show b < _; omega) (by show b ∉ [mp]; simp; omega)).trans (hB3.cell (p := ⟨b, o, none⟩) hb)
      have il := (hcell _ _ hgl).trans el
      have ip1 := (hcell _ _ hgp).trans ep1
      have ip2 := (hcell _ _ hgp).trans ep2
      have hLq := HLb.out q (by omega)
      have hRp := HR.out p
      have hI1 := HI.out k
      have hS1 := HS.out k
      have hD1 := HD.out k
      have hT1 := HT.out k
      have hDb := HDb.out k (by omega)
      have hT2 := HTo.out k (by omega)
      rw [hp] at hS1 hD1 hT1
      rw [hq] at hI1 hD1
      rw [← hu] at hI1
      rw [hI1] at hT1
      generalize L.getD q 0 = lg at *
      generalize rI p = rp at *
      have hkp : Ik (p : Int) := ⟨by omega, by omega⟩
      have hHI1 := Lib.hid hI1
      have huv1 := huv hlt
      have hHT1 := Lib.hid hT1
      have hHS1 := Lib.hid hS1
      have hHD1 := Lib.hid hD1
      have hHu := Lib.hid hu
      have hpq := Lib.hid hp
      have hqq := Lib.hid hq
      clear hp hq hI1 hT1 hS1 hD1 hu hcell el ep1 ep2 huv hgl hgp hhi hll
      have hlti : (p : Int) < (ps.length : Int) := Int.ofNat_lt.2 hlt
      have hqi : (q : Int) < (L.length : Int) := by omega
      have hu0 : 0 ≤ u ∧ u ≤ 80 := by have := hHu.out; have := hpq.out; omega
      cases hw : wB p
      · rw [hw] at ip1
        by_cases hla : p + 1 < ps.length
        · have hpe : ((p : Int) == (ps.length : Int) - 1) = false := by rw [beq_eq_false_iff_ne]; omega
          go_wp2_with (first
            | (refine wpList_mapUpdate_int (.tmp 43) (.tmp 44) (.tmp 45) rfl (.inl rfl) rfl (k := (p : Int)) rfl (v := u + lg) rfl hmr hT2 hkp ?_; intro w5 ht5 hm5; refine at_stop ?_))
          unfold Stop
          have hcell5 : ∀ b o, b < w.heap.size → w5.cell? ⟨b, o, none⟩ = wr.cell? ⟨b, o, none⟩ := fun b o hb => (ht5.cell b o).trans (if_neg (by omega))
          have jp1 := (hcell5 _ _ hgpl).trans ip1
          have jp2 := (hcell5 _ _ hgpl).trans ip2
          have r45 := (ht5.blk b4r (by omega)).cell
          have hO5 : Off [mp] w3.heap.size w3 w5 := hO.trans (ht5.off hsO)
          rw [hHT1.out] at hm5
          clear hcell5 ip1 ip2 r4 il ht5 hmr
          go_wp2_with fail
          refine ⟨⟨k + 1, p + 1, u + lg, v, by have := hpq.out; omega, by omega, by go_num, by rw [hHD1.out, if_pos ⟨hw, by have := hqq.out; have := hpq.out; omega⟩], by rw [hHI1.out, hHS1.out, hw]; simp, rfl, rfl, fun _ => by rw [hHD1.out, if_pos ⟨hw, by have := hqq.out; have := hpq.out; omega⟩]; simp only; omega, hv0, hv2, by rw [hHS1.out, hw]; simp, by rw [hHS1.out, hw]; simp, hO5, hm5⟩, by simp [intOf]; omega⟩
        · have hpe : ((p : Int) == (ps.length : Int) - 1) = true := by rw [beq_iff_eq]; omega
          go_wp2_with (first
            | (refine wpList_mapUpdate_int (.tmp 43) (.tmp 44) (.tmp 45) rfl (.inl rfl) rfl (k := (p : Int)) rfl (v := u + lg) rfl hmr hT2 hkp ?_; intro w5 ht5 hm5; refine at_stop ?_))
          unfold Stop
          have hcell5 : ∀ b o, b < w.heap.size → w5.cell? ⟨b, o, none⟩ = wr.cell? ⟨b, o, none⟩ := fun b o hb => (ht5.cell b o).trans (if_neg (by omega))
          have jp1 := (hcell5 _ _ hgpl).trans ip1
          have jp2 := (hcell5 _ _ hgpl).trans ip2
          have r45 := (ht5.blk b4r (by omega)).cell
          have hO5 : Off [mp] w3.heap.size w3 w5 := hO.trans (ht5.off hsO)
          rw [hHT1.out] at hm5
          clear hcell5 ip1 ip2 r4 il ht5 hmr
          go_wp2_with fail
          all_goals
            refine ⟨⟨k + 1, p + 1, u + lg, v, by have := hpq.out; omega, by omega, by go_num, by rw [hHD1.out, if_neg (by have := hqq.out; have := hpq.out; omega)]; simp only; go_num, by rw [hHI1.out, hHS1.out, hw]; simp, rfl, rfl, fun h => by omega, hv0, hv2, by rw [hHS1.out, hw]; simp, by rw [hHS1.out, hw]; simp, hO5, hm5⟩, by simp [intOf]; omega⟩
      · rw [hw] at ip1
        go_wp2_with (first
          | (refine wpList_mapUpdate_int (.tmp 43) (.tmp 44) (.tmp 45) rfl (.inl rfl) rfl (k := (p : Int)) rfl (v := u + lg) rfl hmr hT2 hkp ?_; intro w5 ht5 hm5; refine at_stop ?_))
        unfold Stop
        have hcell5 : ∀ b o, b < w.heap.size → w5.cell? ⟨b, o, none⟩ = wr.cell? ⟨b, o, none⟩ := fun b o hb => (ht5.cell b o).trans (if_neg (by omega))
        have jp1 := (hcell5 _ _ hgpl).trans ip1
        have jp2 := (hcell5 _ _ hgpl).trans ip2
        have r45 := (ht5.blk b4r (by omega)).cell
        have hO5 : Off [mp] w3.heap.size w3 w5 := hO.trans (ht5.off hsO)
        rw [hHT1.out] at hm5
        clear hcell5 ip1 ip2 r4 il ht5 hmr
        go_wp2_with fail
        all_goals
          refine ⟨⟨k + 1, p + 1, u + lg + rp, u + lg + rp, by have := hpq.out; omega, by omega, by go_num, by rw [hHD1.out, if_neg (by rw [hw]; simp)]; simp only; go_num, by rw [hHI1.out, hHS1.out, hw]; simp, by go_num, by go_num, fun _ => by rw [hHD1.out, if_neg (by rw [hw]; simp)]; simp, by omega, by omega, by rw [hHS1.out, hw]; simp; omega, by rw [hHS1.out, hw]; simp; omega, hO5, hm5⟩, by simp [intOf]; omega⟩
    · have hlti : ¬ (p : Int) < (ps.length : Int) := by omega
      have hk : ps.length - 1 - st = k := by omega
      have hB9 : Below w.heap.size w wr := hB3.trans (hO.below (by omega) (by simp; omega))
      have hH := HTr.out mp wr (by rw [hk]; exact hmr) (by omega) hB9
      rw [hk] at hH
      clear HTr
      go_wp2_with fail
      exact hH
end Go.Proofs.Yteeinehpneppnaa
