/- Parts of a proof: MoE. -/
import Derived.Test.YteeinehpneppnaaQ09
import Derived.Maps.RangeRun
import Derived.DeepKeys5
import Derived.Carry
set_option linter.unusedVariables false
set_option linter.unusedSimpArgs false
namespace Go.Proofs.Yteeinehpneppnaa
open Go.RowKit Go.Proofs
/-- A question as its seven numbers. -/
abbrev QK := List Int
def qcells : QK → Array Value
  | [a, b, c, d, e, f, g] => #[.int .i64 a, .int .i64 b, .int .i64 c, .int .i64 d, .int .i64 e, .int .i64 f, .int .u64 g]
  | _ => #[]
def QK7 (x : QK) : Prop := x.length = 7 ∧ ∀ n ∈ x, 0 ≤ n ∧ n < 1000000
theorem qcells_inj {x y : QK} (hx : QK7 x) (hy : QK7 y) (h : qcells x = qcells y) : x = y := by
  match x, hx.1, y, hy.1 with
  | [a, b, c, d, e, f, g], _, [a', b', c', d', e', f', g'], _ =>
    simp only [qcells, Array.mk.injEq, List.cons.injEq, Value.int.injEq, true_and, and_true] at h
    obtain ⟨rfl, rfl, rfl, rfl, rfl, rfl, rfl⟩ := h
    rfl
theorem laid_out : laidOutB Try.prog = true := by kernel_rfl
theorem qk_law : WideMaps.KeyLaw Try.prog 119 :=
  deep_law_gate laid_out (of_decide_eq_true (by kernel_rfl)) (of_decide_eq_true (by kernel_rfl)) (by kernel_rfl) (by rw [Try.underlying119])
theorem qk_key {x : QK} (h : QK7 x) : ∃ l, keyOf Try.prog 119 (.agg (qcells x)) = some l := by
  obtain ⟨h7, hx⟩ := h
  match x, h7 with
  | [a, b, c, d, e, f, g], _ =>
    simp only [List.mem_cons, List.not_mem_nil, or_false, forall_eq_or_imp, forall_eq] at hx
    obtain ⟨ha, hb, hc, hd, he, hf, hg⟩ := hx
    have hk : Try.prog.keyType 119 = true := by kernel_rfl
    obtain ⟨n, hn⟩ : ∃ n, Try.prog.types.size + 1 = n + 4 := ⟨Try.prog.types.size - 3, by have : 3 ≤ Try.prog.types.size := of_decide_eq_true (by kernel_rfl); omega⟩
    unfold keyOf
    rw [Try.underlying119]
    simp only [hk, hn]
    have c1 : Try.prog.cellsOf 119 = 7 := by kernel_rfl
    have c2 : Try.prog.cellsOf 90 = 5 := by kernel_rfl
    have c3 : Try.prog.cellsOf 3 = 1 := by kernel_rfl
    have c4 : Try.prog.cellsOf 87 = 1 := by kernel_rfl
    have hform : (Value.agg (qcells [a, b, c, d, e, f, g])).formed Try.prog 119 = true := by
      simp [Value.formed, Try.underlying119, c1, qcells]
    rw [hform]
    have hr : List.range 5 = [0, 1, 2, 3, 4] := rfl
    have hw : ∀ n : Int, 0 ≤ n ∧ n < 1000000 → (Lit.int .i64 n).wf = true := fun n hn => by have : IntKind.i64.min = -9223372036854775808 := rfl; have h2 : IntKind.i64.max = 9223372036854775807 := rfl; simp [Lit.wf, this, h2]; omega
    have hu : ∀ n : Int, 0 ≤ n ∧ n < 1000000 → (Lit.int .u64 n).wf = true := fun n hn => by have : IntKind.u64.min = 0 := rfl; have h2 : IntKind.u64.max = 18446744073709551615 := rfl; simp [Lit.wf, this, h2]; omega
    simp [Program.keyLits, Try.underlying119, Try.underlying90, Try.underlying3, Try.underlying87, qcells, c1, c2, c3, c4, Value.cells, hr, hw a ha, hw b hb, hw c hc, hw d hd, hw e he, hw f hf, hu g hg]

/-- A map's entries. -/
def entsFrom : Nat → List (QK × (Int × Int)) → List MapEntry
  | _, [] => []
  | i, p :: l => { key := .agg (qcells p.1), val := spv p.2, born := i } :: entsFrom (i + 1) l
def ents (l : List (QK × (Int × Int))) : Array MapEntry := (entsFrom 0 l).toArray
def MapIs (w : World) (m : Nat) (l : List (QK × (Int × Int))) : Prop := w.heap[m]? = some (.map (ents l) l.length)
def MapOk (l : List (QK × (Int × Int))) : Prop := (∀ p ∈ l, QK7 p.1) ∧ (l.map (·.1)).Nodup
def getM (l : List (QK × (Int × Int))) (x : QK) : Int × Int := ((l.find? (fun p => p.1 == x)).map (·.2)).getD (0, 0)
def putM (l : List (QK × (Int × Int))) (x : QK) (v : Int × Int) : List (QK × (Int × Int)) := if x ∈ l.map (·.1) then l.map (fun p => if p.1 = x then (x, v) else p) else l ++ [(x, v)]
theorem entsFrom_length (i : Nat) (l : List (QK × (Int × Int))) : (entsFrom i l).length = l.length := by
  induction l generalizing i with
  | nil => rfl
  | cons p l ih => simp [entsFrom, ih]
theorem entsFrom_get (i : Nat) (l : List (QK × (Int × Int))) (j : Nat) : (entsFrom i l)[j]? = l[j]?.map fun p => { key := .agg (qcells p.1), val := spv p.2, born := i + j } := by
  induction l generalizing i j with
  | nil => simp [entsFrom]
  | cons p l ih =>
    cases j with
    | zero => simp [entsFrom]
    | succ j => simp [entsFrom, ih]; congr 1; funext q; congr 1; omega
theorem entsFrom_mem {i : Nat} {l : List (QK × (Int × Int))} {e : MapEntry} (h : e ∈ entsFrom i l) : ∃ p ∈ l, e.key = .agg (qcells p.1) ∧ e.val = spv p.2 := by
  induction l generalizing i with
  | nil => simp [entsFrom] at h
  | cons p l ih =>
    simp only [entsFrom, List.mem_cons] at h
    rcases h with rfl | h
    · exact ⟨p, by simp, rfl, rfl⟩
    · obtain ⟨q, h1, h2, h3⟩ := ih h
      exact ⟨q, by simp [h1], h2, h3⟩
theorem MapOk.keyed {l : List (QK × (Int × Int))} (h : MapOk l) : ∀ e ∈ (ents l).toList, ∃ k, keyOf Try.prog 119 e.key = some k := by
  intro e he
  obtain ⟨p, hp, hk, -⟩ := entsFrom_mem (show e ∈ entsFrom 0 l by simpa [ents] using he)
  rw [hk]
  exact qk_key (h.1 p hp)

theorem getM_at {l : List (QK × (Int × Int))} (h : MapOk l) {j : Nat} {p : QK × (Int × Int)} (hj : l[j]? = some p) : getM l p.1 = p.2 := by
  unfold getM
  have hm : p ∈ l := List.mem_of_getElem? hj
  have h1 : ∀ q ∈ l, q.1 = p.1 → q = p := by
    have hn := h.2
    intro q hq he
    obtain ⟨i, hi⟩ := List.getElem?_of_mem hq
    have hi' : (l.map (·.1))[i]? = some q.1 := by simp [hi]
    have hj' : (l.map (·.1))[j]? = some p.1 := by simp [hj]
    rw [he] at hi'
    have hij : i = j := (List.getElem?_inj (by simpa using (List.getElem?_eq_some_iff.1 hi).1) hn).1 (hi'.trans hj'.symm)
    subst hij
    rw [hi] at hj
    simpa using hj
  cases hf : l.find? (fun q => q.1 == p.1) with
  | none =>
    have := List.find?_eq_none.1 hf p hm
    simp at this
  | some q =>
    have h2 := List.find?_some hf
    have h3 := List.mem_of_find?_eq_some hf
    have h4 := h1 q h3 (by simpa using h2)
    subst h4
    rfl
theorem getM_none {l : List (QK × (Int × Int))} {x : QK} (h : ∀ p ∈ l, p.1 ≠ x) : getM l x = (0, 0) := by
  unfold getM
  rw [List.find?_eq_none.2 (fun p hp => by simpa using h p hp)]
  rfl
/-- What is found at a key. -/
theorem run_find_qk {l : List (QK × (Int × Int))} (h : MapOk l) {x : QK} (hx : QK7 x) (w : World) :
    ((Instr.findKey 119 (.agg (qcells x)) (ents l).toList).run Try.prog w = .ok none w ∧ ∀ p ∈ l, p.1 ≠ x) ∨
    ∃ j p, (Instr.findKey 119 (.agg (qcells x)) (ents l).toList).run Try.prog w = .ok (some (j, spv p.2)) w ∧ l[j]? = some p ∧ p.1 = x := by
  obtain ⟨k, hk⟩ := qk_key hx
  rcases qk_law.find w hk (ents l).toList h.keyed with ⟨h1, h2⟩ | ⟨j, e, h1, h2, h3⟩
  · refine .inl ⟨h1, fun p hp he => ?_⟩
    obtain ⟨i, hi⟩ := List.getElem?_of_mem hp
    have : ({ key := .agg (qcells p.1), val := spv p.2, born := 0 + i } : MapEntry) ∈ (ents l).toList := by
      refine List.mem_of_getElem? (i := i) ?_
      simp [ents, entsFrom_get, hi]
    exact h2 _ this (by rw [he])
  · have h4 : (entsFrom 0 l)[j]? = some e := by simpa [ents] using h2
    rw [entsFrom_get] at h4
    cases hp : l[j]? with
    | none => simp [hp] at h4
    | some p =>
      simp only [hp, Option.map_some, Option.some.injEq] at h4
      subst h4
      exact .inr ⟨j, p, h1, hp, qcells_inj (h.1 p (List.mem_of_getElem? hp)) hx (by simpa using h3)⟩
def hasQ (l : List (QK × (Int × Int))) (x : QK) : Bool := decide (x ∈ l.map (·.1))
theorem run_lookup_qk {w : World} {m : Nat} {l : List (QK × (Int × Int))} (hm : MapIs w m l) (h : MapOk l) {x : QK} (hx : QK7 x) :
    (Instr.lookup 124 (.map (some m)) (.agg (qcells x)) true).run Try.prog w = .ok (.tuple #[spv (getM l x), .bool (hasQ l x)]) w := by
  obtain ⟨k, hk⟩ := qk_key hx
  have hc := fun em => qk_law.check w em hk
  have hz : (zeroValue 39).run Try.prog w = .ok (spv (0, 0)) w := by simp [go_sem]
  rcases run_find_qk h hx w with ⟨h1, h2⟩ | ⟨j, p, h1, h2, h3⟩
  · have e : hasQ l x = false := by
      unfold hasQ
      simp only [decide_eq_false_iff_not, List.mem_map, not_exists, not_and]
      exact fun p hp => h2 p hp
    rw [e, getM_none h2]
    simp [Instr.lookup, Try.underlying124, MapKept.run_getObj_map hm, hc, h1, hz]
  · have e : hasQ l x = true := by
      unfold hasQ
      simp only [decide_eq_true_eq, List.mem_map]
      exact ⟨p, List.mem_of_getElem? h2, h3⟩
    rw [e]
    subst h3
    rw [getM_at h h2]
    simp [Instr.lookup, Try.underlying124, MapKept.run_getObj_map hm, hc, h1]

/-- A world in which block b alone has turned. -/
structure Turn1 (w : World) (b : Nat) (w' : World) : Prop where
  size : w'.heap.size = w.heap.size
  other : ∀ {c : Nat}, c ≠ b → w'.heap[c]? = w.heap[c]?
  cell : ∀ c i, w'.cell? ⟨c, i, none⟩ = if c = b then cellX w' b i else w.cell? ⟨c, i, none⟩
  free : ∀ c i, w'.frozen? ⟨c, i, none⟩ = if c = b then frozenX w' b i else w.frozen? ⟨c, i, none⟩
  below : ∀ {n : Nat} {W : World}, Below n W w → n ≤ b → Below n W w'
theorem Turn1.blk {w w' : World} {b c : Nat} {A : Array Value} {t : TypeId} (h : Turn1 w b w') (hb : Blk w c A t) (hc : c ≠ b) : Blk w' c A t := (h.other hc).trans hb
theorem Turn1.of {w w1 : World} {b : Nat} {o : Obj} (hw : w1 = w ∨ w1 = w.drew) (hb : b < w.heap.size) : Turn1 w b (Go.ChangeMaps.setBlock w1 b o) ∧ (Go.ChangeMaps.setBlock w1 b o).heap[b]? = some o := by
  have hh : w1.heap = w.heap := by rcases hw with rfl | rfl <;> rfl
  have hot : ∀ {c : Nat}, c ≠ b → (Go.ChangeMaps.setBlock w1 b o).heap[c]? = w.heap[c]? := by
    intro c hc
    simp only [Go.ChangeMaps.setBlock]
    rw [Array.getElem?_setIfInBounds, if_neg (Ne.symm hc), hh]
  have hsz : (Go.ChangeMaps.setBlock w1 b o).heap.size = w.heap.size := by simp [Go.ChangeMaps.setBlock, hh]
  refine ⟨⟨hsz, hot, fun c i => ?_, fun c i => ?_, fun hB hn => hB.trans ⟨?_, ?_, ?_, Nat.le_of_eq hsz.symm, fun k hk => hot (by omega)⟩⟩, ?_⟩
  · by_cases hc : c = b
    · subst hc; rw [if_pos rfl]; rfl
    · rw [if_neg hc]; exact World.cell?_of_block (a := ⟨c, i, none⟩) (hot hc)
  · by_cases hc : c = b
    · subst hc; rw [if_pos rfl]; rfl
    · rw [if_neg hc]; exact World.frozen?_of_block (a := ⟨c, i, none⟩) (hot hc)
  · rcases hw with rfl | rfl <;> rfl
  · rcases hw with rfl | rfl <;> rfl
  · rcases hw with rfl | rfl <;> rfl
  · simp only [Go.ChangeMaps.setBlock]
    rw [Array.getElem?_setIfInBounds, if_pos rfl, if_pos (by rw [hh]; exact hb)]

theorem putM_old {l : List (QK × (Int × Int))} (h : MapOk l) {j : Nat} {p : QK × (Int × Int)} (hj : l[j]? = some p) (v : Int × Int) :
    (ents l).modify j (fun e => { e with key := .agg (qcells p.1), val := spv v }) = ents (putM l p.1 v) ∧ (putM l p.1 v).length = l.length := by
  have hm : p ∈ l := List.mem_of_getElem? hj
  have hin : p.1 ∈ l.map (·.1) := List.mem_map_of_mem hm
  unfold putM
  rw [if_pos hin]
  refine ⟨?_, by simp⟩
  apply Array.ext_getElem?
  intro i
  rw [Array.getElem?_modify]
  simp only [ents, List.getElem?_toArray, entsFrom_get, List.getElem?_map, Option.map_map]
  by_cases hij : j = i
  · subst hij
    rw [if_pos rfl, hj]
    simp
  · rw [if_neg hij]
    cases hq : l[i]? with
    | none => rfl
    | some q =>
      have hne : q.1 ≠ p.1 := by
        intro he
        have hi' : (l.map (·.1))[i]? = some q.1 := by simp [hq]
        have hj' : (l.map (·.1))[j]? = some p.1 := by simp [hj]
        rw [he] at hi'
        exact hij ((List.getElem?_inj (by simpa using (List.getElem?_eq_some_iff.1 hj).1) h.2).1 (hj'.trans hi'.symm))
      simp [hne]
theorem putM_new {l : List (QK × (Int × Int))} {x : QK} (hn : ∀ p ∈ l, p.1 ≠ x) (v : Int × Int) :
    (ents l).push { key := .agg (qcells x), val := spv v, born := l.length } = ents (putM l x v) ∧ (putM l x v).length = l.length + 1 := by
  have hni : x ∉ l.map (·.1) := by
    intro h
    obtain ⟨p, hp, he⟩ := List.mem_map.1 h
    exact hn p hp he
  unfold putM
  rw [if_neg hni]
  refine ⟨?_, by simp⟩
  apply Array.ext_getElem?
  intro i
  rw [Array.getElem?_push]
  simp only [ents, List.getElem?_toArray, entsFrom_get, List.size_toArray, entsFrom_length]
  by_cases hi : i = l.length
  · subst hi
    simp
  · rw [if_neg hi]
    by_cases h2 : i < l.length
    · rw [List.getElem?_append_left h2]
    · rw [List.getElem?_eq_none (by omega), List.getElem?_eq_none (by simp; omega)]
theorem MapOk.put {l : List (QK × (Int × Int))} (h : MapOk l) {x : QK} (hx : QK7 x) (v : Int × Int) : MapOk (putM l x v) := by
  unfold putM
  split
  · rename_i hin
    refine ⟨fun p hp => ?_, ?_⟩
    · obtain ⟨q, hq, rfl⟩ := List.mem_map.1 hp
      split
      · exact hx
      · exact h.1 q hq
    · have : (l.map (fun p => if p.1 = x then (x, v) else p)).map (·.1) = l.map (·.1) := by
        rw [List.map_map]
        apply List.map_congr_left
        intro p _
        by_cases he : p.1 = x
        · simp [he]
        · simp [he]
      rw [this]
      exact h.2
  · rename_i hni
    refine ⟨fun p hp => ?_, ?_⟩
    · rcases List.mem_append.1 hp with hp | hp
      · exact h.1 p hp
      · simp at hp; subst hp; exact hx
    · rw [List.map_append, List.nodup_append]
      refine ⟨h.2, by simp, fun a ha b hb => ?_⟩
      simp at hb
      subst hb
      exact fun e => hni (e ▸ ha)

theorem run_mapUpdate_qk {w : World} {m : Nat} {l : List (QK × (Int × Int))} (hm : MapIs w m l) (h : MapOk l) {x : QK} (hx : QK7 x) (v : Int × Int) :
    ∃ w', (Instr.mapUpdate 124 (.map (some m)) (.agg (qcells x)) (spv v)).run Try.prog w = .ok () w' ∧ Turn1 w m w' ∧ MapIs w' m (putM l x v) := by
  obtain ⟨k, hk⟩ := qk_key hx
  have hc := fun em => qk_law.check w em hk
  have hst := qk_law.stays w hk
  have hlt : m < w.heap.size := by
    rcases Nat.lt_or_ge m w.heap.size with h' | h'
    · exact h'
    · unfold MapIs at hm; simp [Array.getElem?_eq_none h'] at hm
  rcases run_find_qk h hx w with ⟨h1, h2⟩ | ⟨j, p, h1, h2, h3⟩
  · obtain ⟨e1, e2⟩ := putM_new h2 v
    obtain ⟨t1, t2⟩ := Turn1.of (w := w) (w1 := w) (b := m) (o := .map ((ents l).push { key := .agg (qcells x), val := spv v, born := l.length }) (l.length + 1)) (.inl rfl) hlt
    refine ⟨_, ?_, t1, ?_⟩
    · simp [Instr.mapUpdate, Try.underlying124, MapKept.run_getObj_map hm, hc, h1, MapKept.run_setObj_map _ hm, Go.ChangeMaps.setBlock]
    · unfold MapIs; rw [t2, e1, e2]
  · subst h3
    obtain ⟨e1, e2⟩ := putM_old h h2 v
    have hent : (ents l)[j]? = some { key := .agg (qcells p.1), val := spv p.2, born := 0 + j } := by simp [ents, entsFrom_get, h2]
    obtain ⟨t1, t2⟩ := Turn1.of (w := w) (w1 := w) (b := m) (o := .map ((ents l).modify j fun e => { e with key := .agg (qcells p.1), val := spv v }) l.length) (.inl rfl) hlt
    refine ⟨_, ?_, t1, ?_⟩
    · simp [Instr.mapUpdate, Try.underlying124, MapKept.run_getObj_map hm, hc, h1, hent, hst, MapKept.run_setObj_map _ hm, Go.ChangeMaps.setBlock]
    · unfold MapIs; rw [t2, e1, e2]
theorem MapIs.lt {w : World} {m : Nat} {l : List (QK × (Int × Int))} (h : MapIs w m l) : m < w.heap.size := lt_of_block h
theorem MapIs.below {w w' : World} {m n : Nat} {l : List (QK × (Int × Int))} (h : MapIs w m l) (hb : Below n w w') (hn : m < n) : MapIs w' m l := (hb.block m hn).trans h
theorem MapIs.noCells {w : World} {m : Nat} {l : List (QK × (Int × Int))} (h : MapIs w m l) {c : Array Value} {t : TypeId} {f : Nat × Nat} : w.heap[m]? ≠ some (.cells c t f) := by
  rw [show w.heap[m]? = _ from h]; simp
theorem MapIs.new (w : World) : MapIs (w.alloc (.map #[] 0)) w.heap.size [] := by
  show (w.heap.push _)[w.heap.size]? = _
  simp [ents, entsFrom]
theorem MapOk.nil : MapOk [] := ⟨(by intro p hp; cases hp), (by simp)⟩
section
variable {ops : Array Oper} {rest : List Oper} {o : Oper} {a : Act} {w : World} {Q : Exit → Act → World → Prop}
theorem wpList_mapUpdate_qk (x y z : Operand) (hgd : o.guard = none) (ho : o.op = .mapUpdate 124 x y z ∨ o.op = .insert 124 x y z) {m : Nat} (hx : a.eval x = .map (some m)) {k : QK} (hy : a.eval y = .agg (qcells k)) {v : Int × Int} (hz : a.eval z = spv v) {l : List (QK × (Int × Int))} (hm : MapIs w m l) (h : MapOk l) (hk : QK7 k)
    (hK : ∀ w', Turn1 w m w' → MapIs w' m (putM l k v) → wpList Try.prog ops Q rest (a.put o.dst undef) w') : wpList Try.prog ops Q (o :: rest) a w := by
  refine wpList_plain hgd fun K hK' => ?_
  obtain ⟨w', h1, h2, h3⟩ := run_mapUpdate_qk hm h hk v
  unfold Oper.wp
  rcases ho with ho | ho <;> simp [execOp, ho, hx, hy, hz, h1, Result.andThen] <;> exact hK' _ _ (hK w' h2 h3)
end
end Go.Proofs.Yteeinehpneppnaa
