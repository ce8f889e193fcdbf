/- Parts of a proof: BnM, BnN. -/
import Derived.Test.YtjbjmoghloabpaaM10
/- counts: marks among deferred calls; the range over beans as a statement; plain steps. -/
set_option linter.unusedVariables false
set_option linter.unusedSimpArgs false
namespace Go.Proofs.Ytjbjmoghloabpaa
open Go.RowKit Go.Proofs
attribute [local irreducible] Ord.walk

def Mk (D : Nat) : Deferred := { target := .collected D, args := #[] }
/-- The deferred calls are marks of blocks that hold none. -/
def Marks (base : Nat) (ds : List Deferred) (w : World) : Prop := ∃ Ds : List Nat, ds = Ds.map Mk ∧ Ds.Nodup ∧ ∀ D ∈ Ds, base ≤ D ∧ w.heap[D]? = some (.deferred (some []))
theorem Marks.nil (base : Nat) (w : World) : Marks base [] w := ⟨[], rfl, List.nodup_nil, by simp⟩
theorem Marks.off {base : Nat} {ds : List Deferred} {w w' : World} {T : List Nat} (h : Marks base ds w) (ho : Off T w.heap.size w w') (hT : ∀ k ∈ T, ∀ x, w.heap[k]? ≠ some (.deferred x)) : Marks base ds w' := by
  obtain ⟨Ds, h1, h2, h3⟩ := h
  refine ⟨Ds, h1, h2, fun D hD => ⟨(h3 D hD).1, ?_⟩⟩
  have hh := (h3 D hD).2
  exact (ho.block D (Array.getElem?_eq_some_iff.1 hh).1 (fun e => hT D e _ hh)).trans hh
theorem Marks.cons {base D : Nat} {ds : List Deferred} {w : World} (h : Marks base ds w) (hb : base ≤ D) (hD : w.heap[D]? = some (.deferred (some []))) (hn : ∀ d ∈ ds, d ≠ Mk D) : Marks base ([Mk D] ++ ds) w := by
  obtain ⟨Ds, rfl, h2, h3⟩ := h
  refine ⟨D :: Ds, rfl, List.nodup_cons.2 ⟨fun e => hn _ (List.mem_map_of_mem e) rfl, h2⟩, fun E hE => ?_⟩
  rcases List.mem_cons.1 hE with rfl | hE
  · exact ⟨hb, hD⟩
  · exact h3 E hE
theorem Marks.lt {base : Nat} {ds : List Deferred} {w : World} (h : Marks base ds w) : ∀ d ∈ ds, ∃ D, d = Mk D ∧ D < w.heap.size := by
  obtain ⟨Ds, rfl, h2, h3⟩ := h
  intro d hd
  obtain ⟨D, hD, rfl⟩ := List.mem_map.1 hd
  exact ⟨D, rfl, (Array.getElem?_eq_some_iff.1 (h3 D hD).2).1⟩
/-- Leaving past marks. -/
theorem leaves_marks {F : Fence} {n : Nat} {P : Program} {fn : Func} {tmps : Array Value} {R : Ending → World → Prop} {base : Nat} :
    ∀ (Ds : List Nat) (w : World), Ds.Nodup → (∀ D ∈ Ds, base ≤ D ∧ w.heap[D]? = some (.deferred (some []))) →
    (∀ w', Off Ds w.heap.size w w' → LeavesIn F n P fn tmps R [] .returning w') → LeavesInM F n P fn tmps R (Ds.map Mk) .returning w
  | [], w, _, _, h => h w (Off.refl _ _ _)
  | D :: Ds, w, hn, hD, h => by
    simp only [List.nodup_cons] at hn
    refine ⟨by simp, .inl ⟨D, w.putObj D (.deferred none), rfl, run_takeDeferred (hD D (by simp)).2, ?_⟩⟩
    have ho : Off [D] w.heap.size w (w.putObj D (.deferred none)) := (Off.refl _ _ _).putObj (.inl (by simp)) _
    refine leaves_marks (base := base) Ds _ hn.2 (fun E hE => ?_) (fun w' hw' => h w' ?_)
    · have hh := (hD E (by simp [hE])).2
      have : E ≠ D := fun e => hn.1 (e ▸ hE)
      exact ⟨(hD E (by simp [hE])).1, (ho.block E (Array.getElem?_eq_some_iff.1 hh).1 (by simpa using this)).trans hh⟩
    · exact (ho.mono (Nat.le_refl _) (by intro k _ e; simp at e; simp [e])).trans (hw'.mono (by simp) (by intro k _ e; simp [e]))

theorem putM_len (l : List (SL × Nat)) (y : SL) (v : Nat) : (putM l y v).length ≤ l.length + 1 := by
  unfold putM; split <;> simp
theorem putM_kb {l : List (SL × Nat)} {b : Nat} (h : ∀ p ∈ l, ∀ i ∈ p.1, i ≤ b) {y : SL} (hy : ∀ i ∈ y, i ≤ b) (v : Nat) : ∀ p ∈ putM l y v, ∀ i ∈ p.1, i ≤ b := by
  unfold putM
  split
  · intro p hp
    obtain ⟨q, hq, rfl⟩ := List.mem_map.1 hp
    split
    · exact hy
    · exact h q hq
  · intro p hp
    rcases List.mem_append.1 hp with hp | hp
    · exact h p hp
    · simp only [List.mem_singleton] at hp; subst hp; exact hy
theorem f7_le {x : SL} {b : Nat} (h : ∀ i ∈ x, i ≤ b) (i : Nat) : f7 x i ≤ b := by
  unfold f7
  rw [List.getD_eq_getElem?_getD]
  cases hi : x[i]? with
  | none => simp
  | some n => simpa using h n (List.mem_of_getElem? hi)
theorem choose_le {gs : List Gr} {t : Ti} {V first : Nat} {white : Bool} {x : SL} {b : Nat} (hV : V ≤ 8) (h : ∀ i ∈ x, i ≤ b) : ∀ i ∈ chooseX gs t V first white x, i ≤ b + 8 := by
  intro n hn
  have : ∀ i, chooseTo gs t first white (f7 x) V i ≤ b + 8 := fun i => by
    have h1 := chooseTo_le gs t first white (f7 x) V i
    have h2 := f7_le h i
    omega
  simp only [chooseX, x7, List.mem_cons, List.not_mem_nil, or_false] at hn
  rcases hn with rfl | rfl | rfl | rfl | rfl | rfl | rfl <;> exact this _
theorem addTo_len (gs : List Gr) (t : Ti) (V first : Nat) (p : SL × Nat) (l : List (SL × Nat)) : (addTo gs t V first p l 2).length ≤ l.length + 2 := by
  simp only [addTo, addX]
  have h1 := putM_len l (chooseX gs t V first false p.1) (getM l (chooseX gs t V first false p.1) + p.2)
  generalize putM l (chooseX gs t V first false p.1) (getM l (chooseX gs t V first false p.1) + p.2) = m at *
  have h2 := putM_len m (chooseX gs t V first true p.1) (getM m (chooseX gs t V first true p.1) + p.2)
  omega
theorem addTo_kb {gs : List Gr} {t : Ti} {V first : Nat} {p : SL × Nat} {l : List (SL × Nat)} {b : Nat} (hV : V ≤ 8) (hx : ∀ i ∈ p.1, i ≤ b) (h : ∀ p ∈ l, ∀ i ∈ p.1, i ≤ b + 8) : ∀ q ∈ addTo gs t V first p l 2, ∀ i ∈ q.1, i ≤ b + 8 :=
  putM_kb (putM_kb h (choose_le hV hx) _) (choose_le hV hx) _
theorem addTo_rep {gs : List Gr} {t : Ti} {V first : Nat} {p : SL × Nat} {l : List (SL × Nat)} {S : List SL} (hV : V ≤ 8) (hx : ∀ i ∈ p.1, i < 900) (h : Rep l S) : Rep (addTo gs t V first p l 2) (S ++ addOf (chooseX gs t V first) p) := by
  have h1 := h.add (choose_ok (gs := gs) (t := t) (V := V) (first := first) (white := false) hV hx) p.2
  have h2 := h1.add (choose_ok (gs := gs) (t := t) (V := V) (first := first) (white := true) hV hx) p.2
  rw [List.append_assoc] at h2
  exact h2
/-- As many places as there are, at most. -/
theorem seen_len {n : Nat} {seen : List Nat} (hn : seen.Nodup) (hl : ∀ i ∈ seen, i < n) : seen.length ≤ n := by
  have h1 : seen.Perm ((List.range n).filter fun i => decide (i ∈ seen)) := (List.perm_ext_iff_of_nodup hn (List.Pairwise.filter _ List.nodup_range)).2 fun i => by
    simp only [List.mem_filter, List.mem_range, decide_eq_true_eq]
    exact ⟨fun h => ⟨hl i h, h⟩, fun h => h.2⟩
  have h2 := h1.length_eq
  have h3 := List.length_filter_le (fun i => decide (i ∈ seen)) (List.range n)
  simp only [List.length_range] at h3
  omega
theorem addOf_len (st : Bool → SL → SL) (p : SL × Nat) : (addOf st p).length = 2 * p.2 := by simp [addOf]; omega
theorem flat_len {α : Type} (f : α → List SL) (M : Nat) (L : List α) (h : ∀ p ∈ L, (f p).length ≤ M) : (L.flatMap f).length ≤ L.length * M := by
  induction L with
  | nil => simp
  | cons p L ih =>
    rw [List.flatMap_cons, List.length_append, List.length_cons, Nat.succ_mul]
    have h1 := h p (by simp)
    have h2 := ih (fun q hq => h q (by simp [hq]))
    omega
theorem Rep.val_le {l : List (SL × Nat)} {S : List SL} (h : Rep l S) {j : Nat} {p : SL × Nat} (hj : l[j]? = some p) : p.2 ≤ S.length := by
  rw [← getM_at h.1 hj, h.2]
  exact List.count_le_length

/-- What the loop over states keeps. -/
structure L3 (gs : List Gr) (t : Ti) (V first : Nat) (W : World) (base r sm mn b : Nat) (l : List (SL × Nat)) (ds : List Deferred) (w : World) (seen : List Nat) (cur : List (SL × Nat)) : Prop where
  marks : Marks base ds w
  off : Off [mn, r] W.heap.size W w
  it : IterIs w r sm l.length seen
  nd : seen.Nodup
  lt : ∀ i ∈ seen, i < l.length
  src : MapIs w sm l
  nxt : MapIs w mn cur
  rep : Rep cur ((seen.map fun i => l.getD i ([], 0)).flatMap (addOf (chooseX gs t V first)))
  kb : ∀ p ∈ cur, ∀ i ∈ p.1, i ≤ b + 8
  len : cur.length ≤ 2 * seen.length
/-- Numbers stay small. -/
theorem L3.small {gs : List Gr} {t : Ti} {V first : Nat} {W : World} {base r sm mn b : Nat} {l : List (SL × Nat)} {ds : List Deferred} {w : World} {seen : List Nat} {cur : List (SL × Nat)} {S : List SL}
    (h : L3 gs t V first W base r sm mn b l ds w seen cur) (hl : Rep l S) (hS : S.length ≤ 256) (hll : l.length ≤ 256) {j : Nat} {p : SL × Nat} (hj : l[j]? = some p) (y : SL) : getM cur y + 2 * p.2 < 2 ^ 62 := by
  have h1 := hl.val_le hj
  have h2 := seen_len h.nd h.lt
  have h3 : getM cur y ≤ ((seen.map fun i => l.getD i ([], 0)).flatMap (addOf (chooseX gs t V first))).length := by rw [h.rep.2]; exact List.count_le_length
  have h4 := flat_len (addOf (chooseX gs t V first)) 512 (seen.map fun i => l.getD i ([], 0)) (fun q hq => by
    obtain ⟨i, hi, rfl⟩ := List.mem_map.1 hq
    have hil := h.lt i hi
    have : l[i]? = some (l.getD i ([], 0)) := by rw [List.getD_eq_getElem?_getD]; simp [hil]
    have := hl.val_le this
    rw [addOf_len]; omega)
  rw [List.length_map] at h4
  have h5 : seen.length * 512 ≤ 256 * 512 := Nat.mul_le_mul_right _ (by omega)
  omega
/-- One entry more. -/
theorem L3.step {gs : List Gr} {t : Ti} {V first : Nat} {W : World} {base r sm mn b : Nat} {l : List (SL × Nat)} {ds ds' : List Deferred} {w w' : World} {seen : List Nat} {cur : List (SL × Nat)} {i : Nat} {p : SL × Nat}
    (h : L3 gs t V first W base r sm mn b l ds w seen cur) (hV : V ≤ 8) (hb : b ≤ 800) (hp : l[i]? = some p) (hi : i ∉ seen) (hk : ∀ p ∈ l, ∀ i ∈ p.1, i ≤ b)
    (hm : Marks base ds' w') (ho : Off [mn, r] W.heap.size W w') (hit : IterIs w' r sm l.length (seen ++ [i])) (hs : MapIs w' sm l) (hn : MapIs w' mn (addTo gs t V first p cur 2)) :
    L3 gs t V first W base r sm mn b l ds' w' (seen ++ [i]) (addTo gs t V first p cur 2) := by
  have hil := (List.getElem?_eq_some_iff.1 hp).1
  have hpx := hk p (List.mem_of_getElem? hp)
  refine ⟨hm, ho, hit, ?_, ?_, hs, hn, ?_, addTo_kb hV hpx h.kb, ?_⟩
  · rw [List.nodup_append]
    exact ⟨h.nd, by simp, by intro a ha c hc e; simp at hc; subst hc; subst e; exact hi ha⟩
  · intro j hj
    rcases List.mem_append.1 hj with hj | hj
    · exact h.lt j hj
    · simp at hj; omega
  · have h1 := addTo_rep (gs := gs) (t := t) (V := V) (first := first) (p := p) hV (fun i hi => by have := hpx i hi; omega) h.rep
    have : l.getD i ([], 0) = p := by rw [List.getD_eq_getElem?_getD, hp]; rfl
    rw [List.map_append, List.flatMap_append, List.map_singleton, List.flatMap_singleton, this]
    exact h1
  · have := addTo_len gs t V first p cur
    have := h.len
    simp; omega
end Go.Proofs.Ytjbjmoghloabpaa
/- counts: the range over beans as a statement, and the loop over states. -/
set_option linter.unusedVariables false
set_option linter.unusedSimpArgs false
namespace Go.Proofs.Ytjbjmoghloabpaa
open Go.RowKit Go.Proofs
attribute [local irreducible] Ord.walk

set_option maxHeartbeats 4000000 in
set_option maxRecDepth 100000 in
theorem counts_rf {u0 u1 u2 u4 u5 u6 u7 u9 u11 u12 u13 u14 u15 u20 u21 u22 u23 u24 u25 u26 u27 u28 u29 u30 u31 u32 u33 u34 u35 u36 u37 u38 u39 u40 u41 u42 u43 u44 u45 u46 u47 u48 u49 u50 u51 u52 u53 u54 u55 u56 u57 u58 u59 u60 u61 u62 u63 u64 u65 u66 u67 u68 u69 u70 u71 u72 u73 u74 u75 u76 u77 u78 u79 u80 u81 u82 u83 u84 u85 u86 u87 u88 u89 u90 u91 u92 u93 u94 u95 u96 u97 u98 u99 u100 u101 u102 u103 u104 u105 u106 u107 u108 u109 u110 u111 u112 u113 u114 u115 u116 u117 u118 u119 u120 u121 u122 u123 u124 u125 u126 u127 u129 u130 u131 u132 u133 u134 u135 u136 u137 u138 u139 u140 u141 u142 u143 u144 u145 u146 u147 u148 u149 u150 u151 u152 u153 u154 u155 u156 u157 u158 u159 u160 u161 u162 u163 u164 u165 u166 u167 u168 u169 u170 u171 u172 u173 u174 u175 u176 u177 u178 u179 u180 u181 u182 u183 u184 u185 u186 u187 u188 u189 u190 : Value} {ds : List Deferred} (Q : Exit → Act → World → Prop) (W : World) (base v nb V bt gp gb gc fb p17 p18 p19 mn first : Nat) (t : Ti) (gs : List Gr) (p : SL × Nat) (lst : List (SL × Nat))
    (hV : V ≤ 8) (hgl : gs.length ≤ 7) (hvo : ∀ g ∈ gs, g.1 < 2 ^ 62) (hx7 : p.1.length = 7) (hx : ∀ i ∈ p.1, i < 900)
    (env : REnv W v nb bt gp gb gc fb V first t gs) (e17 : Blk W p17 #[.map (some mn)] 127) (e18 : Blk W p18 (lcells p.1) 126) (e19 : Blk W p19 #[.int .i64 p.2] 3)
    (hm : MapIs W mn lst) (hmo : MapOk lst) (hbnd : ∀ y, getM lst y + 2 * p.2 < 2 ^ 62) (hmk : Marks base ds W) (hbase : base ≤ W.heap.size)
    (hnext : ∀ ds' W', Off [mn] W.heap.size W W' → Marks base ds' W' → MapIs W' mn (addTo gs t V first p lst 2) →
      Q .normal ⟨(u0 :: u1 :: u2 :: .pointer (some ⟨nb, 0, none⟩) :: u4 :: u5 :: u6 :: u7 :: .pointer (some ⟨bt, 0, none⟩) :: u9 :: .pointer (some ⟨gp, 0, none⟩) :: u11 :: u12 :: u13 :: u14 :: u15 :: .pointer (some ⟨fb, 0, none⟩) :: .pointer (some ⟨p17, 0, none⟩) :: .pointer (some ⟨p18, 0, none⟩) :: .pointer (some ⟨p19, 0, none⟩) :: u20 :: u21 :: u22 :: u23 :: u24 :: u25 :: u26 :: u27 :: u28 :: u29 :: u30 :: u31 :: u32 :: u33 :: u34 :: u35 :: u36 :: u37 :: u38 :: u39 :: u40 :: u41 :: u42 :: u43 :: u44 :: u45 :: u46 :: u47 :: u48 :: u49 :: u50 :: u51 :: u52 :: u53 :: u54 :: u55 :: u56 :: u57 :: u58 :: u59 :: u60 :: u61 :: u62 :: u63 :: u64 :: u65 :: u66 :: u67 :: u68 :: u69 :: u70 :: u71 :: u72 :: u73 :: u74 :: u75 :: u76 :: u77 :: u78 :: u79 :: u80 :: u81 :: u82 :: u83 :: u84 :: u85 :: u86 :: u87 :: u88 :: u89 :: u90 :: u91 :: u92 :: u93 :: u94 :: u95 :: u96 :: u97 :: u98 :: u99 :: u100 :: u101 :: u102 :: u103 :: u104 :: u105 :: u106 :: u107 :: u108 :: u109 :: u110 :: u111 :: u112 :: u113 :: u114 :: u115 :: u116 :: u117 :: u118 :: u119 :: u120 :: u121 :: u122 :: u123 :: u124 :: u125 :: u126 :: u127 :: .func (.func 106) #[] #[] :: u129 :: u130 :: u131 :: u132 :: u133 :: u134 :: u135 :: u136 :: u137 :: u138 :: u139 :: u140 :: u141 :: u142 :: u143 :: u144 :: u145 :: u146 :: u147 :: u148 :: u149 :: u150 :: u151 :: u152 :: u153 :: u154 :: u155 :: u156 :: u157 :: u158 :: u159 :: u160 :: u161 :: u162 :: u163 :: u164 :: u165 :: u166 :: u167 :: u168 :: u169 :: u170 :: u171 :: u172 :: u173 :: u174 :: u175 :: u176 :: u177 :: u178 :: u179 :: u180 :: u181 :: u182 :: u183 :: u184 :: u185 :: u186 :: u187 :: u188 :: u189 :: u190 :: []).toArray, ds'⟩ W') :
    cRf.wp Try.prog Q ⟨(u0 :: u1 :: u2 :: .pointer (some ⟨nb, 0, none⟩) :: u4 :: u5 :: u6 :: u7 :: .pointer (some ⟨bt, 0, none⟩) :: u9 :: .pointer (some ⟨gp, 0, none⟩) :: u11 :: u12 :: u13 :: u14 :: u15 :: .pointer (some ⟨fb, 0, none⟩) :: .pointer (some ⟨p17, 0, none⟩) :: .pointer (some ⟨p18, 0, none⟩) :: .pointer (some ⟨p19, 0, none⟩) :: u20 :: u21 :: u22 :: u23 :: u24 :: u25 :: u26 :: u27 :: u28 :: u29 :: u30 :: u31 :: u32 :: u33 :: u34 :: u35 :: u36 :: u37 :: u38 :: u39 :: u40 :: u41 :: u42 :: u43 :: u44 :: u45 :: u46 :: u47 :: u48 :: u49 :: u50 :: u51 :: u52 :: u53 :: u54 :: u55 :: u56 :: u57 :: u58 :: u59 :: u60 :: u61 :: u62 :: u63 :: u64 :: u65 :: u66 :: u67 :: u68 :: u69 :: u70 :: u71 :: u72 :: u73 :: u74 :: u75 :: u76 :: u77 :: u78 :: u79 :: u80 :: u81 :: u82 :: u83 :: u84 :: u85 :: u86 :: u87 :: u88 :: u89 :: u90 :: u91 :: u92 :: u93 :: u94 :: u95 :: u96 :: u97 :: u98 :: u99 :: u100 :: u101 :: u102 :: u103 :: u104 :: u105 :: u106 :: u107 :: u108 :: u109 :: u110 :: u111 :: u112 :: u113 :: u114 :: u115 :: u116 :: u117 :: u118 :: u119 :: u120 :: u121 :: u122 :: u123 :: u124 :: u125 :: u126 :: u127 :: .func (.func 106) #[] #[] :: u129 :: u130 :: u131 :: u132 :: u133 :: u134 :: u135 :: u136 :: u137 :: u138 :: u139 :: u140 :: u141 :: u142 :: u143 :: u144 :: u145 :: u146 :: u147 :: u148 :: u149 :: u150 :: u151 :: u152 :: u153 :: u154 :: u155 :: u156 :: u157 :: u158 :: u159 :: u160 :: u161 :: u162 :: u163 :: u164 :: u165 :: u166 :: u167 :: u168 :: u169 :: u170 :: u171 :: u172 :: u173 :: u174 :: u175 :: u176 :: u177 :: u178 :: u179 :: u180 :: u181 :: u182 :: u183 :: u184 :: u185 :: u186 :: u187 :: u188 :: u189 :: u190 :: []).toArray, ds⟩ W := by
  have hcode : cRf = .rangeFunc (.tmp 128) #[129] (rfA cRf) (sI cRf) := rfl
  rw [hcode]
  refine (wpIn_wide (n := 0)).1 (wpIn_rangeFunc ?_)
  intro fn _
  obtain ⟨T0, HT0⟩ : ∃ T0 : Array Value, T0 = (u0 :: u1 :: u2 :: .pointer (some ⟨nb, 0, none⟩) :: u4 :: u5 :: u6 :: u7 :: .pointer (some ⟨bt, 0, none⟩) :: u9 :: .pointer (some ⟨gp, 0, none⟩) :: u11 :: u12 :: u13 :: u14 :: u15 :: .pointer (some ⟨fb, 0, none⟩) :: .pointer (some ⟨p17, 0, none⟩) :: .pointer (some ⟨p18, 0, none⟩) :: .pointer (some ⟨p19, 0, none⟩) :: u20 :: u21 :: u22 :: u23 :: u24 :: u25 :: u26 :: u27 :: u28 :: u29 :: u30 :: u31 :: u32 :: u33 :: u34 :: u35 :: u36 :: u37 :: u38 :: u39 :: u40 :: u41 :: u42 :: u43 :: u44 :: u45 :: u46 :: u47 :: u48 :: u49 :: u50 :: u51 :: u52 :: u53 :: u54 :: u55 :: u56 :: u57 :: u58 :: u59 :: u60 :: u61 :: u62 :: u63 :: u64 :: u65 :: u66 :: u67 :: u68 :: u69 :: u70 :: u71 :: u72 :: u73 :: u74 :: u75 :: u76 :: u77 :: u78 :: u79 :: u80 :: u81 :: u82 :: u83 :: u84 :: u85 :: u86 :: u87 :: u88 :: u89 :: u90 :: u91 :: u92 :: u93 :: u94 :: u95 :: u96 :: u97 :: u98 :: u99 :: u100 :: u101 :: u102 :: u103 :: u104 :: u105 :: u106 :: u107 :: u108 :: u109 :: u110 :: u111 :: u112 :: u113 :: u114 :: u115 :: u116 :: u117 :: u118 :: u119 :: u120 :: u121 :: u122 :: u123 :: u124 :: u125 :: u126 :: u127 :: .func (.func 106) #[] #[] :: u129 :: u130 :: u131 :: u132 :: u133 :: u134 :: u135 :: u136 :: u137 :: u138 :: u139 :: u140 :: u141 :: u142 :: u143 :: u144 :: u145 :: u146 :: u147 :: u148 :: u149 :: u150 :: u151 :: u152 :: u153 :: u154 :: u155 :: u156 :: u157 :: u158 :: u159 :: u160 :: u161 :: u162 :: u163 :: u164 :: u165 :: u166 :: u167 :: u168 :: u169 :: u170 :: u171 :: u172 :: u173 :: u174 :: u175 :: u176 :: u177 :: u178 :: u179 :: u180 :: u181 :: u182 :: u183 :: u184 :: u185 :: u186 :: u187 :: u188 :: u189 :: u190 :: []).toArray := ⟨_, rfl⟩
  rw [← HT0]
  obtain ⟨W1, hW1⟩ : ∃ W1, (W.alloc (.deferred (some []))).alloc (.loop (cRec fn W.heap.size T0 .ready none)) = W1 := ⟨_, rfl⟩
  have hlm := hmk.lt
  have hml := hm.lt
  have ho1 : Off [] W.heap.size W W1 := by rw [← hW1]; exact ((Off.refl _ _ _).alloc (Nat.le_refl _) _).alloc (by simp) _
  have hs1 : W1.heap.size = W.heap.size + 2 := by rw [← hW1]; simp
  have hD1 : W1.heap[W.heap.size]? = some (.deferred (some [])) := by rw [← hW1]; exact (Below.heap_alloc _ _ _ (by simp)).trans (World.alloc_heap_new W _)
  have hL1 : W1.heap[W.heap.size + 1]? = some (.loop (cRec fn W.heap.size T0 .ready none)) := by rw [← hW1]; have := World.alloc_heap_new (W.alloc (.deferred (some []))) (.loop (cRec fn W.heap.size T0 .ready none)); rwa [World.size_alloc] at this
  refine ⟨W.heap.size + 1, [Mk W.heap.size], W1, { target := .fn (.func 106) #[], args := #[.func (.yield (W.heap.size + 1)) #[] #[]] }, W1, 106,
    #[.func (.yield (W.heap.size + 1)) #[] #[]], W1, ?_, ?_, fun _ _ => trivial, ?_, fun h => by simp [Fence.wide] at h, ?_⟩
  · rw [← hW1]; exact run_enterLoop_outer _ _ _ _ _
  · simp [resolve, go_sem, HT0]
  · simp [invoke, go_sem]
  refine CallsIn.mono (counts_beans (W.heap.size + 1) (0 - 1) fn W.heap.size W1 v nb V bt gp gb gc fb p17 p18 p19 mn first t gs p lst T0 HT0 hV hgl hvo hx7 hx (env.off ho1 (by simp)) (ho1.blk e17 e17.lt (by simp)) (ho1.blk e18 e18.lt (by simp)) (ho1.blk e19 e19.lt (by simp))
    (ho1.map hm hml (by simp)) hmo hbnd hL1) ?_
  rintro e W2 ⟨⟨x, rfl⟩, ho2, hL2, hm2⟩
  have hend := run_endLoop (P := Try.prog) hL2 (by simp [cRec])
  obtain ⟨W3, hW3⟩ : ∃ W3, W2.putObj (W.heap.size + 1) (.loop { cRec fn W.heap.size T0 .ready none with state := .exhausted }) = W3 := ⟨_, rfl⟩
  rw [hW3] at hend
  have ho3 : Off [mn, W.heap.size + 1] W1.heap.size W1 W3 := by rw [← hW3]; exact ho2.putObj (.inl (by simp)) _
  have hm3 : MapIs W3 mn (addTo gs t V first p lst 2) := by rw [← hW3]; exact (World.putObj_heap_other (by omega)).trans hm2
  refine ⟨none, W3, hend, ?_⟩
  have hd3 : W3.heap[W.heap.size]? = some (.deferred (some [])) := (ho3.block _ (by omega) (by simp; omega)).trans hD1
  have hoW : Off [mn] W.heap.size W W3 := (ho1.mono (Nat.le_refl _) (by simp)).trans (ho3.mono (by omega) (fun k hk e => by simp at e ⊢; omega))
  have hmk3 : Marks base ds W3 := hmk.off hoW (by
    intro k hk x
    simp at hk; subst hk
    rw [show W.heap[k]? = _ from hm]
    simp)
  rw [HT0]
  exact hnext _ _ hoW (hmk3.cons hbase hd3 (fun d hd e => by
    obtain ⟨D, rfl, hD⟩ := hlm d hd
    simp [Mk] at e; omega)) hm3

def seenLen (w : World) (r : Nat) : Nat := match w.heap[r]? with
  | some (.mapIter _ _ s _) => s.size
  | _ => 0
theorem IterIs.len {w : World} {r m n : Nat} {seen : List Nat} (h : IterIs w r m n seen) : seenLen w r = seen.length := by
  obtain ⟨c, -, h⟩ := h
  unfold seenLen
  rw [h]
  simp
theorem IterIs.noC {w : World} {r m n : Nat} {seen : List Nat} (h : IterIs w r m n seen) : NoC w r := by
  obtain ⟨c, -, h⟩ := h
  intro A t f hh
  rw [h] at hh
  cases hh
theorem IterIs.noD {w : World} {r m n : Nat} {seen : List Nat} (h : IterIs w r m n seen) : ∀ x, w.heap[r]? ≠ some (.deferred x) := by
  obtain ⟨c, -, h⟩ := h
  intro x hh
  rw [h] at hh
  cases hh
theorem MapIs.noD {w : World} {m : Nat} {l : List (SL × Nat)} (h : MapIs w m l) : ∀ x, w.heap[m]? ≠ some (.deferred x) := by
  intro x hh
  rw [show w.heap[m]? = _ from h] at hh
  cases hh
theorem IterIs.ne_map {w : World} {r m n m' : Nat} {seen : List Nat} {l : List (SL × Nat)} (h : IterIs w r m n seen) (hm : MapIs w m' l) : r ≠ m' := by
  obtain ⟨c, -, h⟩ := h
  intro e
  subst e
  rw [show w.heap[r]? = _ from hm] at h
  cases h
theorem IterIs.off {w w' : World} {T : List Nat} {k r m n : Nat} {seen : List Nat} (h : IterIs w r m n seen) (ho : Off T k w w') (hr : r < k) (ht : r ∉ T) : IterIs w' r m n seen := by
  obtain ⟨c, hc, h⟩ := h
  exact ⟨c, hc, (ho.block r hr ht).trans h⟩
/-- All states have been. -/
theorem L3.done {gs : List Gr} {t : Ti} {V first : Nat} {W : World} {base r sm mn b : Nat} {l : List (SL × Nat)} {ds : List Deferred} {w : World} {seen : List Nat} {cur : List (SL × Nat)} {S : List SL}
    (h : L3 gs t V first W base r sm mn b l ds w seen cur) (hl : Rep l S) (hall : ∀ i, i < l.length → i ∈ seen) : Rep cur (S.flatMap fun x => [chooseX gs t V first false x, chooseX gs t V first true x]) := by
  have h1 := seen_perm l ([], 0) seen h.nd h.lt hall
  have h2 := h1.flatMap_right (addOf (chooseX gs t V first))
  have h3 := (addOf_all (chooseX gs t V first) l).trans (hl.expand.flatMap_right fun x => [chooseX gs t V first false x, chooseX gs t V first true x])
  exact h.rep.perm (h2.trans h3)

theorem b_beans (w : World) : Calls Try.prog 98 #[] w (Same (.func (.func 106) #[] #[]) w) := by
  go_enter Try.func98, Try.ntmps98
  go_wp2
  go_ret
  exact ⟨rfl, rfl⟩

set_option maxHeartbeats 4000000 in
set_option maxRecDepth 100000 in
theorem counts_l3 {u0 u1 u2 u4 u5 u6 u7 u9 u11 u12 u13 u14 u15 u18 u19 u20 u21 u22 u23 u24 u25 u26 u27 u28 u29 u30 u31 u32 u33 u34 u35 u36 u37 u38 u39 u40 u41 u42 u43 u44 u45 u46 u47 u48 u49 u50 u51 u52 u53 u54 u55 u56 u57 u58 u59 u60 u61 u62 u63 u64 u65 u66 u67 u68 u69 u70 u71 u72 u73 u74 u75 u76 u77 u78 u79 u80 u81 u82 u83 u84 u85 u86 u87 u88 u89 u90 u91 u92 u93 u94 u95 u96 u97 u98 u99 u100 u101 u102 u103 u104 u105 u106 u107 u108 u109 u110 u111 u112 u113 u114 u115 u116 u117 u118 u119 u120 u121 u123 u124 u125 u126 u127 u128 u129 u130 u131 u132 u133 u134 u135 u136 u137 u138 u139 u140 u141 u142 u143 u144 u145 u146 u147 u148 u149 u150 u151 u152 u153 u154 u155 u156 u157 u158 u159 u160 u161 u162 u163 u164 u165 u166 u167 u168 u169 u170 u171 u172 u173 u174 u175 u176 u177 u178 u179 u180 u181 u182 u183 u184 u185 u186 u187 u188 u189 u190 : Value} {ds : List Deferred} (Q : Exit → Act → World → Prop) (W : World) (base v nb V bt gp gb gc fb p17 r sm mn first b : Nat) (t : Ti) (gs : List Gr) (l : List (SL × Nat)) (S : List SL)
    (hV : V ≤ 8) (hgl : gs.length ≤ 7) (hvo : ∀ g ∈ gs, g.1 < 2 ^ 62) (hsmn : sm ≠ mn)
    (env : REnv W v nb bt gp gb gc fb V first t gs) (e17 : Blk W p17 #[.map (some mn)] 127)
    (hl : Rep l S) (hS : S.length ≤ 256) (hll : l.length ≤ 256) (hk : ∀ p ∈ l, ∀ i ∈ p.1, i ≤ b) (hb : b ≤ 800)
    (h0 : L3 gs t V first W base r sm mn b l ds W [] []) (hbase : base ≤ W.heap.size)
    (hexit : ∀ ds' (x18 x19 x123 x124 x125 x126 x127 x128 : Value) W' cur, Marks base ds' W' → Off [mn, r] W.heap.size W W' → MapIs W' mn cur → Rep cur (S.flatMap fun x => [chooseX gs t V first false x, chooseX gs t V first true x]) →
      (∀ p ∈ cur, ∀ i ∈ p.1, i ≤ b + 8) → cur.length ≤ 2 * l.length →
      Q (.exit 4) ⟨(u0 :: u1 :: u2 :: .pointer (some ⟨nb, 0, none⟩) :: u4 :: u5 :: u6 :: u7 :: .pointer (some ⟨bt, 0, none⟩) :: u9 :: .pointer (some ⟨gp, 0, none⟩) :: u11 :: u12 :: u13 :: u14 :: u15 :: .pointer (some ⟨fb, 0, none⟩) :: .pointer (some ⟨p17, 0, none⟩) :: x18 :: x19 :: u20 :: u21 :: u22 :: u23 :: u24 :: u25 :: u26 :: u27 :: u28 :: u29 :: u30 :: u31 :: u32 :: u33 :: u34 :: u35 :: u36 :: u37 :: u38 :: u39 :: u40 :: u41 :: u42 :: u43 :: u44 :: u45 :: u46 :: u47 :: u48 :: u49 :: u50 :: u51 :: u52 :: u53 :: u54 :: u55 :: u56 :: u57 :: u58 :: u59 :: u60 :: u61 :: u62 :: u63 :: u64 :: u65 :: u66 :: u67 :: u68 :: u69 :: u70 :: u71 :: u72 :: u73 :: u74 :: u75 :: u76 :: u77 :: u78 :: u79 :: u80 :: u81 :: u82 :: u83 :: u84 :: u85 :: u86 :: u87 :: u88 :: u89 :: u90 :: u91 :: u92 :: u93 :: u94 :: u95 :: u96 :: u97 :: u98 :: u99 :: u100 :: u101 :: u102 :: u103 :: u104 :: u105 :: u106 :: u107 :: u108 :: u109 :: u110 :: u111 :: u112 :: u113 :: u114 :: u115 :: u116 :: u117 :: u118 :: u119 :: u120 :: u121 :: .pointer (some ⟨r, 0, none⟩) :: x123 :: x124 :: x125 :: x126 :: x127 :: x128 :: u129 :: u130 :: u131 :: u132 :: u133 :: u134 :: u135 :: u136 :: u137 :: u138 :: u139 :: u140 :: u141 :: u142 :: u143 :: u144 :: u145 :: u146 :: u147 :: u148 :: u149 :: u150 :: u151 :: u152 :: u153 :: u154 :: u155 :: u156 :: u157 :: u158 :: u159 :: u160 :: u161 :: u162 :: u163 :: u164 :: u165 :: u166 :: u167 :: u168 :: u169 :: u170 :: u171 :: u172 :: u173 :: u174 :: u175 :: u176 :: u177 :: u178 :: u179 :: u180 :: u181 :: u182 :: u183 :: u184 :: u185 :: u186 :: u187 :: u188 :: u189 :: u190 :: []).toArray, ds'⟩ W') :
    cC.wp Try.prog Q ⟨(u0 :: u1 :: u2 :: .pointer (some ⟨nb, 0, none⟩) :: u4 :: u5 :: u6 :: u7 :: .pointer (some ⟨bt, 0, none⟩) :: u9 :: .pointer (some ⟨gp, 0, none⟩) :: u11 :: u12 :: u13 :: u14 :: u15 :: .pointer (some ⟨fb, 0, none⟩) :: .pointer (some ⟨p17, 0, none⟩) :: u18 :: u19 :: u20 :: u21 :: u22 :: u23 :: u24 :: u25 :: u26 :: u27 :: u28 :: u29 :: u30 :: u31 :: u32 :: u33 :: u34 :: u35 :: u36 :: u37 :: u38 :: u39 :: u40 :: u41 :: u42 :: u43 :: u44 :: u45 :: u46 :: u47 :: u48 :: u49 :: u50 :: u51 :: u52 :: u53 :: u54 :: u55 :: u56 :: u57 :: u58 :: u59 :: u60 :: u61 :: u62 :: u63 :: u64 :: u65 :: u66 :: u67 :: u68 :: u69 :: u70 :: u71 :: u72 :: u73 :: u74 :: u75 :: u76 :: u77 :: u78 :: u79 :: u80 :: u81 :: u82 :: u83 :: u84 :: u85 :: u86 :: u87 :: u88 :: u89 :: u90 :: u91 :: u92 :: u93 :: u94 :: u95 :: u96 :: u97 :: u98 :: u99 :: u100 :: u101 :: u102 :: u103 :: u104 :: u105 :: u106 :: u107 :: u108 :: u109 :: u110 :: u111 :: u112 :: u113 :: u114 :: u115 :: u116 :: u117 :: u118 :: u119 :: u120 :: u121 :: .pointer (some ⟨r, 0, none⟩) :: u123 :: u124 :: u125 :: u126 :: u127 :: u128 :: u129 :: u130 :: u131 :: u132 :: u133 :: u134 :: u135 :: u136 :: u137 :: u138 :: u139 :: u140 :: u141 :: u142 :: u143 :: u144 :: u145 :: u146 :: u147 :: u148 :: u149 :: u150 :: u151 :: u152 :: u153 :: u154 :: u155 :: u156 :: u157 :: u158 :: u159 :: u160 :: u161 :: u162 :: u163 :: u164 :: u165 :: u166 :: u167 :: u168 :: u169 :: u170 :: u171 :: u172 :: u173 :: u174 :: u175 :: u176 :: u177 :: u178 :: u179 :: u180 :: u181 :: u182 :: u183 :: u184 :: u185 :: u186 :: u187 :: u188 :: u189 :: u190 :: []).toArray, ds⟩ W := by
  have hcode : cC = .loop (sI cC) := rfl
  rw [hcode]
  have HE := Lib.hid hexit
  clear hexit
  refine wp_loop (fun a w => ∃ (x18 x19 x123 x124 x125 x126 x127 x128 : Value) (ds' : List Deferred) (seen : List Nat) (cur : List (SL × Nat)), L3 gs t V first W base r sm mn b l ds' w seen cur ∧
    a = ⟨(u0 :: u1 :: u2 :: .pointer (some ⟨nb, 0, none⟩) :: u4 :: u5 :: u6 :: u7 :: .pointer (some ⟨bt, 0, none⟩) :: u9 :: .pointer (some ⟨gp, 0, none⟩) :: u11 :: u12 :: u13 :: u14 :: u15 :: .pointer (some ⟨fb, 0, none⟩) :: .pointer (some ⟨p17, 0, none⟩) :: x18 :: x19 :: u20 :: u21 :: u22 :: u23 :: u24 :: u25 :: u26 :: u27 :: u28 :: u29 :: u30 :: u31 :: u32 :: u33 :: u34 :: u35 :: u36 :: u37 :: u38 :: u39 :: u40 :: u41 :: u42 :: u43 :: u44 :: u45 :: u46 :: u47 :: u48 :: u49 :: u50 :: u51 :: u52 :: u53 :: u54 :: u55 :: u56 :: u57 :: u58 :: u59 :: u60 :: u61 :: u62 :: u63 :: u64 :: u65 :: u66 :: u67 :: u68 :: u69 :: u70 :: u71 :: u72 :: u73 :: u74 :: u75 :: u76 :: u77 :: u78 :: u79 :: u80 :: u81 :: u82 :: u83 :: u84 :: u85 :: u86 :: u87 :: u88 :: u89 :: u90 :: u91 :: u92 :: u93 :: u94 :: u95 :: u96 :: u97 :: u98 :: u99 :: u100 :: u101 :: u102 :: u103 :: u104 :: u105 :: u106 :: u107 :: u108 :: u109 :: u110 :: u111 :: u112 :: u113 :: u114 :: u115 :: u116 :: u117 :: u118 :: u119 :: u120 :: u121 :: .pointer (some ⟨r, 0, none⟩) :: x123 :: x124 :: x125 :: x126 :: x127 :: x128 :: u129 :: u130 :: u131 :: u132 :: u133 :: u134 :: u135 :: u136 :: u137 :: u138 :: u139 :: u140 :: u141 :: u142 :: u143 :: u144 :: u145 :: u146 :: u147 :: u148 :: u149 :: u150 :: u151 :: u152 :: u153 :: u154 :: u155 :: u156 :: u157 :: u158 :: u159 :: u160 :: u161 :: u162 :: u163 :: u164 :: u165 :: u166 :: u167 :: u168 :: u169 :: u170 :: u171 :: u172 :: u173 :: u174 :: u175 :: u176 :: u177 :: u178 :: u179 :: u180 :: u181 :: u182 :: u183 :: u184 :: u185 :: u186 :: u187 :: u188 :: u189 :: u190 :: []).toArray, ds'⟩) (fun _ w => l.length - seenLen w r)
    ⟨u18, u19, u123, u124, u125, u126, u127, u128, ds, [], [], h0, rfl⟩ ?_
  rintro a w ⟨x18, x19, x123, x124, x125, x126, x127, x128, ds', seen, cur, h, rfl⟩
  have hmn := h.nxt
  have hrs := h0.it.lt
  have hWm := h0.nxt.lt
  have hOs := h.off.size
  have hrm : r ≠ mn := h.it.ne_map h.nxt
  have hsm : sm < W.heap.size := h0.src.lt
  have hrn : r ≠ sm := h.it.ne_map h.src
  have hT : ∀ k ∈ [mn, r], NoC W k := by simp; exact ⟨NoC.map h0.nxt, h0.it.noC⟩
  have envw := env.off h.off hT
  have f17 := h.off.blk e17 e17.lt (fun e => (hT _ e).blk e17 rfl)
  have hlen := h.it.len
  have hit := h.it
  have hsrc := h.src
  have lt17 := f17.lt
  have ltm := hmn.lt
  have ltr := hit.lt
  have lts := hsrc.lt
  have hsnl := seen_len h.nd h.lt
  conv => arg 2; whnf
  have HQ7 : Hid (∀ p ∈ l, (lcells p.1).size = 7 ∧ (lcells p.1).all (·.oneCell') = true) := by
    intro p hpm
    have hp7 := (hl.1.1 p hpm).1
    have q2 := ones_st (f7 p.1)
    rw [scells_f7 p.1 hp7] at q2
    exact ⟨by simp [lcells, hp7], q2⟩
  go_wp2_with (first
    | (refine wpList_next_st (.tmp 122) rfl rfl rfl hit hsrc ?_ ?_; intro hall; have HALL := Lib.hid hall; clear hall; rotate_left; intro i p w1 hp hni ht1 hit1 hs1 hen; have q1 := (HQ7.out p (List.mem_of_getElem? hp)).1; have q2 := (HQ7.out p (List.mem_of_getElem? hp)).2; have HT1 := Lib.hid ht1; clear ht1; have HP := Lib.hid hp; clear hp; have HNI := Lib.hid hni; clear hni)
    | (refine wpList_store_blk 126 (.tmp 18) (.tmp 126) agg_st rfl rfl rfl rfl ((Blk.new _ _ _).alloc _) rfl q1 q2 ?_; intro w5 h5; have b19 : Blk w5 (w1.heap.size + 1) #[.int .i64 0] 3 := h5.other (Blk.new' _ _ _ _ (by simp)) (by omega); have c19 := b19.cell; have f19 := b19.free))
  · have hz1 : w1.heap.size = w.heap.size := HT1.out.size
    have ho1 : Off [r] w.heap.size w w1 := (Off.refl _ _ _).turn HT1.out (.inl (by simp))
    have ho5 : Off [] w1.heap.size w1 w5 := (((Off.refl _ _ _).alloc (Nat.le_refl _) _).alloc (by simp) _).rowed h5 (.inr (Nat.le_refl _))
    have b18 := h5.blk
    have hz5 : w5.heap.size = w1.heap.size + 2 := by rw [h5.size]; simp
    have b19' := b19.set 0 (.int .i64 p.2)
    refine (b_beans _).mono ?_
    rintro e w6 ⟨rfl, rfl⟩
    have ho6 : Off [] w1.heap.size w1 (w5.setCell ⟨w1.heap.size + 1, 0, none⟩ (.int .i64 p.2)) := ho5.setCell (.inr (by simp)) _
    have b18' := b18.other (p := ⟨w1.heap.size + 1, 0, none⟩) (by simp) (.int .i64 p.2)
    have hz6 : (w5.setCell ⟨w1.heap.size + 1, 0, none⟩ (.int .i64 p.2)).heap.size = w1.heap.size + 2 := by simp [hz5]
    clear b18 b19 c19 f19 h5 hen
    generalize w5.setCell ⟨w1.heap.size + 1, 0, none⟩ (.int .i64 p.2) = w6 at *
    have ho : Off [r] w.heap.size w w6 := ho1.trans (ho6.mono (by omega) (by simp))
    have hmn6 := ho.map hmn ltm (by simpa using Ne.symm hrm)
    have hs6 := ho.map hsrc lts (by simpa using Ne.symm hrn)
    have hit6 : IterIs w6 r sm l.length (seen ++ [i]) := hit1.off ho6 (by omega) (by simp)
    have hmk6 : Marks base ds' w6 := h.marks.off ho (by intro k hk; simp at hk; subst hk; exact hit.noD)
    have f17' := ho.blk f17 lt17 (by simpa using hit.noC.blk f17)
    have env6 := envw.off ho (by intro k hk; simp at hk; subst hk; exact hit.noC)
    have hpk := hk p (List.mem_of_getElem? HP.out)
    have hp7 := (hl.1.1 p (List.mem_of_getElem? HP.out)).1
    have hsm6 := h.small hl hS hll HP.out
    have HZ1 := Lib.hid hz1
    have HZ6 := Lib.hid hz6
    clear hz1 hz5 hz6
    go_wp2_with fail
    have hz1 := HZ1.out
    have hz6 := HZ6.out
    refine counts_rf _ w6 base v nb V bt gp gb gc fb p17 w1.heap.size (w1.heap.size + 1) mn first t gs p cur hV hgl hvo hp7 (fun j hj => by have := hpk j hj; omega) env6 f17' b18' b19' hmn6 h.rep.1 hsm6 hmk6 (by omega) ?_
    intro ds2 W2 ho2 hmk2 hm2
    have hstep := h.step hV hb HP.out HNI.out hk hmk2 (h.off.trans ((ho.mono hOs (by simp; intro k _ e; exact .inr e)).trans (ho2.mono (by omega) (by simp; intro k _ e; exact .inl e)))) (hit6.off ho2 (by omega) (by simpa using hrm)) (ho2.map hs6 (by omega) (by simpa using hsmn)) hm2
    go_wp2_with fail
    refine ⟨⟨_, _, _, _, _, _, _, _, ds2, _, _, hstep, rfl⟩, ?_⟩
    rw [hstep.it.len, hlen, List.length_append]
    have := seen_len hstep.nd hstep.lt
    rw [List.length_append] at this
    simp at this ⊢
    omega
  · exact HE.out _ _ _ _ _ _ _ _ _ _ _ h.marks h.off h.nxt (h.done hl HALL.out) h.kb (by have := h.len; omega)
end Go.Proofs.Ytjbjmoghloabpaa
