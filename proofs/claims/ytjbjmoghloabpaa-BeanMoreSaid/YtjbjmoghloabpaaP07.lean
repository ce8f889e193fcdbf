/- Parts of a proof: BnN, BnO. -/
import Derived.Test.YtjbjmoghloabpaaP06
import Derived.WalkSpells
set_option linter.unusedVariables false
set_option linter.unusedSimpArgs false
namespace Go.Proofs.Ytjbjmoghloabpaa
open Go.RowKit Go.Proofs
attribute [local irreducible] Ord.walk

set_option maxHeartbeats 4000000 in
set_option maxRecDepth 100000 in
theorem counts_rf {u0 u1 u2 u4 u5 u6 u7 u9 u11 u12 u13 u14 u15 u20 u21 u22 u23 u24 u25 u26 u27 u28 u29 u30 u31 u32 u33 u34 u35 u36 u37 u38 u39 u40 u41 u42 u43 u44 u45 u46 u47 u48 u49 u50 u51 u52 u53 u54 u55 u56 u57 u58 u59 u60 u61 u62 u63 u64 u65 u66 u67 u68 u69 u70 u71 u72 u73 u74 u75 u76 u77 u78 u79 u80 u81 u82 u83 u84 u85 u86 u87 u88 u89 u90 u91 u92 u93 u94 u95 u96 u97 u98 u99 u100 u101 u102 u103 u104 u105 u106 u107 u108 u109 u110 u111 u112 u113 u114 u115 u116 u117 u118 u119 u120 u121 u122 u123 u124 u125 u126 u127 u129 u130 u131 u132 u133 u134 u135 u136 u137 u138 u139 u140 u141 u142 u143 u144 u145 u146 u147 u148 u149 u150 u151 u152 u153 u154 u155 u156 u157 u158 u159 u160 u161 u162 u163 u164 u165 u166 u167 u168 u169 u170 u171 u172 u173 u174 u175 u176 u177 u178 u179 u180 u181 u182 u183 u184 u185 u186 u187 u188 u189 u190 : Value} {ds : List Deferred} (Q : Exit → Act → World → Prop) (W : World) (base v nb V bt gp gb gc fb p17 p18 p19 mn first : Nat) (t : Ti) (gs : List Gr) (p : SL × Nat) (lst : List (SL × Nat))
    (hV : V ≤ 8) (hgl : gs.length ≤ 7) (hvo : ∀ g ∈ gs, g.1 < 2 ^ 62) (hx7 : p.1.length = 7) (hx : ∀ i ∈ p.1, i < 900)
    (env : REnv W v nb bt gp gb gc fb V first t gs) (e17 : Blk W p17 #[.map (some mn)] 127) (e18 : Blk W p18 (lcells p.1) 126) (e19 : Blk W p19 #[.int .i64 p.2] 3)
    (hm : MapIs W mn lst) (hmo : MapOk lst) (hbnd : ∀ y, getM lst y + 2 * p.2 < 2 ^ 62) (hmk : Marks base ds W) (hbase : base ≤ W.heap.size)
    (hnext : ∀ ds' W', Off [mn] W.heap.size W W' → Marks base ds' W' → MapIs W' mn (addTo gs t V first p lst 2) →
      Q .normal ⟨(u0 :: u1 :: u2 :: .pointer (some ⟨nb, 0, none⟩) :: u4 :: u5 :: u6 :: u7 :: .pointer (some ⟨bt, 0, none⟩) :: u9 :: .pointer (some ⟨gp, 0, none⟩) :: u11 :: u12 :: u13 :: u14 :: u15 :: .pointer (some ⟨fb, 0, none⟩) :: .pointer (some ⟨p17, 0, none⟩) :: .pointer (some ⟨p18, 0, none⟩) :: .pointer (some ⟨p19, 0, none⟩) :: u20 :: u21 :: u22 :: u23 :: u24 :: u25 :: u26 :: u27 :: u28 :: u29 :: u30 :: u31 :: u32 :: u33 :: u34 :: u35 :: u36 :: u37 :: u38 :: u39 :: u40 :: u41 :: u42 :: u43 :: u44 :: u45 :: u46 :: u47 :: u48 :: u49 :: u50 :: u51 :: u52 :: u53 :: u54 :: u55 :: u56 :: u57 :: u58 :: u59 :: u60 :: u61 :: u62 :: u63 :: u64 :: u65 :: u66 :: u67 :: u68 :: u69 :: u70 :: u71 :: u72 :: u73 :: u74 :: u75 :: u76 :: u77 :: u78 :: u79 :: u80 :: u81 :: u82 :: u83 :: u84 :: u85 :: u86 :: u87 :: u88 :: u89 :: u90 :: u91 :: u92 :: u93 :: u94 :: u95 :: u96 :: u97 :: u98 :: u99 :: u100 :: u101 :: u102 :: u103 :: u104 :: u105 :: u106 :: u107 :: u108 :: u109 :: u110 :: u111 :: u112 :: u113 :: u114 :: u115 :: u116 :: u117 :: u118 :: u119 :: u120 :: u121 :: u122 :: u123 :: u124 :: u125 :: u126 :: u127 :: .func (.func 106) #[] #[] :: u129 :: u130 :: u131 :: u132 :: u133 :: u134 :: u135 :: u136 :: u137 :: u138 :: u139 :: u140 :: u141 :: u142 :: u143 :: u144 :: u145 :: u146 :: u147 :: u148 :: u149 :: u150 :: u151 :: u152 :: u153 :: u154 :: u155 :: u156 :: u157 :: u158 :: u159 :: u160 :: u161 :: u162 :: u163 :: u164 :: u165 :: u166 :: u167 :: u168 :: u169 :: u170 :: u171 :: u172 :: u173 :: u174 :: u175 :: u176 :: u177 :: u178 :: u179 :: u180 :: u181 :: u182 :: u183 :: u184 :: u185 :: u186 :: u187 :: u188 :: u189 :: u190 :: []).toArray, ds'⟩ W') :
    cRf.wp Try.prog Q ⟨(u0 :: u1 :: u2 :: .pointer (some ⟨nb, 0, none⟩) :: u4 :: u5 :: u6 :: u7 :: .pointer (some ⟨bt, 0, none⟩) :: u9 :: .pointer (some ⟨gp, 0, none⟩) :: u11 :: u12 :: u13 :: u14 :: u15 :: .pointer (some ⟨fb, 0, none⟩) :: .pointer (some ⟨p17, 0, none⟩) :: .pointer (some ⟨p18, 0, none⟩) :: .pointer (some ⟨p19, 0, none⟩) :: u20 :: u21 :: u22 :: u23 :: u24 :: u25 :: u26 :: u27 :: u28 :: u29 :: u30 :: u31 :: u32 :: u33 :: u34 :: u35 :: u36 :: u37 :: u38 :: u39 :: u40 :: u41 :: u42 :: u43 :: u44 :: u45 :: u46 :: u47 :: u48 :: u49 :: u50 :: u51 :: u52 :: u53 :: u54 :: u55 :: u56 :: u57 :: u58 :: u59 :: u60 :: u61 :: u62 :: u63 :: u64 :: u65 :: u66 :: u67 :: u68 :: u69 :: u70 :: u71 :: u72 :: u73 :: u74 :: u75 :: u76 :: u77 :: u78 :: u79 :: u80 :: u81 :: u82 :: u83 :: u84 :: u85 :: u86 :: u87 :: u88 :: u89 :: u90 :: u91 :: u92 :: u93 :: u94 :: u95 :: u96 :: u97 :: u98 :: u99 :: u100 :: u101 :: u102 :: u103 :: u104 :: u105 :: u106 :: u107 :: u108 :: u109 :: u110 :: u111 :: u112 :: u113 :: u114 :: u115 :: u116 :: u117 :: u118 :: u119 :: u120 :: u121 :: u122 :: u123 :: u124 :: u125 :: u126 :: u127 :: .func (.func 106) #[] #[] :: u129 :: u130 :: u131 :: u132 :: u133 :: u134 :: u135 :: u136 :: u137 :: u138 :: u139 :: u140 :: u141 :: u142 :: u143 :: u144 :: u145 :: u146 :: u147 :: u148 :: u149 :: u150 :: u151 :: u152 :: u153 :: u154 :: u155 :: u156 :: u157 :: u158 :: u159 :: u160 :: u161 :: u162 :: u163 :: u164 :: u165 :: u166 :: u167 :: u168 :: u169 :: u170 :: u171 :: u172 :: u173 :: u174 :: u175 :: u176 :: u177 :: u178 :: u179 :: u180 :: u181 :: u182 :: u183 :: u184 :: u185 :: u186 :: u187 :: u188 :: u189 :: u190 :: []).toArray, ds⟩ W := by
  have hcode : cRf = .rangeFunc (.tmp 128) #[129] (rfA cRf) (sI cRf) := rfl
  rw [hcode]
  refine (wpIn_wide (n := 0)).1 (wpIn_rangeFunc ?_)
  intro fn _
  obtain ⟨T0, HT0⟩ : ∃ T0 : Array Value, T0 = (u0 :: u1 :: u2 :: .pointer (some ⟨nb, 0, none⟩) :: u4 :: u5 :: u6 :: u7 :: .pointer (some ⟨bt, 0, none⟩) :: u9 :: .pointer (some ⟨gp, 0, none⟩) :: u11 :: u12 :: u13 :: u14 :: u15 :: .pointer (some ⟨fb, 0, none⟩) :: .pointer (some ⟨p17, 0, none⟩) :: .pointer (some ⟨p18, 0, none⟩) :: .pointer (some ⟨p19, 0, none⟩) :: u20 :: u21 :: u22 :: u23 :: u24 :: u25 :: u26 :: u27 :: u28 :: u29 :: u30 :: u31 :: u32 :: u33 :: u34 :: u35 :: u36 :: u37 :: u38 :: u39 :: u40 :: u41 :: u42 :: u43 :: u44 :: u45 :: u46 :: u47 :: u48 :: u49 :: u50 :: u51 :: u52 :: u53 :: u54 :: u55 :: u56 :: u57 :: u58 :: u59 :: u60 :: u61 :: u62 :: u63 :: u64 :: u65 :: u66 :: u67 :: u68 :: u69 :: u70 :: u71 :: u72 :: u73 :: u74 :: u75 :: u76 :: u77 :: u78 :: u79 :: u80 :: u81 :: u82 :: u83 :: u84 :: u85 :: u86 :: u87 :: u88 :: u89 :: u90 :: u91 :: u92 :: u93 :: u94 :: u95 :: u96 :: u97 :: u98 :: u99 :: u100 :: u101 :: u102 :: u103 :: u104 :: u105 :: u106 :: u107 :: u108 :: u109 :: u110 :: u111 :: u112 :: u113 :: u114 :: u115 :: u116 :: u117 :: u118 :: u119 :: u120 :: u121 :: u122 :: u123 :: u124 :: u125 :: u126 :: u127 :: .func (.func 106) #[] #[] :: u129 :: u130 :: u131 :: u132 :: u133 :: u134 :: u135 :: u136 :: u137 :: u138 :: u139 :: u140 :: u141 :: u142 :: u143 :: u144 :: u145 :: u146 :: u147 :: u148 :: u149 :: u150 :: u151 :: u152 :: u153 :: u154 :: u155 :: u156 :: u157 :: u158 :: u159 :: u160 :: u161 :: u162 :: u163 :: u164 :: u165 :: u166 :: u167 :: u168 :: u169 :: u170 :: u171 :: u172 :: u173 :: u174 :: u175 :: u176 :: u177 :: u178 :: u179 :: u180 :: u181 :: u182 :: u183 :: u184 :: u185 :: u186 :: u187 :: u188 :: u189 :: u190 :: []).toArray := ⟨_, rfl⟩
  rw [← HT0]
  obtain ⟨W1, hW1⟩ : ∃ W1, (W.alloc (.deferred (some []))).alloc (.loop (cRec fn W.heap.size T0 .ready none)) = W1 := ⟨_, rfl⟩
  have hlm := hmk.lt
  have hml := hm.lt
  have ho1 : Off [] W.heap.size W W1 := by rw [← hW1]; exact ((Off.refl _ _ _).alloc (Nat.le_refl _) _).alloc (by simp) _
  have hs1 : W1.heap.size = W.heap.size + 2 := by rw [← hW1]; simp
  have hD1 : W1.heap[W.heap.size]? = some (.deferred (some [])) := by rw [← hW1]; exact (Below.heap_alloc _ _ _ (by simp)).trans (World.alloc_heap_new W _)
  have hL1 : W1.heap[W.heap.size + 1]? = some (.loop (cRec fn W.heap.size T0 .ready none)) := by rw [← hW1]; have := World.alloc_heap_new (W.alloc (.deferred (some []))) (.loop (cRec fn W.heap.size T0 .ready none)); rwa [World.size_alloc] at this
  refine ⟨W.heap.size + 1, [Mk W.heap.size], W1, { target := .fn (.func 106) #[], args := #[.func (.yield (W.heap.size + 1)) #[] #[]] }, W1, 106,
    #[.func (.yield (W.heap.size + 1)) #[] #[]], W1, ?_, ?_, fun _ _ => trivial, ?_, fun h => by simp [Fence.wide] at h, ?_⟩
  · rw [← hW1]; exact run_enterLoop_outer _ _ _ _ _
  · simp [resolve, go_sem, HT0]
  · simp [invoke, go_sem]
  refine CallsIn.mono (counts_beans (W.heap.size + 1) (0 - 1) fn W.heap.size W1 v nb V bt gp gb gc fb p17 p18 p19 mn first t gs p lst T0 HT0 hV hgl hvo hx7 hx (env.off ho1 (by simp)) (ho1.blk e17 e17.lt (by simp)) (ho1.blk e18 e18.lt (by simp)) (ho1.blk e19 e19.lt (by simp))
    (ho1.map hm hml (by simp)) hmo hbnd hL1) ?_
  rintro e W2 ⟨⟨x, rfl⟩, ho2, hL2, hm2⟩
  have hend := run_endLoop (P := Try.prog) hL2 (by simp [cRec])
  obtain ⟨W3, hW3⟩ : ∃ W3, W2.putObj (W.heap.size + 1) (.loop { cRec fn W.heap.size T0 .ready none with state := .exhausted }) = W3 := ⟨_, rfl⟩
  rw [hW3] at hend
  have ho3 : Off [mn, W.heap.size + 1] W1.heap.size W1 W3 := by rw [← hW3]; exact ho2.putObj (.inl (by simp)) _
  have hm3 : MapIs W3 mn (addTo gs t V first p lst 2) := by rw [← hW3]; exact (World.putObj_heap_other (by omega)).trans hm2
  refine ⟨none, W3, hend, ?_⟩
  have hd3 : W3.heap[W.heap.size]? = some (.deferred (some [])) := (ho3.block _ (by omega) (by simp; omega)).trans hD1
  have hoW : Off [mn] W.heap.size W W3 := (ho1.mono (Nat.le_refl _) (by simp)).trans (ho3.mono (by omega) (fun k hk e => by simp at e ⊢; omega))
  have hmk3 : Marks base ds W3 := hmk.off hoW (by
    intro k hk x
    simp at hk; subst hk
    rw [show W.heap[k]? = _ from hm]
    simp)
  rw [HT0]
  exact hnext _ _ hoW (hmk3.cons hbase hd3 (fun d hd e => by
    obtain ⟨D, rfl, hD⟩ := hlm d hd
    simp [Mk] at e; omega)) hm3

def seenLen (w : World) (r : Nat) : Nat := match w.heap[r]? with
  | some (.mapIter _ _ s _) => s.size
  | _ => 0
theorem IterIs.len {w : World} {r m n : Nat} {seen : List Nat} (h : IterIs w r m n seen) : seenLen w r = seen.length := by
  obtain ⟨c, -, h⟩ := h
  unfold seenLen
  rw [h]
  simp
theorem IterIs.noC {w : World} {r m n : Nat} {seen : List Nat} (h : IterIs w r m n seen) : NoC w r := by
  obtain ⟨c, -, h⟩ := h
  intro A t f hh
  rw [h] at hh
  cases hh
theorem IterIs.noD {w : World} {r m n : Nat} {seen : List Nat} (h : IterIs w r m n seen) : ∀ x, w.heap[r]? ≠ some (.deferred x) := by
  obtain ⟨c, -, h⟩ := h
  intro x hh
  rw [h] at hh
  cases hh
theorem MapIs.noD {w : World} {m : Nat} {l : List (SL × Nat)} (h : MapIs w m l) : ∀ x, w.heap[m]? ≠ some (.deferred x) := by
  intro x hh
  rw [show w.heap[m]? = _ from h] at hh
  cases hh
theorem IterIs.ne_map {w : World} {r m n m' : Nat} {seen : List Nat} {l : List (SL × Nat)} (h : IterIs w r m n seen) (hm : MapIs w m' l) : r ≠ m' := by
  obtain ⟨c, -, h⟩ := h
  intro e
  subst e
  rw [show w.heap[r]? = _ from hm] at h
  cases h
theorem IterIs.off {w w' : World} {T : List Nat} {k r m n : Nat} {seen : List Nat} (h : IterIs w r m n seen) (ho : Off T k w w') (hr : r < k) (ht : r ∉ T) : IterIs w' r m n seen := by
  obtain ⟨c, hc, h⟩ := h
  exact ⟨c, hc, (ho.block r hr ht).trans h⟩
/-- All states have been. -/
theorem L3.done {gs : List Gr} {t : Ti} {V first : Nat} {W : World} {base r sm mn b : Nat} {l : List (SL × Nat)} {ds : List Deferred} {w : World} {seen : List Nat} {cur : List (SL × Nat)} {S : List SL}
    (h : L3 gs t V first W base r sm mn b l ds w seen cur) (hl : Rep l S) (hall : ∀ i, i < l.length → i ∈ seen) : Rep cur (S.flatMap fun x => [chooseX gs t V first false x, chooseX gs t V first true x]) := by
  have h1 := seen_perm l ([], 0) seen h.nd h.lt hall
  have h2 := h1.flatMap_right (addOf (chooseX gs t V first))
  have h3 := (addOf_all (chooseX gs t V first) l).trans (hl.expand.flatMap_right fun x => [chooseX gs t V first false x, chooseX gs t V first true x])
  exact h.rep.perm (h2.trans h3)

theorem b_beans (w : World) : Calls Try.prog 98 #[] w (Same (.func (.func 106) #[] #[]) w) := by
  go_enter Try.func98, Try.ntmps98
  go_wp2
  go_ret
  exact ⟨rfl, rfl⟩

set_option maxHeartbeats 4000000 in
set_option maxRecDepth 100000 in
theorem counts_l3 {u0 u1 u2 u4 u5 u6 u7 u9 u11 u12 u13 u14 u15 u18 u19 u20 u21 u22 u23 u24 u25 u26 u27 u28 u29 u30 u31 u32 u33 u34 u35 u36 u37 u38 u39 u40 u41 u42 u43 u44 u45 u46 u47 u48 u49 u50 u51 u52 u53 u54 u55 u56 u57 u58 u59 u60 u61 u62 u63 u64 u65 u66 u67 u68 u69 u70 u71 u72 u73 u74 u75 u76 u77 u78 u79 u80 u81 u82 u83 u84 u85 u86 u87 u88 u89 u90 u91 u92 u93 u94 u95 u96 u97 u98 u99 u100 u101 u102 u103 u104 u105 u106 u107 u108 u109 u110 u111 u112 u113 u114 u115 u116 u117 u118 u119 u120 u121 u123 u124 u125 u126 u127 u128 u129 u130 u131 u132 u133 u134 u135 u136 u137 u138 u139 u140 u141 u142 u143 u144 u145 u146 u147 u148 u149 u150 u151 u152 u153 u154 u155 u156 u157 u158 u159 u160 u161 u162 u163 u164 u165 u166 u167 u168 u169 u170 u171 u172 u173 u174 u175 u176 u177 u178 u179 u180 u181 u182 u183 u184 u185 u186 u187 u188 u189 u190 : Value} {ds : List Deferred} (Q : Exit → Act → World → Prop) (W : World) (base v nb V bt gp gb gc fb p17 r sm mn first b : Nat) (t : Ti) (gs : List Gr) (l : List (SL × Nat)) (S : List SL)
    (hV : V ≤ 8) (hgl : gs.length ≤ 7) (hvo : ∀ g ∈ gs, g.1 < 2 ^ 62) (hsmn : sm ≠ mn)
    (env : REnv W v nb bt gp gb gc fb V first t gs) (e17 : Blk W p17 #[.map (some mn)] 127)
    (hl : Rep l S) (hS : S.length ≤ 256) (hll : l.length ≤ 256) (hk : ∀ p ∈ l, ∀ i ∈ p.1, i ≤ b) (hb : b ≤ 800)
    (h0 : L3 gs t V first W base r sm mn b l ds W [] []) (hbase : base ≤ W.heap.size)
    (hexit : ∀ ds' (x18 x19 x123 x124 x125 x126 x127 x128 : Value) W' cur, Marks base ds' W' → Off [mn, r] W.heap.size W W' → MapIs W' mn cur → Rep cur (S.flatMap fun x => [chooseX gs t V first false x, chooseX gs t V first true x]) →
      (∀ p ∈ cur, ∀ i ∈ p.1, i ≤ b + 8) → cur.length ≤ 2 * l.length →
      Q (.exit 4) ⟨(u0 :: u1 :: u2 :: .pointer (some ⟨nb, 0, none⟩) :: u4 :: u5 :: u6 :: u7 :: .pointer (some ⟨bt, 0, none⟩) :: u9 :: .pointer (some ⟨gp, 0, none⟩) :: u11 :: u12 :: u13 :: u14 :: u15 :: .pointer (some ⟨fb, 0, none⟩) :: .pointer (some ⟨p17, 0, none⟩) :: x18 :: x19 :: u20 :: u21 :: u22 :: u23 :: u24 :: u25 :: u26 :: u27 :: u28 :: u29 :: u30 :: u31 :: u32 :: u33 :: u34 :: u35 :: u36 :: u37 :: u38 :: u39 :: u40 :: u41 :: u42 :: u43 :: u44 :: u45 :: u46 :: u47 :: u48 :: u49 :: u50 :: u51 :: u52 :: u53 :: u54 :: u55 :: u56 :: u57 :: u58 :: u59 :: u60 :: u61 :: u62 :: u63 :: u64 :: u65 :: u66 :: u67 :: u68 :: u69 :: u70 :: u71 :: u72 :: u73 :: u74 :: u75 :: u76 :: u77 :: u78 :: u79 :: u80 :: u81 :: u82 :: u83 :: u84 :: u85 :: u86 :: u87 :: u88 :: u89 :: u90 :: u91 :: u92 :: u93 :: u94 :: u95 :: u96 :: u97 :: u98 :: u99 :: u100 :: u101 :: u102 :: u103 :: u104 :: u105 :: u106 :: u107 :: u108 :: u109 :: u110 :: u111 :: u112 :: u113 :: u114 :: u115 :: u116 :: u117 :: u118 :: u119 :: u120 :: u121 :: .pointer (some ⟨r, 0, none⟩) :: x123 :: x124 :: x125 :: x126 :: x127 :: x128 :: u129 :: u130 :: u131 :: u132 :: u133 :: u134 :: u135 :: u136 :: u137 :: u138 :: u139 :: u140 :: u141 :: u142 :: u143 :: u144 :: u145 :: u146 :: u147 :: u148 :: u149 :: u150 :: u151 :: u152 :: u153 :: u154 :: u155 :: u156 :: u157 :: u158 :: u159 :: u160 :: u161 :: u162 :: u163 :: u164 :: u165 :: u166 :: u167 :: u168 :: u169 :: u170 :: u171 :: u172 :: u173 :: u174 :: u175 :: u176 :: u177 :: u178 :: u179 :: u180 :: u181 :: u182 :: u183 :: u184 :: u185 :: u186 :: u187 :: u188 :: u189 :: u190 :: []).toArray, ds'⟩ W') :
    cC.wp Try.prog Q ⟨(u0 :: u1 :: u2 :: .pointer (some ⟨nb, 0, none⟩) :: u4 :: u5 :: u6 :: u7 :: .pointer (some ⟨bt, 0, none⟩) :: u9 :: .pointer (some ⟨gp, 0, none⟩) :: u11 :: u12 :: u13 :: u14 :: u15 :: .pointer (some ⟨fb, 0, none⟩) :: .pointer (some ⟨p17, 0, none⟩) :: u18 :: u19 :: u20 :: u21 :: u22 :: u23 :: u24 :: u25 :: u26 :: u27 :: u28 :: u29 :: u30 :: u31 :: u32 :: u33 :: u34 :: u35 :: u36 :: u37 :: u38 :: u39 :: u40 :: u41 :: u42 :: u43 :: u44 :: u45 :: u46 :: u47 :: u48 :: u49 :: u50 :: u51 :: u52 :: u53 :: u54 :: u55 :: u56 :: u57 :: u58 :: u59 :: u60 :: u61 :: u62 :: u63 :: u64 :: u65 :: u66 :: u67 :: u68 :: u69 :: u70 :: u71 :: u72 :: u73 :: u74 :: u75 :: u76 :: u77 :: u78 :: u79 :: u80 :: u81 :: u82 :: u83 :: u84 :: u85 :: u86 :: u87 :: u88 :: u89 :: u90 :: u91 :: u92 :: u93 :: u94 :: u95 :: u96 :: u97 :: u98 :: u99 :: u100 :: u101 :: u102 :: u103 :: u104 :: u105 :: u106 :: u107 :: u108 :: u109 :: u110 :: u111 :: u112 :: u113 :: u114 :: u115 :: u116 :: u117 :: u118 :: u119 :: u120 :: u121 :: .pointer (some ⟨r, 0, none⟩) :: u123 :: u124 :: u125 :: u126 :: u127 :: u128 :: u129 :: u130 :: u131 :: u132 :: u133 :: u134 :: u135 :: u136 :: u137 :: u138 :: u139 :: u140 :: u141 :: u142 :: u143 :: u144 :: u145 :: u146 :: u147 :: u148 :: u149 :: u150 :: u151 :: u152 :: u153 :: u154 :: u155 :: u156 :: u157 :: u158 :: u159 :: u160 :: u161 :: u162 :: u163 :: u164 :: u165 :: u166 :: u167 :: u168 :: u169 :: u170 :: u171 :: u172 :: u173 :: u174 :: u175 :: u176 :: u177 :: u178 :: u179 :: u180 :: u181 :: u182 :: u183 :: u184 :: u185 :: u186 :: u187 :: u188 :: u189 :: u190 :: []).toArray, ds⟩ W := by
  have hcode : cC = .loop (sI cC) := rfl
  rw [hcode]
  have HE := Lib.hid hexit
  clear hexit
  refine wp_loop (fun a w => ∃ (x18 x19 x123 x124 x125 x126 x127 x128 : Value) (ds' : List Deferred) (seen : List Nat) (cur : List (SL × Nat)), L3 gs t V first W base r sm mn b l ds' w seen cur ∧
    a = ⟨(u0 :: u1 :: u2 :: .pointer (some ⟨nb, 0, none⟩) :: u4 :: u5 :: u6 :: u7 :: .pointer (some ⟨bt, 0, none⟩) :: u9 :: .pointer (some ⟨gp, 0, none⟩) :: u11 :: u12 :: u13 :: u14 :: u15 :: .pointer (some ⟨fb, 0, none⟩) :: .pointer (some ⟨p17, 0, none⟩) :: x18 :: x19 :: u20 :: u21 :: u22 :: u23 :: u24 :: u25 :: u26 :: u27 :: u28 :: u29 :: u30 :: u31 :: u32 :: u33 :: u34 :: u35 :: u36 :: u37 :: u38 :: u39 :: u40 :: u41 :: u42 :: u43 :: u44 :: u45 :: u46 :: u47 :: u48 :: u49 :: u50 :: u51 :: u52 :: u53 :: u54 :: u55 :: u56 :: u57 :: u58 :: u59 :: u60 :: u61 :: u62 :: u63 :: u64 :: u65 :: u66 :: u67 :: u68 :: u69 :: u70 :: u71 :: u72 :: u73 :: u74 :: u75 :: u76 :: u77 :: u78 :: u79 :: u80 :: u81 :: u82 :: u83 :: u84 :: u85 :: u86 :: u87 :: u88 :: u89 :: u90 :: u91 :: u92 :: u93 :: u94 :: u95 :: u96 :: u97 :: u98 :: u99 :: u100 :: u101 :: u102 :: u103 :: u104 :: u105 :: u106 :: u107 :: u108 :: u109 :: u110 :: u111 :: u112 :: u113 :: u114 :: u115 :: u116 :: u117 :: u118 :: u119 :: u120 :: u121 :: .pointer (some ⟨r, 0, none⟩) :: x123 :: x124 :: x125 :: x126 :: x127 :: x128 :: u129 :: u130 :: u131 :: u132 :: u133 :: u134 :: u135 :: u136 :: u137 :: u138 :: u139 :: u140 :: u141 :: u142 :: u143 :: u144 :: u145 :: u146 :: u147 :: u148 :: u149 :: u150 :: u151 :: u152 :: u153 :: u154 :: u155 :: u156 :: u157 :: u158 :: u159 :: u160 :: u161 :: u162 :: u163 :: u164 :: u165 :: u166 :: u167 :: u168 :: u169 :: u170 :: u171 :: u172 :: u173 :: u174 :: u175 :: u176 :: u177 :: u178 :: u179 :: u180 :: u181 :: u182 :: u183 :: u184 :: u185 :: u186 :: u187 :: u188 :: u189 :: u190 :: []).toArray, ds'⟩) (fun _ w => l.length - seenLen w r)
    ⟨u18, u19, u123, u124, u125, u126, u127, u128, ds, [], [], h0, rfl⟩ ?_
  rintro a w ⟨x18, x19, x123, x124, x125, x126, x127, x128, ds', seen, cur, h, rfl⟩
  have hmn := h.nxt
  have hrs := h0.it.lt
  have hWm := h0.nxt.lt
  have hOs := h.off.size
  have hrm : r ≠ mn := h.it.ne_map h.nxt
  have hsm : sm < W.heap.size := h0.src.lt
  have hrn : r ≠ sm := h.it.ne_map h.src
  have hT : ∀ k ∈ [mn, r], NoC W k := by simp; exact ⟨NoC.map h0.nxt, h0.it.noC⟩
  have envw := env.off h.off hT
  have f17 := h.off.blk e17 e17.lt (fun e => (hT _ e).blk e17 rfl)
  have hlen := h.it.len
  have hit := h.it
  have hsrc := h.src
  have lt17 := f17.lt
  have ltm := hmn.lt
  have ltr := hit.lt
  have lts := hsrc.lt
  have hsnl := seen_len h.nd h.lt
  conv => arg 2; whnf
  have HQ7 : Hid (∀ p ∈ l, (lcells p.1).size = 7 ∧ (lcells p.1).all (·.oneCell') = true) := by
    intro p hpm
    have hp7 := (hl.1.1 p hpm).1
    have q2 := ones_st (f7 p.1)
    rw [scells_f7 p.1 hp7] at q2
    exact ⟨by simp [lcells, hp7], q2⟩
  go_wp2_with (first
    | (refine wpList_next_st (.tmp 122) rfl rfl rfl hit hsrc ?_ ?_; intro hall; have HALL := Lib.hid hall; clear hall; rotate_left; intro i p w1 hp hni ht1 hit1 hs1 hen; have q1 := (HQ7.out p (List.mem_of_getElem? hp)).1; have q2 := (HQ7.out p (List.mem_of_getElem? hp)).2; have HT1 := Lib.hid ht1; clear ht1; have HP := Lib.hid hp; clear hp; have HNI := Lib.hid hni; clear hni)
    | (refine wpList_store_blk 126 (.tmp 18) (.tmp 126) agg_st rfl rfl rfl rfl ((Blk.new _ _ _).alloc _) rfl q1 q2 ?_; intro w5 h5; have b19 : Blk w5 (w1.heap.size + 1) #[.int .i64 0] 3 := h5.other (Blk.new' _ _ _ _ (by simp)) (by omega); have c19 := b19.cell; have f19 := b19.free))
  · have hz1 : w1.heap.size = w.heap.size := HT1.out.size
    have ho1 : Off [r] w.heap.size w w1 := (Off.refl _ _ _).turn HT1.out (.inl (by simp))
    have ho5 : Off [] w1.heap.size w1 w5 := (((Off.refl _ _ _).alloc (Nat.le_refl _) _).alloc (by simp) _).rowed h5 (.inr (Nat.le_refl _))
    have b18 := h5.blk
    have hz5 : w5.heap.size = w1.heap.size + 2 := by rw [h5.size]; simp
    have b19' := b19.set 0 (.int .i64 p.2)
    refine (b_beans _).mono ?_
    rintro e w6 ⟨rfl, rfl⟩
    have ho6 : Off [] w1.heap.size w1 (w5.setCell ⟨w1.heap.size + 1, 0, none⟩ (.int .i64 p.2)) := ho5.setCell (.inr (by simp)) _
    have b18' := b18.other (p := ⟨w1.heap.size + 1, 0, none⟩) (by simp) (.int .i64 p.2)
    have hz6 : (w5.setCell ⟨w1.heap.size + 1, 0, none⟩ (.int .i64 p.2)).heap.size = w1.heap.size + 2 := by simp [hz5]
    clear b18 b19 c19 f19 h5 hen
    generalize w5.setCell ⟨w1.heap.size + 1, 0, none⟩ (.int .i64 p.2) = w6 at *
    have ho : Off [r] w.heap.size w w6 := ho1.trans (ho6.mono (by omega) (by simp))
    have hmn6 := ho.map hmn ltm (by simpa using Ne.symm hrm)
    have hs6 := ho.map hsrc lts (by simpa using Ne.symm hrn)
    have hit6 : IterIs w6 r sm l.length (seen ++ [i]) := hit1.off ho6 (by omega) (by simp)
    have hmk6 : Marks base ds' w6 := h.marks.off ho (by intro k hk; simp at hk; subst hk; exact hit.noD)
    have f17' := ho.blk f17 lt17 (by simpa using hit.noC.blk f17)
    have env6 := envw.off ho (by intro k hk; simp at hk; subst hk; exact hit.noC)
    have hpk := hk p (List.mem_of_getElem? HP.out)
    have hp7 := (hl.1.1 p (List.mem_of_getElem? HP.out)).1
    have hsm6 := h.small hl hS hll HP.out
    have HZ1 := Lib.hid hz1
    have HZ6 := Lib.hid hz6
    clear hz1 hz5 hz6
    go_wp2_with fail
    have hz1 := HZ1.out
    have hz6 := HZ6.out
    refine counts_rf _ w6 base v nb V bt gp gb gc fb p17 w1.heap.size (w1.heap.size + 1) mn first t gs p cur hV hgl hvo hp7 (fun j hj => by have := hpk j hj; omega) env6 f17' b18' b19' hmn6 h.rep.1 hsm6 hmk6 (by omega) ?_
    intro ds2 W2 ho2 hmk2 hm2
    have hstep := h.step hV hb HP.out HNI.out hk hmk2 (h.off.trans ((ho.mono hOs (by simp; intro k _ e; exact .inr e)).trans (ho2.mono (by omega) (by simp; intro k _ e; exact .inl e)))) (hit6.off ho2 (by omega) (by simpa using hrm)) (ho2.map hs6 (by omega) (by simpa using hsmn)) hm2
    go_wp2_with fail
    refine ⟨⟨_, _, _, _, _, _, _, _, ds2, _, _, hstep, rfl⟩, ?_⟩
    rw [hstep.it.len, hlen, List.length_append]
    have := seen_len hstep.nd hstep.lt
    rw [List.length_append] at this
    simp at this ⊢
    omega
  · exact HE.out _ _ _ _ _ _ _ _ _ _ _ h.marks h.off h.nxt (h.done hl HALL.out) h.kb (by have := h.len; omega)
end Go.Proofs.Ytjbjmoghloabpaa
set_option linter.unusedVariables false
set_option linter.unusedSimpArgs false
namespace Go.Proofs.Ytjbjmoghloabpaa
open Go.RowKit Go.Proofs
attribute [local irreducible] Ord.walk

/-- What the loop over voters reads. -/
structure GEnv (W : World) (v nb bt gp gb gc V : Nat) (t : Ti) (gs : List Gr) : Prop where
  b3 : Blk W nb #[.pointer (some ⟨v, 0, none⟩)] 63
  vV : W.cell? ⟨v, 0, none⟩ = some (.int .i64 V)
  b8 : Blk W bt (tcells t) 118
  b10 : Blk W gp #[.slice (some ⟨gb, 0, none⟩) gs.length gc] 120
  bg : GrAt W (some ⟨gb, 0, none⟩) gs
  hg1 : 0 < gs.length
theorem GEnv.off {W W' : World} {T : List Nat} {v nb bt gp gb gc V : Nat} {t : Ti} {gs : List Gr} (h : GEnv W v nb bt gp gb gc V t gs) (ho : Off T W.heap.size W W') (hT : ∀ k ∈ T, NoC W k) : GEnv W' v nb bt gp gb gc V t gs := by
  have hblk : ∀ {b : Nat} {A : Array Value} {u : TypeId}, Blk W b A u → b ∉ T := fun hb e => (hT _ e).blk hb rfl
  have hcel : ∀ {a : Addr} {x : Value}, W.cell? a = some x → a.block ∉ T := fun hc e => (hT _ e).cell hc rfl
  obtain ⟨b, o, h0, h1, -⟩ := h.bg 0 h.hg1
  simp only [Option.some.injEq, Addr.mk.injEq] at h0
  obtain ⟨rfl, -, -⟩ := h0
  exact ⟨ho.blk h.b3 h.b3.lt (hblk h.b3), (ho.cell (World.block_lt_of_cell? W _ h.vV) (hcel h.vV)).trans h.vV, ho.blk h.b8 h.b8.lt (hblk h.b8), ho.blk h.b10 h.b10.lt (hblk h.b10),
    h.bg.off ho (World.block_lt_of_cell? W _ h1) (hcel h1), h.hg1⟩
theorem GEnv.renv {W : World} {v nb bt gp gb gc V : Nat} {t : Ti} {gs : List Gr} (h : GEnv W v nb bt gp gb gc V t gs) {fb first : Nat} (hb : Blk W fb #[.int .i64 first] 3) : REnv W v nb bt gp gb gc fb V first t gs := ⟨h.b3, h.vV, h.b8, h.b10, h.bg, h.hg1, hb⟩

theorem statesTo_len (gs : List Gr) (t : Ti) (V k : Nat) : (statesTo gs t V k).length ≤ 2 ^ k := by
  induction k with
  | zero => simp [statesTo]
  | succ k ih =>
    rw [statesTo, Nat.pow_succ]
    split
    · have := flat_len (fun x => [chooseX gs t V k false x, chooseX gs t V k true x]) 2 (statesTo gs t V k) (fun q _ => by simp)
      omega
    · omega

set_option maxHeartbeats 4000000 in
set_option maxRecDepth 100000 in
theorem counts_l2 {u0 u1 u2 u4 u5 u6 u7 u9 u11 u12 u13 u14 u16 u17 u18 u19 u20 u21 u22 u23 u24 u25 u26 u27 u28 u29 u30 u31 u32 u33 u34 u35 u36 u37 u38 u39 u40 u41 u42 u43 u44 u45 u46 u47 u48 u49 u50 u51 u52 u53 u54 u55 u56 u57 u58 u59 u60 u61 u62 u63 u64 u65 u66 u67 u68 u69 u70 u71 u72 u73 u74 u75 u76 u77 u78 u79 u80 u81 u82 u83 u84 u85 u86 u87 u88 u89 u90 u91 u92 u93 u94 u95 u96 u97 u98 u99 u100 u101 u102 u103 u104 u105 u106 u107 u108 u109 u112 u113 u114 u115 u116 u117 u118 u119 u120 u121 u122 u123 u124 u125 u126 u127 u128 u129 u130 u131 u132 u133 u134 u135 u136 u137 u138 u139 u140 u141 u142 u143 u144 u145 u146 u147 u148 u149 u150 u151 u152 u153 u154 u155 u156 u157 u158 u159 u160 u161 u162 u163 u164 u165 u166 u167 u168 u169 u170 u171 u172 u173 u174 u175 u176 u177 u178 u179 u180 u181 u182 u183 u184 u185 u186 u187 u188 u189 u190 : Value} {ds : List Deferred} (Q : Exit → Act → World → Prop) (hP : ∀ c a w, ¬ Q (.panic c) a w) (W : World) (base v nb V bt gp gb gc sm : Nat) (t : Ti) (gs : List Gr) (l0 : List (SL × Nat))
    (hV : V ≤ 8) (hgl : gs.length ≤ 7) (hvo : ∀ g ∈ gs, g.1 < 2 ^ 62)
    (env : GEnv W v nb bt gp gb gc V t gs) (hm : MapIs W sm l0) (hl0 : Rep l0 (statesTo gs t V 0)) (hk0 : ∀ p ∈ l0, ∀ i ∈ p.1, i ≤ 0) (hll0 : l0.length ≤ 1) (hmk : Marks base ds W) (hbase : base ≤ W.heap.size)
    (hexit : ∀ ds' (x16 x17 x18 x19 x111 x112 x113 x114 x115 x116 x117 x118 x119 x120 x121 x122 x123 x124 x125 x126 x127 x128 x166 x167 : Value) W' sm' l, Marks base ds' W' → Off [] W.heap.size W W' → MapIs W' sm' l → Rep l (statesTo gs t V V) → l.length ≤ 256 → sm ≤ sm' →
      Q (.exit 2) ⟨(u0 :: u1 :: u2 :: .pointer (some ⟨nb, 0, none⟩) :: u4 :: u5 :: u6 :: u7 :: .pointer (some ⟨bt, 0, none⟩) :: u9 :: .pointer (some ⟨gp, 0, none⟩) :: u11 :: u12 :: u13 :: u14 :: .map (some sm') :: x16 :: x17 :: x18 :: x19 :: u20 :: u21 :: u22 :: u23 :: u24 :: u25 :: u26 :: u27 :: u28 :: u29 :: u30 :: u31 :: u32 :: u33 :: u34 :: u35 :: u36 :: u37 :: u38 :: u39 :: u40 :: u41 :: u42 :: u43 :: u44 :: u45 :: u46 :: u47 :: u48 :: u49 :: u50 :: u51 :: u52 :: u53 :: u54 :: u55 :: u56 :: u57 :: u58 :: u59 :: u60 :: u61 :: u62 :: u63 :: u64 :: u65 :: u66 :: u67 :: u68 :: u69 :: u70 :: u71 :: u72 :: u73 :: u74 :: u75 :: u76 :: u77 :: u78 :: u79 :: u80 :: u81 :: u82 :: u83 :: u84 :: u85 :: u86 :: u87 :: u88 :: u89 :: u90 :: u91 :: u92 :: u93 :: u94 :: u95 :: u96 :: u97 :: u98 :: u99 :: u100 :: u101 :: u102 :: u103 :: u104 :: u105 :: u106 :: u107 :: u108 :: u109 :: .int .i64 V :: x111 :: x112 :: x113 :: x114 :: x115 :: x116 :: x117 :: x118 :: x119 :: x120 :: x121 :: x122 :: x123 :: x124 :: x125 :: x126 :: x127 :: x128 :: u129 :: u130 :: u131 :: u132 :: u133 :: u134 :: u135 :: u136 :: u137 :: u138 :: u139 :: u140 :: u141 :: u142 :: u143 :: u144 :: u145 :: u146 :: u147 :: u148 :: u149 :: u150 :: u151 :: u152 :: u153 :: u154 :: u155 :: u156 :: u157 :: u158 :: u159 :: u160 :: u161 :: u162 :: u163 :: u164 :: u165 :: x166 :: x167 :: u168 :: u169 :: u170 :: u171 :: u172 :: u173 :: u174 :: u175 :: u176 :: u177 :: u178 :: u179 :: u180 :: u181 :: u182 :: u183 :: u184 :: u185 :: u186 :: u187 :: u188 :: u189 :: u190 :: []).toArray, ds'⟩ W') :
    cB.wp Try.prog Q ⟨(u0 :: u1 :: u2 :: .pointer (some ⟨nb, 0, none⟩) :: u4 :: u5 :: u6 :: u7 :: .pointer (some ⟨bt, 0, none⟩) :: u9 :: .pointer (some ⟨gp, 0, none⟩) :: u11 :: u12 :: u13 :: u14 :: .map (some sm) :: u16 :: u17 :: u18 :: u19 :: u20 :: u21 :: u22 :: u23 :: u24 :: u25 :: u26 :: u27 :: u28 :: u29 :: u30 :: u31 :: u32 :: u33 :: u34 :: u35 :: u36 :: u37 :: u38 :: u39 :: u40 :: u41 :: u42 :: u43 :: u44 :: u45 :: u46 :: u47 :: u48 :: u49 :: u50 :: u51 :: u52 :: u53 :: u54 :: u55 :: u56 :: u57 :: u58 :: u59 :: u60 :: u61 :: u62 :: u63 :: u64 :: u65 :: u66 :: u67 :: u68 :: u69 :: u70 :: u71 :: u72 :: u73 :: u74 :: u75 :: u76 :: u77 :: u78 :: u79 :: u80 :: u81 :: u82 :: u83 :: u84 :: u85 :: u86 :: u87 :: u88 :: u89 :: u90 :: u91 :: u92 :: u93 :: u94 :: u95 :: u96 :: u97 :: u98 :: u99 :: u100 :: u101 :: u102 :: u103 :: u104 :: u105 :: u106 :: u107 :: u108 :: u109 :: .int .i64 V :: .int .i64 0 :: u112 :: u113 :: u114 :: u115 :: u116 :: u117 :: u118 :: u119 :: u120 :: u121 :: u122 :: u123 :: u124 :: u125 :: u126 :: u127 :: u128 :: u129 :: u130 :: u131 :: u132 :: u133 :: u134 :: u135 :: u136 :: u137 :: u138 :: u139 :: u140 :: u141 :: u142 :: u143 :: u144 :: u145 :: u146 :: u147 :: u148 :: u149 :: u150 :: u151 :: u152 :: u153 :: u154 :: u155 :: u156 :: u157 :: u158 :: u159 :: u160 :: u161 :: u162 :: u163 :: u164 :: u165 :: u166 :: u167 :: u168 :: u169 :: u170 :: u171 :: u172 :: u173 :: u174 :: u175 :: u176 :: u177 :: u178 :: u179 :: u180 :: u181 :: u182 :: u183 :: u184 :: u185 :: u186 :: u187 :: u188 :: u189 :: u190 :: []).toArray, ds⟩ W := by
  have hcode : cB = .loop (sI cB) := rfl
  rw [hcode]
  have HE := Lib.hid hexit
  clear hexit
  refine wp_loop (fun a w => ∃ (x15 x16 x17 x18 x19 x111 x112 x113 x114 x115 x116 x117 x118 x119 x120 x121 x122 x123 x124 x125 x126 x127 x128 x166 x167 : Value) (ds' : List Deferred) (k sm' : Nat) (l : List (SL × Nat)),
    ((k ≤ V ∧ x111 = .int .i64 k ∧ x15 = .map (some sm') ∧ sm ≤ sm') ∧ Marks base ds' w ∧ Off [] W.heap.size W w ∧ MapIs w sm' l ∧ Rep l (statesTo gs t V k) ∧ (∀ p ∈ l, ∀ i ∈ p.1, i ≤ 8 * k) ∧ l.length ≤ 2 ^ k) ∧
    a = ⟨(u0 :: u1 :: u2 :: .pointer (some ⟨nb, 0, none⟩) :: u4 :: u5 :: u6 :: u7 :: .pointer (some ⟨bt, 0, none⟩) :: u9 :: .pointer (some ⟨gp, 0, none⟩) :: u11 :: u12 :: u13 :: u14 :: x15 :: x16 :: x17 :: x18 :: x19 :: u20 :: u21 :: u22 :: u23 :: u24 :: u25 :: u26 :: u27 :: u28 :: u29 :: u30 :: u31 :: u32 :: u33 :: u34 :: u35 :: u36 :: u37 :: u38 :: u39 :: u40 :: u41 :: u42 :: u43 :: u44 :: u45 :: u46 :: u47 :: u48 :: u49 :: u50 :: u51 :: u52 :: u53 :: u54 :: u55 :: u56 :: u57 :: u58 :: u59 :: u60 :: u61 :: u62 :: u63 :: u64 :: u65 :: u66 :: u67 :: u68 :: u69 :: u70 :: u71 :: u72 :: u73 :: u74 :: u75 :: u76 :: u77 :: u78 :: u79 :: u80 :: u81 :: u82 :: u83 :: u84 :: u85 :: u86 :: u87 :: u88 :: u89 :: u90 :: u91 :: u92 :: u93 :: u94 :: u95 :: u96 :: u97 :: u98 :: u99 :: u100 :: u101 :: u102 :: u103 :: u104 :: u105 :: u106 :: u107 :: u108 :: u109 :: .int .i64 V :: x111 :: x112 :: x113 :: x114 :: x115 :: x116 :: x117 :: x118 :: x119 :: x120 :: x121 :: x122 :: x123 :: x124 :: x125 :: x126 :: x127 :: x128 :: u129 :: u130 :: u131 :: u132 :: u133 :: u134 :: u135 :: u136 :: u137 :: u138 :: u139 :: u140 :: u141 :: u142 :: u143 :: u144 :: u145 :: u146 :: u147 :: u148 :: u149 :: u150 :: u151 :: u152 :: u153 :: u154 :: u155 :: u156 :: u157 :: u158 :: u159 :: u160 :: u161 :: u162 :: u163 :: u164 :: u165 :: x166 :: x167 :: u168 :: u169 :: u170 :: u171 :: u172 :: u173 :: u174 :: u175 :: u176 :: u177 :: u178 :: u179 :: u180 :: u181 :: u182 :: u183 :: u184 :: u185 :: u186 :: u187 :: u188 :: u189 :: u190 :: []).toArray, ds'⟩) (fun a _ => V - (intOf (a.tmps.getD 111 undef)).toNat)
    ⟨_, u16, u17, u18, u19, _, u112, u113, u114, u115, u116, u117, u118, u119, u120, u121, u122, u123, u124, u125, u126, u127, u128, u166, u167, ds, 0, sm, l0, ⟨⟨by omega, rfl, rfl, Nat.le_refl _⟩, hmk, Off.refl _ _ _, hm, hl0, by simpa using hk0, by simpa using hll0⟩, rfl⟩ ?_
  rintro a w ⟨x15, x16, x17, x18, x19, x111, x112, x113, x114, x115, x116, x117, x118, x119, x120, x121, x122, x123, x124, x125, x126, x127, x128, x166, x167, ds', k, sm', l, ⟨⟨hk, rfl, rfl, hsmle⟩, hmk, ho, hm, hl, hkb, hll⟩, rfl⟩
  have env := env.off ho (by simp)
  have hos := ho.size
  have hmlt := hm.lt
  have hp2 : 2 ^ k ≤ 256 := by have := Nat.pow_le_pow_right (show 0 < 2 by omega) (show k ≤ 8 by omega); simpa using this
  have hSl : (statesTo gs t V k).length ≤ 256 := Nat.le_trans (statesTo_len gs t V k) hp2
  conv => arg 2; whnf
  by_cases hlt : k < V
  · have hlti : (k : Int) < V := by omega
    have hk8 : (k : Int) < 8 := by omega
    have hc1 := tcells_to t k (by omega)
    have hix := index_ties t k (by omega)
    have HST : Hid (statesTo gs t V (k + 1) = if (t k).1 = k then (statesTo gs t V k).flatMap fun x => [chooseX gs t V k false x, chooseX gs t V k true x] else statesTo gs t V k) := rfl
    have r8 := env.b8.cell
    generalize tcells t = TC at hc1 hix r8
    go_wp2_with fail
    obtain ⟨w3, hw3⟩ : ∃ w3, w3 = w.alloc (.cells #[.int .i64 k] 3) := ⟨_, rfl⟩
    have b16 : Blk w3 w.heap.size #[.int .i64 k] 3 := by rw [hw3]; exact Blk.new _ _ _
    have ho3 : Off [] w.heap.size w w3 := by rw [hw3]; exact (Off.refl _ _ _).alloc (Nat.le_refl _) _
    have hs3 : w3.heap.size = w.heap.size + 1 := by rw [hw3]; simp
    rw [← hw3]
    clear hw3
    have env3 := env.off ho3 (by simp)
    have hm3 := ho3.map hm hmlt (by simp)
    have hmk3 := hmk.off ho3 (by simp)
    have c16 := b16.cell
    have c8 : ∀ o, w3.cell? ⟨bt, o, none⟩ = w.cell? ⟨bt, o, none⟩ := fun o => ho3.cell (a := ⟨bt, o, none⟩) env.b8.lt (by simp)
    generalize hws : w.heap.size = fb at *
    have HWS := Lib.hid hws
    have HS3 := Lib.hid hs3
    clear hws hs3
    by_cases hf : (t k).1 = k
    · have hfi : (((t k).1 : Int) != (k : Int)) = false := by simp [hf]
      have hst := HST.out
      rw [if_pos hf] at hst
      clear HST hf
      have HS := Lib.hid hst
      clear hst
      refine Ord.wp_region [(0, 0), (1, 0), (2, 0), (3, 0), (4, 0), (5, 0)] (fun _ => True) (by kernel_rfl) (by kernel_rfl) (fun c a d v w h => (hP _ _ _ h).elim) trivial ?_
      have hmm := @run_makeMap Try.prog
      go_wp2_with (first
        | (refine wpList_range_st (.tmp 121) rfl rfl rfl ((hm3.alloc _).alloc _).drew ?_; intro w4 hw4 hit4 hm4; have HW4 := Lib.hid hw4; clear hw4)
        | ((with_reducible refine Ord.at_calm ?_); refine Ord.calm_skip rfl ?_ (fun K hK => ?_); (focus (simp [Region.wanted, yielded]; done))) | with_reducible refine Ord.walk_calm rfl rfl (fun K hK => ?_) | ((with_reducible refine Ord.at_wild ?_); refine Ord.wild_fieldAddr rfl rfl (fun W => by simp [go_sem]; rfl) (fun K hK => ?_)) | ((with_reducible refine Ord.at_wild ?_); refine Ord.wild_move rfl rfl (fun K hK => ?_)) | ((with_reducible refine Ord.at_wild ?_); refine Ord.wild_nilCheck rfl rfl (fun K hK => ?_)) | with_reducible refine Ord.walk_eff rfl (by first | (simp; done) | assumption | (go_simp; done) | (repeat (first | assumption | exact Below.refl _ _ | refine Below.drew ?_ | refine Below.alloc ?_ (by first | omega | (simp; done) | (simp; omega)) _ | refine Below.setCell ?_ (by first | omega | (simp; done) | (simp; omega)) _ | refine Below.trans ?_ (Below.mono (by assumption) (by first | omega | (simp; done) | (simp; omega)))))) (fun K hK => ?_) | with_reducible refine Ord.at_fork ?_ ?_ | with_reducible refine Ord.walk_nil ?_ | (with_reducible refine Ord.next_of (by first | (simp; done) | (go_simp; done) | (repeat (first | assumption | exact Below.refl _ _ | refine Below.drew ?_ | refine Below.alloc ?_ (by first | omega | (simp; done) | (simp; omega)) _ | refine Below.setCell ?_ (by first | omega | (simp; done) | (simp; omega)) _ | refine Below.trans ?_ (Below.mono (by assumption) (by first | omega | (simp; done) | (simp; omega)))))) (fun _ => ?_)))
      have hw4 := HW4.out
      have hs3 := HS3.out
      have hws := HWS.out
      have e17 : Blk w4 (w3.heap.size + 1) #[.map (some w3.heap.size)] 127 := by rw [hw4]; exact ((Blk.new' _ _ _ _ (by simp)).drew).alloc _
      have hmn4 : MapIs w4 w3.heap.size [] := by rw [hw4]; exact ((((MapIs.new w3).alloc _).drew).alloc _)
      have ho4 : Off [] w3.heap.size w3 w4 := by rw [hw4]; exact ((((Off.refl _ _ _).alloc (Nat.le_refl _) _).alloc (by simp) _).drew).alloc (by simp; omega) _
      have hs4 : w4.heap.size = w3.heap.size + 3 := by rw [hw4]; simp
      have hr : ((w3.alloc (.map #[] 0)).alloc (.cells #[.map (some w3.heap.size)] 127)).drew.heap.size = w3.heap.size + 2 := by simp
      rw [hr] at hit4
      have env4 := (env3.off ho4 (by simp)).renv (ho4.blk b16 b16.lt (by simp))
      have hmk4 := hmk3.off ho4 (by simp)
      have HS4 := Lib.hid hs4
      have HR := Lib.hid hr
      have hml3 := hm3.lt
      clear hw4 HW4 hs3 hws hs4 hr
      go_wp2_with fail
      have hws := HWS.out
      have hs3 := HS3.out
      have hs4 := HS4.out
      go_frame
      rw [HR.out]
      refine counts_l3 _ w4 base v nb V bt gp gb gc fb (w3.heap.size + 1) (w3.heap.size + 2) sm' w3.heap.size k (8 * k) t gs l (statesTo gs t V k) hV hgl hvo (by omega) env4 e17 hl hSl (by omega) hkb (by omega)
        ⟨hmk4, Off.refl _ _ _, hit4, List.nodup_nil, by simp, hm4, hmn4, Rep.nil, by simp, by simp⟩ (by omega) ?_
      intro ds5 y18 y19 y123 y124 y125 y126 y127 y128 w5 cur hmk5 ho5 hmn5 hl5 hkb5 hll5
      have c17 := (ho5.blk e17 (by omega) (by simp)).cell
      have HO5 : Off [] W.heap.size W w5 := ho.trans ((ho3.mono (by omega) (by simp)).trans ((ho4.mono (by omega) (by simp)).trans (ho5.mono (by omega) (by simp; omega))))
      clear hs3 hs4 hws
      go_wp2_with fail
      refine ⟨⟨_, _, _, _, _, _, _, _, _, _, _, _, _, _, _, _, _, _, _, _, _, _, _, _, _, ds5, k + 1, w3.heap.size, cur, ⟨⟨by omega, by go_num, rfl, by have := HWS.out; have := HS3.out; omega⟩, hmk5, HO5, hmn5, by rw [HS.out]; exact hl5, fun p hp i hi => by have := hkb5 p hp i hi; omega, by rw [Nat.pow_succ]; omega⟩, rfl⟩, by simp [intOf]; omega⟩
    · have hfi : (((t k).1 : Int) != (k : Int)) = true := by simp; omega
      have hst := HST.out
      rw [if_neg hf] at hst
      clear HST hf
      have HS := Lib.hid hst
      clear hst
      refine Ord.wp_region [(0, 0), (1, 0), (2, 0), (3, 0), (4, 0), (5, 0)] (fun _ => True) (by kernel_rfl) (by kernel_rfl) (fun c a d v w h => (hP _ _ _ h).elim) trivial ?_
      go_wp2_with (first | ((with_reducible refine Ord.at_calm ?_); refine Ord.calm_skip rfl ?_ (fun K hK => ?_); (focus (simp [Region.wanted, yielded]; done))) | with_reducible refine Ord.walk_calm rfl rfl (fun K hK => ?_) | ((with_reducible refine Ord.at_wild ?_); refine Ord.wild_fieldAddr rfl rfl (fun W => by simp [go_sem]; rfl) (fun K hK => ?_)) | ((with_reducible refine Ord.at_wild ?_); refine Ord.wild_move rfl rfl (fun K hK => ?_)) | ((with_reducible refine Ord.at_wild ?_); refine Ord.wild_nilCheck rfl rfl (fun K hK => ?_)) | with_reducible refine Ord.walk_eff rfl (by first | (simp; done) | assumption | (go_simp; done) | (repeat (first | assumption | exact Below.refl _ _ | refine Below.drew ?_ | refine Below.alloc ?_ (by first | omega | (simp; done) | (simp; omega)) _ | refine Below.setCell ?_ (by first | omega | (simp; done) | (simp; omega)) _ | refine Below.trans ?_ (Below.mono (by assumption) (by first | omega | (simp; done) | (simp; omega)))))) (fun K hK => ?_) | with_reducible refine Ord.at_fork ?_ ?_ | with_reducible refine Ord.walk_nil ?_ | (with_reducible refine Ord.next_of (by first | (simp; done) | (go_simp; done) | (repeat (first | assumption | exact Below.refl _ _ | refine Below.drew ?_ | refine Below.alloc ?_ (by first | omega | (simp; done) | (simp; omega)) _ | refine Below.setCell ?_ (by first | omega | (simp; done) | (simp; omega)) _ | refine Below.trans ?_ (Below.mono (by assumption) (by first | omega | (simp; done) | (simp; omega)))))) (fun _ => ?_)))
      refine ⟨⟨_, _, _, _, _, _, _, _, _, _, _, _, _, _, _, _, _, _, _, _, _, _, _, _, _, ds', k + 1, sm', l, ⟨⟨by omega, by go_num, rfl, hsmle⟩, hmk3, (ho.trans (ho3.mono (by have := HWS.out; omega) (by simp))).drew, hm3.drew, by rw [HS.out]; exact hl, fun p hp i hi => by have := hkb p hp i hi; omega, by rw [Nat.pow_succ]; omega⟩, rfl⟩, by simp [intOf]; omega⟩
  · have hkl : k = V := by omega
    subst hkl
    go_wp2_with fail
    exact HE.out _ _ _ _ _ _ _ _ _ _ _ _ _ _ _ _ _ _ _ _ _ _ _ _ _ _ _ _ hmk ho hm hl (by omega) hsmle
end Go.Proofs.Ytjbjmoghloabpaa
