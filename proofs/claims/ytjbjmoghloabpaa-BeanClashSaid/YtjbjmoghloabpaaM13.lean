/- Parts of a proof: BnP. -/
import Derived.Test.YtjbjmoghloabpaaM12
/- counts: the last loop. -/
set_option linter.unusedVariables false
set_option linter.unusedSimpArgs false
namespace Go.Proofs.Ytjbjmoghloabpaa
open Go.RowKit Go.Proofs
attribute [local irreducible] Ord.walk

def ocells (c : Nat → Nat) : Array Value := #[.int .i64 (c 0), .int .i64 (c 1), .int .i64 (c 2), .int .i64 (c 3), .int .i64 (c 4), .int .i64 (c 5), .int .i64 (c 6), .int .i64 (c 7), .int .i64 (c 8)]
theorem ocells_at (c : Nat → Nat) (i : Nat) (h : i < 9) : (ocells c)[i]? = some (.int .i64 (c i)) := cells9 c i h
theorem ocells_set (c : Nat → Nat) (i n : Nat) (h : i < 9) : (ocells c).setIfInBounds i (.int .i64 n) = ocells (fun j => if j = i then n else c j) := by
  rcases (show i = 0 ∨ i = 1 ∨ i = 2 ∨ i = 3 ∨ i = 4 ∨ i = 5 ∨ i = 6 ∨ i = 7 ∨ i = 8 by omega) with rfl | rfl | rfl | rfl | rfl | rfl | rfl | rfl | rfl <;> simp [ocells]
theorem lcells_zero {x : SL} (h : x.length = 7) : (lcells x)[0]? = some (.int .i64 (f7 x 0)) := by
  rw [← scells_f7 x h]; rfl
theorem outN_add (gs : List Gr) (S : List SL) (x : SL) (n j : Nat) : outN gs (S ++ List.replicate n x) j = outN gs S j + if fitsB gs (f7 x) = true ∧ f7 x 0 = j then n else 0 := by
  unfold outN
  rw [List.countP_append, List.countP_replicate]
  congr 1
  simp only [Bool.and_eq_true, beq_iff_eq]
theorem outN_perm {gs : List Gr} {S T : List SL} (h : S.Perm T) (j : Nat) : outN gs S j = outN gs T j := h.countP_eq _
theorem outN_le (gs : List Gr) (S : List SL) (j : Nat) : outN gs S j ≤ S.length := List.countP_le_length
/-- The states of the entries that have been. -/
def been (l : List (SL × Nat)) (seen : List Nat) : List SL := (seen.map fun i => l.getD i ([], 0)).flatMap fun p => List.replicate p.2 p.1
theorem been_snoc {l : List (SL × Nat)} {seen : List Nat} {i : Nat} {p : SL × Nat} (hp : l[i]? = some p) : been l (seen ++ [i]) = been l seen ++ List.replicate p.2 p.1 := by
  unfold been
  have : l.getD i ([], 0) = p := by rw [List.getD_eq_getElem?_getD, hp]; rfl
  rw [List.map_append, List.flatMap_append, List.map_singleton, List.flatMap_singleton, this]
/-- What the last loop keeps. -/
structure L5 (gs : List Gr) (W : World) (ob r sm : Nat) (l : List (SL × Nat)) (w : World) (seen : List Nat) : Prop where
  off : Off [ob, r] W.heap.size W w
  it : IterIs w r sm l.length seen
  nd : seen.Nodup
  lt : ∀ i ∈ seen, i < l.length
  src : MapIs w sm l
  out : Blk w ob (ocells (outN gs (been l seen))) 62
theorem been_len {l : List (SL × Nat)} {S : List SL} (hl : Rep l S) (hS : S.length ≤ 256) (hll : l.length ≤ 256) {seen : List Nat} (hn : seen.Nodup) (hlt : ∀ i ∈ seen, i < l.length) : (been l seen).length ≤ 256 * 256 := by
  have h4 := flat_len (fun p : SL × Nat => List.replicate p.2 p.1) 256 (seen.map fun i => l.getD i ([], 0)) (fun q hq => by
    obtain ⟨i, hi, rfl⟩ := List.mem_map.1 hq
    have hil := hlt i hi
    have : l[i]? = some (l.getD i ([], 0)) := by rw [List.getD_eq_getElem?_getD]; simp [hil]
    have h6 := hl.val_le this
    rw [List.length_replicate]; omega)
  rw [List.length_map] at h4
  have h2 := seen_len hn hlt
  have h5 : seen.length * 256 ≤ 256 * 256 := Nat.mul_le_mul_right _ (by omega)
  exact Nat.le_trans h4 h5
theorem L5.done {gs : List Gr} {W : World} {ob r sm : Nat} {l : List (SL × Nat)} {w : World} {seen : List Nat} {S : List SL} (h : L5 gs W ob r sm l w seen) (hl : Rep l S) (hall : ∀ i, i < l.length → i ∈ seen) : outN gs (been l seen) = outN gs S := by
  funext j
  have h1 := (seen_perm l ([], 0) seen h.nd h.lt hall).flatMap_right fun p : SL × Nat => List.replicate p.2 p.1
  exact outN_perm (h1.trans hl.expand) j

theorem L5.step {gs : List Gr} {W : World} {ob r sm : Nat} {l : List (SL × Nat)} {w w' : World} {seen : List Nat} {i : Nat} {p : SL × Nat} (h : L5 gs W ob r sm l w seen) (hp : l[i]? = some p) (hi : i ∉ seen)
    (ho : Off [ob, r] W.heap.size W w') (hit : IterIs w' r sm l.length (seen ++ [i])) (hs : MapIs w' sm l) (hb : Blk w' ob (ocells (fun j => outN gs (been l seen) j + if fitsB gs (f7 p.1) = true ∧ f7 p.1 0 = j then p.2 else 0)) 62) : L5 gs W ob r sm l w' (seen ++ [i]) := by
  have hil := (List.getElem?_eq_some_iff.1 hp).1
  refine ⟨ho, hit, ?_, ?_, hs, ?_⟩
  · rw [List.nodup_append]
    exact ⟨h.nd, by simp, by intro a ha c hc e; simp at hc; subst hc; subst e; exact hi ha⟩
  · intro j hj
    rcases List.mem_append.1 hj with hj | hj
    · exact h.lt j hj
    · simp at hj; omega
  · have : (outN gs (been l (seen ++ [i]))) = fun j => outN gs (been l seen) j + if fitsB gs (f7 p.1) = true ∧ f7 p.1 0 = j then p.2 else 0 := by
      funext j
      rw [been_snoc hp, outN_add]
    rw [this]; exact hb
theorem fits_zero {gs : List Gr} {s : St} {g : Gr} (h : fitsB gs s = true) (h0 : gs[0]? = some g) : (s 0 : Int) ≤ g.2.2 := by
  unfold fitsB fitsTo at h
  rw [List.all_eq_true] at h
  have hl := (List.getElem?_eq_some_iff.1 h0).1
  have := h 0 (List.mem_range.2 hl)
  simp only [h0] at this
  unfold inB at this
  simp at this
  exact this.2

set_option maxHeartbeats 4000000 in
set_option maxRecDepth 100000 in
theorem counts_l5 {u0 u1 u2 u3 u4 u5 u7 u8 u9 u11 u12 u13 u14 u15 u16 u17 u18 u19 u20 u21 u22 u23 u24 u25 u26 u27 u28 u29 u30 u31 u32 u33 u34 u35 u36 u37 u38 u39 u40 u41 u42 u43 u44 u45 u46 u47 u48 u49 u50 u51 u52 u53 u54 u55 u56 u57 u58 u59 u60 u61 u62 u63 u64 u65 u66 u67 u68 u69 u70 u71 u72 u73 u74 u75 u76 u77 u78 u79 u80 u81 u82 u83 u84 u85 u86 u87 u88 u89 u90 u91 u92 u93 u94 u95 u96 u97 u98 u99 u100 u101 u102 u103 u104 u105 u106 u107 u108 u109 u110 u111 u112 u113 u114 u115 u116 u117 u118 u119 u120 u121 u122 u123 u124 u125 u126 u127 u128 u129 u130 u131 u132 u133 u134 u135 u136 u137 u138 u139 u140 u141 u142 u143 u144 u145 u146 u147 u148 u149 u150 u151 u152 u153 u154 u155 u156 u157 u158 u159 u160 u161 u162 u163 u164 u165 u166 u167 u168 u170 u171 u172 u173 u174 u175 u176 u177 u178 u179 u180 u181 u182 u183 u184 u185 u186 u187 u188 u189 u190 : Value} {ds : List Deferred} (Q : Exit → Act → World → Prop) (hP : ∀ c a w, ¬ Q (.panic c) a w) (W : World) (ob gp gb gc r sm : Nat) (gs : List Gr) (l : List (SL × Nat)) (S : List SL)
    (hgl : gs.length ≤ 7) (hg0 : ∃ g, gs[0]? = some g ∧ 0 ≤ g.2.1 ∧ g.2.2 ≤ 8)
    (b10 : Blk W gp #[.slice (some ⟨gb, 0, none⟩) gs.length gc] 120) (bg : GrAt W (some ⟨gb, 0, none⟩) gs) (d1 : gp ≠ ob) (d2 : gb ≠ ob)
    (hl : Rep l S) (hS : S.length ≤ 256) (hll : l.length ≤ 256)
    (h0 : L5 gs W ob r sm l W [])
    (hexit : ∀ (x23 x24 x170 x171 x172 x173 x174 x175 x176 x177 x178 x179 x180 x181 x182 x183 x184 x185 x186 x187 x188 x189 : Value) W', Off [ob, r] W.heap.size W W' → Blk W' ob (ocells (outN gs S)) 62 →
      Q (.exit 10) ⟨(u0 :: u1 :: u2 :: u3 :: u4 :: u5 :: .pointer (some ⟨ob, 0, none⟩) :: u7 :: u8 :: u9 :: .pointer (some ⟨gp, 0, none⟩) :: u11 :: u12 :: u13 :: u14 :: u15 :: u16 :: u17 :: u18 :: u19 :: u20 :: u21 :: u22 :: x23 :: x24 :: u25 :: u26 :: u27 :: u28 :: u29 :: u30 :: u31 :: u32 :: u33 :: u34 :: u35 :: u36 :: u37 :: u38 :: u39 :: u40 :: u41 :: u42 :: u43 :: u44 :: u45 :: u46 :: u47 :: u48 :: u49 :: u50 :: u51 :: u52 :: u53 :: u54 :: u55 :: u56 :: u57 :: u58 :: u59 :: u60 :: u61 :: u62 :: u63 :: u64 :: u65 :: u66 :: u67 :: u68 :: u69 :: u70 :: u71 :: u72 :: u73 :: u74 :: u75 :: u76 :: u77 :: u78 :: u79 :: u80 :: u81 :: u82 :: u83 :: u84 :: u85 :: u86 :: u87 :: u88 :: u89 :: u90 :: u91 :: u92 :: u93 :: u94 :: u95 :: u96 :: u97 :: u98 :: u99 :: u100 :: u101 :: u102 :: u103 :: u104 :: u105 :: u106 :: u107 :: u108 :: u109 :: u110 :: u111 :: u112 :: u113 :: u114 :: u115 :: u116 :: u117 :: u118 :: u119 :: u120 :: u121 :: u122 :: u123 :: u124 :: u125 :: u126 :: u127 :: u128 :: u129 :: u130 :: u131 :: u132 :: u133 :: u134 :: u135 :: u136 :: u137 :: u138 :: u139 :: u140 :: u141 :: u142 :: u143 :: u144 :: u145 :: u146 :: u147 :: u148 :: u149 :: u150 :: u151 :: u152 :: u153 :: u154 :: u155 :: u156 :: u157 :: u158 :: u159 :: u160 :: u161 :: u162 :: u163 :: u164 :: u165 :: u166 :: u167 :: u168 :: .pointer (some ⟨r, 0, none⟩) :: x170 :: x171 :: x172 :: x173 :: x174 :: x175 :: x176 :: x177 :: x178 :: x179 :: x180 :: x181 :: x182 :: x183 :: x184 :: x185 :: x186 :: x187 :: x188 :: x189 :: u190 :: []).toArray, ds⟩ W') :
    cE.wp Try.prog Q ⟨(u0 :: u1 :: u2 :: u3 :: u4 :: u5 :: .pointer (some ⟨ob, 0, none⟩) :: u7 :: u8 :: u9 :: .pointer (some ⟨gp, 0, none⟩) :: u11 :: u12 :: u13 :: u14 :: u15 :: u16 :: u17 :: u18 :: u19 :: u20 :: u21 :: u22 :: u23 :: u24 :: u25 :: u26 :: u27 :: u28 :: u29 :: u30 :: u31 :: u32 :: u33 :: u34 :: u35 :: u36 :: u37 :: u38 :: u39 :: u40 :: u41 :: u42 :: u43 :: u44 :: u45 :: u46 :: u47 :: u48 :: u49 :: u50 :: u51 :: u52 :: u53 :: u54 :: u55 :: u56 :: u57 :: u58 :: u59 :: u60 :: u61 :: u62 :: u63 :: u64 :: u65 :: u66 :: u67 :: u68 :: u69 :: u70 :: u71 :: u72 :: u73 :: u74 :: u75 :: u76 :: u77 :: u78 :: u79 :: u80 :: u81 :: u82 :: u83 :: u84 :: u85 :: u86 :: u87 :: u88 :: u89 :: u90 :: u91 :: u92 :: u93 :: u94 :: u95 :: u96 :: u97 :: u98 :: u99 :: u100 :: u101 :: u102 :: u103 :: u104 :: u105 :: u106 :: u107 :: u108 :: u109 :: u110 :: u111 :: u112 :: u113 :: u114 :: u115 :: u116 :: u117 :: u118 :: u119 :: u120 :: u121 :: u122 :: u123 :: u124 :: u125 :: u126 :: u127 :: u128 :: u129 :: u130 :: u131 :: u132 :: u133 :: u134 :: u135 :: u136 :: u137 :: u138 :: u139 :: u140 :: u141 :: u142 :: u143 :: u144 :: u145 :: u146 :: u147 :: u148 :: u149 :: u150 :: u151 :: u152 :: u153 :: u154 :: u155 :: u156 :: u157 :: u158 :: u159 :: u160 :: u161 :: u162 :: u163 :: u164 :: u165 :: u166 :: u167 :: u168 :: .pointer (some ⟨r, 0, none⟩) :: u170 :: u171 :: u172 :: u173 :: u174 :: u175 :: u176 :: u177 :: u178 :: u179 :: u180 :: u181 :: u182 :: u183 :: u184 :: u185 :: u186 :: u187 :: u188 :: u189 :: u190 :: []).toArray, ds⟩ W := by
  have HE := Lib.hid hexit
  clear hexit
  obtain ⟨g0, hg00, hlo, hhi⟩ := hg0
  have hgb : gb < W.heap.size := by
    have hp : 0 < gs.length := by
      rcases Nat.eq_zero_or_pos gs.length with h | h
      · rw [List.length_eq_zero_iff.1 h] at hg00; cases hg00
      · exact h
    obtain ⟨b, o, h0, h1, -⟩ := bg 0 hp
    simp only [Option.some.injEq, Addr.mk.injEq] at h0
    obtain ⟨rfl, -, -⟩ := h0
    exact World.block_lt_of_cell? W _ h1
  have hr : r < W.heap.size := h0.it.lt
  have hrC : NoC W r := h0.it.noC
  have hrg : gb ≠ r := by
    intro e
    have hp : 0 < gs.length := by
      rcases Nat.eq_zero_or_pos gs.length with h | h
      · rw [List.length_eq_zero_iff.1 h] at hg00; cases hg00
      · exact h
    obtain ⟨b, o, h0, h1, -⟩ := bg 0 hp
    simp only [Option.some.injEq, Addr.mk.injEq] at h0
    obtain ⟨rfl, -, -⟩ := h0
    exact hrC.cell h1 e
  have hrp := hrC.blk b10
  have hro := hrC.blk h0.out
  have lt10 := b10.lt
  conv => arg 2; whnf
  go_loopw [170] (fun _ wr => ∃ seen, L5 gs W ob r sm l wr seen) (fun _ wr => l.length - seenLen wr r)
  case atStart => exact ⟨[], h0⟩
  case round =>
    clear h0
    obtain ⟨seen, h⟩ := hrel
    have e10 := h.off.blk b10 lt10 (by simp; exact ⟨d1, hrp⟩)
    have eg := bg.off h.off hgb (by simp; exact ⟨d2, hrg⟩)
    have hit := h.it
    have hsrc := h.src
    have hlen := hit.len
    have r10 := e10.cell
    have ltr := hit.lt
    have lto := h.out.lt
    have hos := h.off.size
    have HQ7 : Hid (∀ p ∈ l, (lcells p.1).size = 7 ∧ (lcells p.1).all (·.oneCell') = true) := by
      intro p hpm
      have hp7 := (hl.1.1 p hpm).1
      have q2 := ones_st (f7 p.1)
      rw [scells_f7 p.1 hp7] at q2
      exact ⟨by simp [lcells, hp7], q2⟩
    go_wp2_with (first
      | (refine wpList_next_st (.tmp 169) rfl rfl rfl hit hsrc ?_ ?_; intro hall; have HALL := Lib.hid hall; clear hall; rotate_left; intro i p w1 hp hni ht1 hit1 hs1 hen; have q1 := (HQ7.out p (List.mem_of_getElem? hp)).1; have q2 := (HQ7.out p (List.mem_of_getElem? hp)).2; have HT1 := Lib.hid ht1; clear ht1; have HP := Lib.hid hp; clear hp; have HNI := Lib.hid hni; clear hni)
      | (refine wpList_store_blk 126 (.tmp 23) (.tmp 173) agg_st rfl rfl rfl rfl (Blk.new _ _ _) rfl q1 q2 ?_; intro w5 h5; have g10 := h5.other ((HT1.out.blk e10 hrp).alloc _) (by have := HT1.out.size; omega); have c10 := g10.cell)
      | (refine wpList_load_blk 126 (.tmp 23) agg_st rfl rfl rfl h5.blk q1 ?_))
    · have hz1 : w1.heap.size = wr.heap.size := HT1.out.size
      have ho5 : Off [r] wr.heap.size wr w5 := (((Off.refl _ _ _).turn HT1.out (.inl (by simp))).alloc (by omega) _).rowed h5 (.inr (by omega))
      have b23 := h5.blk
      have hz5 : w5.heap.size = w1.heap.size + 1 := by rw [h5.size]; simp
      have bg5 := eg.off ho5 (by omega) (by simpa using hrg)
      have hp7 := (hl.1.1 p (List.mem_of_getElem? HP.out)).1
      have hfit := b_sfits (f7 p.1) (some ⟨gb, 0, none⟩) gc gs hgl w5 bg5
      rw [scells_f7 p.1 hp7] at hfit
      refine hfit.mono ?_
      clear hfit
      rintro e w6 ⟨rfl, hb6⟩
      have ho6 := Off.of_below (T := []) hb6 (Nat.le_refl _)
      have hO : Off [r] wr.heap.size wr w6 := ho5.trans (ho6.mono (by omega) (by simp))
      have hO2 : Off [ob, r] W.heap.size W w6 := h.off.trans (hO.mono (by omega) (by simp; intro k _ e; exact .inr e))
      have ho16 : Off [] w1.heap.size w1 w6 := (((Off.refl [] w1.heap.size w1).alloc (Nat.le_refl _) _).rowed h5 (.inr (Nat.le_refl _))).trans (ho6.mono (by omega) (by simp))
      have hit6 : IterIs w6 r sm l.length (seen ++ [i]) := hit1.off ho16 (by omega) (by simp)
      have hs6 : MapIs w6 sm l := ho16.map hs1 hs1.lt (by simp)
      have b23' := b23.below hb6 (by omega)
      have bo := hO.blk h.out lto (by simpa using hro)
      have c23 : w6.cell? ⟨w1.heap.size, 0, none⟩ = some (.int .i64 (f7 p.1 0)) := (b23'.cell 0).trans (lcells_zero hp7)
      have hbl := been_len hl hS hll h.nd h.lt
      have hn := hl.val_le HP.out
      have hol := outN_le gs (been l seen) (f7 p.1 0)
      have hm6 : seenLen w6 r = seen.length + 1 := by rw [hit6.len]; simp
      have hsl : seen.length + 1 ≤ l.length := by
        have := seen_len (seen := seen ++ [i]) (n := l.length) (by rw [List.nodup_append]; exact ⟨h.nd, by simp, by intro a ha c hc e; simp at hc; subst hc; subst e; exact HNI.out ha⟩) (by
          intro j hj
          rcases List.mem_append.1 hj with hj | hj
          · exact h.lt j hj
          · simp at hj; subst hj; exact (List.getElem?_eq_some_iff.1 HP.out).1)
        simpa using this
      have ltx : w1.heap.size < w6.heap.size := b23'.lt
      have lto6 : ob < w6.heap.size := bo.lt
      have hxo : w1.heap.size ≠ ob := by omega
      clear c10 g10 h5 b23 r10 hen
      have HZ1 := Lib.hid hz1
      have HZ5 := Lib.hid hz5
      have HM6 := Lib.hid hm6
      clear hz1 hz5 hm6
      cases hfb : fitsB gs (f7 p.1)
      · have HFB := Lib.hid hfb
        clear hfb
        go_wp2_with fail
        refine ⟨⟨_, h.step HP.out HNI.out hO2 hit6 hs6 ?_⟩, ?_⟩
        · rw [HFB.out]; simpa using bo
        · rw [HM6.out, hlen]; omega
      · have hs8 := fits_zero hfb hg00
        have HFB := Lib.hid hfb
        clear hfb
        have h9 : f7 p.1 0 < 9 := by omega
        have co : w6.cell? ⟨ob, f7 p.1 0, none⟩ = some (.int .i64 (outN gs (been l seen) (f7 p.1 0))) := (bo.cell _).trans (ocells_at _ _ h9)
        have cf := bo.free
        have hst := Lib.hid (ocells_set (outN gs (been l seen)) (f7 p.1 0) (outN gs (been l seen) (f7 p.1 0) + p.2) h9)
        generalize hs0 : f7 p.1 0 = s0 at *
        generalize hcs : outN gs (been l seen) s0 = cs at *
        have HS0 := Lib.hid hs0
        have HCS := Lib.hid hcs
        clear hs0 hcs
        have h9i : (s0 : Int) < 9 := by omega
        have hsum : Hid (∀ W' a, IntsAt W' a [cs, p.2] → Calls Try.prog 66 #[.slice a 2 2] W' (Same (.int .i64 ((cs + p.2 : Nat) : Int)) W')) := by
          intro W' a hI
          have := b_sum [cs, p.2] a 2 (by simp) (by simp; omega) W' hI
          simpa using this
        generalize hcn : cs + p.2 = cn at *
        have HCN := Lib.hid hcn
        clear hcn
        have HT := Lib.hid two_at
        go_wp2_with fail
        refine Ord.wp_region [(0, 1), (1, 1), (2, 1), (3, 0), (4, 0), (5, 0), (6, 0), (7, 0), (8, 0), (9, 2), (10, 0), (11, 0), (12, 2)] (fun W => Off [ob] w6.heap.size w6 W) (by kernel_rfl) (by kernel_rfl) (fun c a d v w h => (hP _ _ _ h).elim) (Off.refl _ _ _).drew ?_
        go_wp2_with (first
          | ((with_reducible refine Ord.at_wild ?_); refine Ord.wild_load (ad := ⟨w1.heap.size, 0, none⟩) (.int .i64 s0) rfl rfl ?_ ?_; (focus (intro W hW; have cW := hW.cell (a := ⟨w1.heap.size, 0, none⟩) ltx (by simpa using hxo); simp [go_sem, cW, c23]; done)); intro K hK)
          | ((with_reducible refine Ord.at_wild ?_); refine Ord.wild_idx (.pointer (some ⟨w1.heap.size, 0, none⟩)) rfl ?_ ?_; (focus (intro W hW; simp [go_sem, go_sem]; done)); intro K hK)
          | ((with_reducible refine Ord.at_wild ?_); refine Ord.wild_idx (.pointer (some ⟨ob, s0, none⟩)) rfl ?_ ?_; (focus (intro W hW; simp [go_sem, h9i]; done)); intro K hK)
          | ((with_reducible refine Ord.next_of ?_ (fun hOF => ?_)); (focus (first | exact ((Off.refl _ _ w6).alloc (Nat.le_refl _) _).drew | exact (((Off.refl _ _ w6).setCell (.inl (by simp)) _).alloc (by simp) _).drew)))
          | ((with_reducible refine Ord.walk_eff rfl ?_ (fun K hK => ?_)); (focus (first | assumption | exact (Off.refl _ _ _).drew)))
          | ((with_reducible refine Ord.at_calm ?_); refine Ord.calm_skip rfl ?_ (fun K hK => ?_); (focus (simp [Region.wanted, yielded]; done))) | with_reducible refine Ord.walk_calm rfl rfl (fun K hK => ?_) | ((with_reducible refine Ord.at_wild ?_); refine Ord.wild_fieldAddr rfl rfl (fun W => by simp [go_sem]; rfl) (fun K hK => ?_)) | ((with_reducible refine Ord.at_wild ?_); refine Ord.wild_move rfl rfl (fun K hK => ?_)) | ((with_reducible refine Ord.at_wild ?_); refine Ord.wild_nilCheck rfl rfl (fun K hK => ?_)) | with_reducible refine Ord.walk_eff rfl (by first | (simp; done) | assumption | (go_simp; done) | (repeat (first | assumption | exact Below.refl _ _ | refine Below.drew ?_ | refine Below.alloc ?_ (by first | omega | (simp; done) | (simp; omega)) _ | refine Below.setCell ?_ (by first | omega | (simp; done) | (simp; omega)) _ | refine Below.trans ?_ (Below.mono (by assumption) (by first | omega | (simp; done) | (simp; omega)))))) (fun K hK => ?_) | with_reducible refine Ord.at_fork ?_ ?_ | with_reducible refine Ord.walk_nil ?_ | (with_reducible refine Ord.next_of (by first | (simp; done) | (go_simp; done) | (repeat (first | assumption | exact Below.refl _ _ | refine Below.drew ?_ | refine Below.alloc ?_ (by first | omega | (simp; done) | (simp; omega)) _ | refine Below.setCell ?_ (by first | omega | (simp; done) | (simp; omega)) _ | refine Below.trans ?_ (Below.mono (by assumption) (by first | omega | (simp; done) | (simp; omega)))))) (fun _ => ?_))
          | ((with_reducible refine Ord.at_calm ?_); refine Ord.calm_call rfl (fun W => Try.call66 _ W) (hsum.out _ _ (HT.out _ _ _ _)) (fun K hK => ?_)) | ((with_reducible refine Ord.at_wild ?_); refine Ord.wild_call rfl (fun W => Try.call66 _ W) (fun W hW => hsum.out _ _ (HT.out _ _ _ _)) (fun K hK => ?_)))
        have hoE : Off [ob] w6.heap.size w6 ((w6.setCell ⟨ob, s0, none⟩ (.int .i64 cn)).alloc (.cells #[.int .i64 cs, .int .i64 p.2] 3)).drew := (((Off.refl _ _ w6).setCell (.inl (by simp)) _).alloc (by simp) _).drew
        have hitE : IterIs ((w6.setCell ⟨ob, s0, none⟩ (.int .i64 cn)).alloc (.cells #[.int .i64 cs, .int .i64 p.2] 3)).drew r sm l.length (seen ++ [i]) := hit6.off hoE hit6.lt (by simpa using Ne.symm hro)
        refine ⟨⟨_, h.step HP.out HNI.out (hO2.trans (hoE.mono hO2.size (by simp; intro k _ e; exact .inl e))) hitE (hoE.map hs6 hs6.lt (by
          intro e; simp at e; subst e; exact (NoC.map hs6).blk bo rfl)) ?_⟩, ?_⟩
        · have b1 : Blk ((w6.setCell ⟨ob, s0, none⟩ (.int .i64 cn)).alloc (.cells #[.int .i64 cs, .int .i64 p.2] 3)).drew ob ((ocells (outN gs (been l seen))).setIfInBounds s0 (.int .i64 cn)) 62 := ((bo.set _ _).alloc _).drew
          rw [hst.out] at b1
          have e1 : (fun j => outN gs (been l seen) j + if fitsB gs (f7 p.1) = true ∧ f7 p.1 0 = j then p.2 else 0) = fun j => if j = s0 then cn else outN gs (been l seen) j := by
            funext j
            rw [HFB.out, HS0.out]
            by_cases hj : j = s0
            · subst hj; rw [if_pos ⟨rfl, rfl⟩, if_pos rfl, HCS.out, HCN.out]
            · rw [if_neg (fun e => hj e.2.symm), if_neg hj, Nat.add_zero]
          rw [e1]; exact b1
        · rw [hitE.len, hlen, List.length_append]; simp; omega
    · exact HE.out _ _ _ _ _ _ _ _ _ _ _ _ _ _ _ _ _ _ _ _ _ _ _ h.off (by rw [← h.done hl HALL.out]; exact h.out)
end Go.Proofs.Ytjbjmoghloabpaa
