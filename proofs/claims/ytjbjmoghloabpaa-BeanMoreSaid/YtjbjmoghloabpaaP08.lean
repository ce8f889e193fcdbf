/- Parts of a proof: BnP, BnQ. -/
import Derived.Test.YtjbjmoghloabpaaP07
import Derived.Maps.AppendAt
import Derived.Laws.AppendOwnNone
set_option linter.unusedVariables false
set_option linter.unusedSimpArgs false
namespace Go.Proofs.Ytjbjmoghloabpaa
open Go.RowKit Go.Proofs
attribute [local irreducible] Ord.walk

def ocells (c : Nat → Nat) : Array Value := #[.int .i64 (c 0), .int .i64 (c 1), .int .i64 (c 2), .int .i64 (c 3), .int .i64 (c 4), .int .i64 (c 5), .int .i64 (c 6), .int .i64 (c 7), .int .i64 (c 8)]
theorem ocells_at (c : Nat → Nat) (i : Nat) (h : i < 9) : (ocells c)[i]? = some (.int .i64 (c i)) := cells9 c i h
theorem ocells_set (c : Nat → Nat) (i n : Nat) (h : i < 9) : (ocells c).setIfInBounds i (.int .i64 n) = ocells (fun j => if j = i then n else c j) := by
  rcases (show i = 0 ∨ i = 1 ∨ i = 2 ∨ i = 3 ∨ i = 4 ∨ i = 5 ∨ i = 6 ∨ i = 7 ∨ i = 8 by omega) with rfl | rfl | rfl | rfl | rfl | rfl | rfl | rfl | rfl <;> simp [ocells]
theorem lcells_zero {x : SL} (h : x.length = 7) : (lcells x)[0]? = some (.int .i64 (f7 x 0)) := by
  rw [← scells_f7 x h]; rfl
theorem outN_add (gs : List Gr) (S : List SL) (x : SL) (n j : Nat) : outN gs (S ++ List.replicate n x) j = outN gs S j + if fitsB gs (f7 x) = true ∧ f7 x 0 = j then n else 0 := by
  unfold outN
  rw [List.countP_append, List.countP_replicate]
  congr 1
  simp only [Bool.and_eq_true, beq_iff_eq]
theorem outN_perm {gs : List Gr} {S T : List SL} (h : S.Perm T) (j : Nat) : outN gs S j = outN gs T j := h.countP_eq _
theorem outN_le (gs : List Gr) (S : List SL) (j : Nat) : outN gs S j ≤ S.length := List.countP_le_length
/-- The states of the entries that have been. -/
def been (l : List (SL × Nat)) (seen : List Nat) : List SL := (seen.map fun i => l.getD i ([], 0)).flatMap fun p => List.replicate p.2 p.1
theorem been_snoc {l : List (SL × Nat)} {seen : List Nat} {i : Nat} {p : SL × Nat} (hp : l[i]? = some p) : been l (seen ++ [i]) = been l seen ++ List.replicate p.2 p.1 := by
  unfold been
  have : l.getD i ([], 0) = p := by rw [List.getD_eq_getElem?_getD, hp]; rfl
  rw [List.map_append, List.flatMap_append, List.map_singleton, List.flatMap_singleton, this]
/-- What the last loop keeps. -/
structure L5 (gs : List Gr) (W : World) (ob r sm : Nat) (l : List (SL × Nat)) (w : World) (seen : List Nat) : Prop where
  off : Off [ob, r] W.heap.size W w
  it : IterIs w r sm l.length seen
  nd : seen.Nodup
  lt : ∀ i ∈ seen, i < l.length
  src : MapIs w sm l
  out : Blk w ob (ocells (outN gs (been l seen))) 62
theorem been_len {l : List (SL × Nat)} {S : List SL} (hl : Rep l S) (hS : S.length ≤ 256) (hll : l.length ≤ 256) {seen : List Nat} (hn : seen.Nodup) (hlt : ∀ i ∈ seen, i < l.length) : (been l seen).length ≤ 256 * 256 := by
  have h4 := flat_len (fun p : SL × Nat => List.replicate p.2 p.1) 256 (seen.map fun i => l.getD i ([], 0)) (fun q hq => by
    obtain ⟨i, hi, rfl⟩ := List.mem_map.1 hq
    have hil := hlt i hi
    have : l[i]? = some (l.getD i ([], 0)) := by rw [List.getD_eq_getElem?_getD]; simp [hil]
    have h6 := hl.val_le this
    rw [List.length_replicate]; omega)
  rw [List.length_map] at h4
  have h2 := seen_len hn hlt
  have h5 : seen.length * 256 ≤ 256 * 256 := Nat.mul_le_mul_right _ (by omega)
  exact Nat.le_trans h4 h5
theorem L5.done {gs : List Gr} {W : World} {ob r sm : Nat} {l : List (SL × Nat)} {w : World} {seen : List Nat} {S : List SL} (h : L5 gs W ob r sm l w seen) (hl : Rep l S) (hall : ∀ i, i < l.length → i ∈ seen) : outN gs (been l seen) = outN gs S := by
  funext j
  have h1 := (seen_perm l ([], 0) seen h.nd h.lt hall).flatMap_right fun p : SL × Nat => List.replicate p.2 p.1
  exact outN_perm (h1.trans hl.expand) j

theorem L5.step {gs : List Gr} {W : World} {ob r sm : Nat} {l : List (SL × Nat)} {w w' : World} {seen : List Nat} {i : Nat} {p : SL × Nat} (h : L5 gs W ob r sm l w seen) (hp : l[i]? = some p) (hi : i ∉ seen)
    (ho : Off [ob, r] W.heap.size W w') (hit : IterIs w' r sm l.length (seen ++ [i])) (hs : MapIs w' sm l) (hb : Blk w' ob (ocells (fun j => outN gs (been l seen) j + if fitsB gs (f7 p.1) = true ∧ f7 p.1 0 = j then p.2 else 0)) 62) : L5 gs W ob r sm l w' (seen ++ [i]) := by
  have hil := (List.getElem?_eq_some_iff.1 hp).1
  refine ⟨ho, hit, ?_, ?_, hs, ?_⟩
  · rw [List.nodup_append]
    exact ⟨h.nd, by simp, by intro a ha c hc e; simp at hc; subst hc; subst e; exact hi ha⟩
  · intro j hj
    rcases List.mem_append.1 hj with hj | hj
    · exact h.lt j hj
    · simp at hj; omega
  · have : (outN gs (been l (seen ++ [i]))) = fun j => outN gs (been l seen) j + if fitsB gs (f7 p.1) = true ∧ f7 p.1 0 = j then p.2 else 0 := by
      funext j
      rw [been_snoc hp, outN_add]
    rw [this]; exact hb
theorem fits_zero {gs : List Gr} {s : St} {g : Gr} (h : fitsB gs s = true) (h0 : gs[0]? = some g) : (s 0 : Int) ≤ g.2.2 := by
  unfold fitsB fitsTo at h
  rw [List.all_eq_true] at h
  have hl := (List.getElem?_eq_some_iff.1 h0).1
  have := h 0 (List.mem_range.2 hl)
  simp only [h0] at this
  unfold inB at this
  simp at this
  exact this.2

set_option maxHeartbeats 4000000 in
set_option maxRecDepth 100000 in
theorem counts_l5 {u0 u1 u2 u3 u4 u5 u7 u8 u9 u11 u12 u13 u14 u15 u16 u17 u18 u19 u20 u21 u22 u23 u24 u25 u26 u27 u28 u29 u30 u31 u32 u33 u34 u35 u36 u37 u38 u39 u40 u41 u42 u43 u44 u45 u46 u47 u48 u49 u50 u51 u52 u53 u54 u55 u56 u57 u58 u59 u60 u61 u62 u63 u64 u65 u66 u67 u68 u69 u70 u71 u72 u73 u74 u75 u76 u77 u78 u79 u80 u81 u82 u83 u84 u85 u86 u87 u88 u89 u90 u91 u92 u93 u94 u95 u96 u97 u98 u99 u100 u101 u102 u103 u104 u105 u106 u107 u108 u109 u110 u111 u112 u113 u114 u115 u116 u117 u118 u119 u120 u121 u122 u123 u124 u125 u126 u127 u128 u129 u130 u131 u132 u133 u134 u135 u136 u137 u138 u139 u140 u141 u142 u143 u144 u145 u146 u147 u148 u149 u150 u151 u152 u153 u154 u155 u156 u157 u158 u159 u160 u161 u162 u163 u164 u165 u166 u167 u168 u170 u171 u172 u173 u174 u175 u176 u177 u178 u179 u180 u181 u182 u183 u184 u185 u186 u187 u188 u189 u190 : Value} {ds : List Deferred} (Q : Exit → Act → World → Prop) (hP : ∀ c a w, ¬ Q (.panic c) a w) (W : World) (ob gp gb gc r sm : Nat) (gs : List Gr) (l : List (SL × Nat)) (S : List SL)
    (hgl : gs.length ≤ 7) (hg0 : ∃ g, gs[0]? = some g ∧ 0 ≤ g.2.1 ∧ g.2.2 ≤ 8)
    (b10 : Blk W gp #[.slice (some ⟨gb, 0, none⟩) gs.length gc] 120) (bg : GrAt W (some ⟨gb, 0, none⟩) gs) (d1 : gp ≠ ob) (d2 : gb ≠ ob)
    (hl : Rep l S) (hS : S.length ≤ 256) (hll : l.length ≤ 256)
    (h0 : L5 gs W ob r sm l W [])
    (hexit : ∀ (x23 x24 x170 x171 x172 x173 x174 x175 x176 x177 x178 x179 x180 x181 x182 x183 x184 x185 x186 x187 x188 x189 : Value) W', Off [ob, r] W.heap.size W W' → Blk W' ob (ocells (outN gs S)) 62 →
      Q (.exit 10) ⟨(u0 :: u1 :: u2 :: u3 :: u4 :: u5 :: .pointer (some ⟨ob, 0, none⟩) :: u7 :: u8 :: u9 :: .pointer (some ⟨gp, 0, none⟩) :: u11 :: u12 :: u13 :: u14 :: u15 :: u16 :: u17 :: u18 :: u19 :: u20 :: u21 :: u22 :: x23 :: x24 :: u25 :: u26 :: u27 :: u28 :: u29 :: u30 :: u31 :: u32 :: u33 :: u34 :: u35 :: u36 :: u37 :: u38 :: u39 :: u40 :: u41 :: u42 :: u43 :: u44 :: u45 :: u46 :: u47 :: u48 :: u49 :: u50 :: u51 :: u52 :: u53 :: u54 :: u55 :: u56 :: u57 :: u58 :: u59 :: u60 :: u61 :: u62 :: u63 :: u64 :: u65 :: u66 :: u67 :: u68 :: u69 :: u70 :: u71 :: u72 :: u73 :: u74 :: u75 :: u76 :: u77 :: u78 :: u79 :: u80 :: u81 :: u82 :: u83 :: u84 :: u85 :: u86 :: u87 :: u88 :: u89 :: u90 :: u91 :: u92 :: u93 :: u94 :: u95 :: u96 :: u97 :: u98 :: u99 :: u100 :: u101 :: u102 :: u103 :: u104 :: u105 :: u106 :: u107 :: u108 :: u109 :: u110 :: u111 :: u112 :: u113 :: u114 :: u115 :: u116 :: u117 :: u118 :: u119 :: u120 :: u121 :: u122 :: u123 :: u124 :: u125 :: u126 :: u127 :: u128 :: u129 :: u130 :: u131 :: u132 :: u133 :: u134 :: u135 :: u136 :: u137 :: u138 :: u139 :: u140 :: u141 :: u142 :: u143 :: u144 :: u145 :: u146 :: u147 :: u148 :: u149 :: u150 :: u151 :: u152 :: u153 :: u154 :: u155 :: u156 :: u157 :: u158 :: u159 :: u160 :: u161 :: u162 :: u163 :: u164 :: u165 :: u166 :: u167 :: u168 :: .pointer (some ⟨r, 0, none⟩) :: x170 :: x171 :: x172 :: x173 :: x174 :: x175 :: x176 :: x177 :: x178 :: x179 :: x180 :: x181 :: x182 :: x183 :: x184 :: x185 :: x186 :: x187 :: x188 :: x189 :: u190 :: []).toArray, ds⟩ W') :
    cE.wp Try.prog Q ⟨(u0 :: u1 :: u2 :: u3 :: u4 :: u5 :: .pointer (some ⟨ob, 0, none⟩) :: u7 :: u8 :: u9 :: .pointer (some ⟨gp, 0, none⟩) :: u11 :: u12 :: u13 :: u14 :: u15 :: u16 :: u17 :: u18 :: u19 :: u20 :: u21 :: u22 :: u23 :: u24 :: u25 :: u26 :: u27 :: u28 :: u29 :: u30 :: u31 :: u32 :: u33 :: u34 :: u35 :: u36 :: u37 :: u38 :: u39 :: u40 :: u41 :: u42 :: u43 :: u44 :: u45 :: u46 :: u47 :: u48 :: u49 :: u50 :: u51 :: u52 :: u53 :: u54 :: u55 :: u56 :: u57 :: u58 :: u59 :: u60 :: u61 :: u62 :: u63 :: u64 :: u65 :: u66 :: u67 :: u68 :: u69 :: u70 :: u71 :: u72 :: u73 :: u74 :: u75 :: u76 :: u77 :: u78 :: u79 :: u80 :: u81 :: u82 :: u83 :: u84 :: u85 :: u86 :: u87 :: u88 :: u89 :: u90 :: u91 :: u92 :: u93 :: u94 :: u95 :: u96 :: u97 :: u98 :: u99 :: u100 :: u101 :: u102 :: u103 :: u104 :: u105 :: u106 :: u107 :: u108 :: u109 :: u110 :: u111 :: u112 :: u113 :: u114 :: u115 :: u116 :: u117 :: u118 :: u119 :: u120 :: u121 :: u122 :: u123 :: u124 :: u125 :: u126 :: u127 :: u128 :: u129 :: u130 :: u131 :: u132 :: u133 :: u134 :: u135 :: u136 :: u137 :: u138 :: u139 :: u140 :: u141 :: u142 :: u143 :: u144 :: u145 :: u146 :: u147 :: u148 :: u149 :: u150 :: u151 :: u152 :: u153 :: u154 :: u155 :: u156 :: u157 :: u158 :: u159 :: u160 :: u161 :: u162 :: u163 :: u164 :: u165 :: u166 :: u167 :: u168 :: .pointer (some ⟨r, 0, none⟩) :: u170 :: u171 :: u172 :: u173 :: u174 :: u175 :: u176 :: u177 :: u178 :: u179 :: u180 :: u181 :: u182 :: u183 :: u184 :: u185 :: u186 :: u187 :: u188 :: u189 :: u190 :: []).toArray, ds⟩ W := by
  have HE := Lib.hid hexit
  clear hexit
  obtain ⟨g0, hg00, hlo, hhi⟩ := hg0
  have hgb : gb < W.heap.size := by
    have hp : 0 < gs.length := by
      rcases Nat.eq_zero_or_pos gs.length with h | h
      · rw [List.length_eq_zero_iff.1 h] at hg00; cases hg00
      · exact h
    obtain ⟨b, o, h0, h1, -⟩ := bg 0 hp
    simp only [Option.some.injEq, Addr.mk.injEq] at h0
    obtain ⟨rfl, -, -⟩ := h0
    exact World.block_lt_of_cell? W _ h1
  have hr : r < W.heap.size := h0.it.lt
  have hrC : NoC W r := h0.it.noC
  have hrg : gb ≠ r := by
    intro e
    have hp : 0 < gs.length := by
      rcases Nat.eq_zero_or_pos gs.length with h | h
      · rw [List.length_eq_zero_iff.1 h] at hg00; cases hg00
      · exact h
    obtain ⟨b, o, h0, h1, -⟩ := bg 0 hp
    simp only [Option.some.injEq, Addr.mk.injEq] at h0
    obtain ⟨rfl, -, -⟩ := h0
    exact hrC.cell h1 e
  have hrp := hrC.blk b10
  have hro := hrC.blk h0.out
  have lt10 := b10.lt
  conv => arg 2; whnf
  go_loopw [170] (fun _ wr => ∃ seen, L5 gs W ob r sm l wr seen) (fun _ wr => l.length - seenLen wr r)
  case atStart => exact ⟨[], h0⟩
  case round =>
    clear h0
    obtain ⟨seen, h⟩ := hrel
    have e10 := h.off.blk b10 lt10 (by simp; exact ⟨d1, hrp⟩)
    have eg := bg.off h.off hgb (by simp; exact ⟨d2, hrg⟩)
    have hit := h.it
    have hsrc := h.src
    have hlen := hit.len
    have r10 := e10.cell
    have ltr := hit.lt
    have lto := h.out.lt
    have hos := h.off.size
    have HQ7 : Hid (∀ p ∈ l, (lcells p.1).size = 7 ∧ (lcells p.1).all (·.oneCell') = true) := by
      intro p hpm
      have hp7 := (hl.1.1 p hpm).1
      have q2 := ones_st (f7 p.1)
      rw [scells_f7 p.1 hp7] at q2
      exact ⟨by simp [lcells, hp7], q2⟩
    go_wp2_with (first
      | (refine wpList_next_st (.tmp 169) rfl rfl rfl hit hsrc ?_ ?_; intro hall; have HALL := Lib.hid hall; clear hall; rotate_left; intro i p w1 hp hni ht1 hit1 hs1 hen; have q1 := (HQ7.out p (List.mem_of_getElem? hp)).1; have q2 := (HQ7.out p (List.mem_of_getElem? hp)).2; have HT1 := Lib.hid ht1; clear ht1; have HP := Lib.hid hp; clear hp; have HNI := Lib.hid hni; clear hni)
      | (refine wpList_store_blk 126 (.tmp 23) (.tmp 173) agg_st rfl rfl rfl rfl (Blk.new _ _ _) rfl q1 q2 ?_; intro w5 h5; have g10 := h5.other ((HT1.out.blk e10 hrp).alloc _) (by have := HT1.out.size; omega); have c10 := g10.cell)
      | (refine wpList_load_blk 126 (.tmp 23) agg_st rfl rfl rfl h5.blk q1 ?_))
    · have hz1 : w1.heap.size = wr.heap.size := HT1.out.size
      have ho5 : Off [r] wr.heap.size wr w5 := (((Off.refl _ _ _).turn HT1.out (.inl (by simp))).alloc (by omega) _).rowed h5 (.inr (by omega))
      have b23 := h5.blk
      have hz5 : w5.heap.size = w1.heap.size + 1 := by rw [h5.size]; simp
      have bg5 := eg.off ho5 (by omega) (by simpa using hrg)
      have hp7 := (hl.1.1 p (List.mem_of_getElem? HP.out)).1
      have hfit := b_sfits (f7 p.1) (some ⟨gb, 0, none⟩) gc gs hgl w5 bg5
      rw [scells_f7 p.1 hp7] at hfit
      refine hfit.mono ?_
      clear hfit
      rintro e w6 ⟨rfl, hb6⟩
      have ho6 := Off.of_below (T := []) hb6 (Nat.le_refl _)
      have hO : Off [r] wr.heap.size wr w6 := ho5.trans (ho6.mono (by omega) (by simp))
      have hO2 : Off [ob, r] W.heap.size W w6 := h.off.trans (hO.mono (by omega) (by simp; intro k _ e; exact .inr e))
      have ho16 : Off [] w1.heap.size w1 w6 := (((Off.refl [] w1.heap.size w1).alloc (Nat.le_refl _) _).rowed h5 (.inr (Nat.le_refl _))).trans (ho6.mono (by omega) (by simp))
      have hit6 : IterIs w6 r sm l.length (seen ++ [i]) := hit1.off ho16 (by omega) (by simp)
      have hs6 : MapIs w6 sm l := ho16.map hs1 hs1.lt (by simp)
      have b23' := b23.below hb6 (by omega)
      have bo := hO.blk h.out lto (by simpa using hro)
      have c23 : w6.cell? ⟨w1.heap.size, 0, none⟩ = some (.int .i64 (f7 p.1 0)) := (b23'.cell 0).trans (lcells_zero hp7)
      have hbl := been_len hl hS hll h.nd h.lt
      have hn := hl.val_le HP.out
      have hol := outN_le gs (been l seen) (f7 p.1 0)
      have hm6 : seenLen w6 r = seen.length + 1 := by rw [hit6.len]; simp
      have hsl : seen.length + 1 ≤ l.length := by
        have := seen_len (seen := seen ++ [i]) (n := l.length) (by rw [List.nodup_append]; exact ⟨h.nd, by simp, by intro a ha c hc e; simp at hc; subst hc; subst e; exact HNI.out ha⟩) (by
          intro j hj
          rcases List.mem_append.1 hj with hj | hj
          · exact h.lt j hj
          · simp at hj; subst hj; exact (List.getElem?_eq_some_iff.1 HP.out).1)
        simpa using this
      have ltx : w1.heap.size < w6.heap.size := b23'.lt
      have lto6 : ob < w6.heap.size := bo.lt
      have hxo : w1.heap.size ≠ ob := by omega
      clear c10 g10 h5 b23 r10 hen
      have HZ1 := Lib.hid hz1
      have HZ5 := Lib.hid hz5
      have HM6 := Lib.hid hm6
      clear hz1 hz5 hm6
      cases hfb : fitsB gs (f7 p.1)
      · have HFB := Lib.hid hfb
        clear hfb
        go_wp2_with fail
        refine ⟨⟨_, h.step HP.out HNI.out hO2 hit6 hs6 ?_⟩, ?_⟩
        · rw [HFB.out]; simpa using bo
        · rw [HM6.out, hlen]; omega
      · have hs8 := fits_zero hfb hg00
        have HFB := Lib.hid hfb
        clear hfb
        have h9 : f7 p.1 0 < 9 := by omega
        have co : w6.cell? ⟨ob, f7 p.1 0, none⟩ = some (.int .i64 (outN gs (been l seen) (f7 p.1 0))) := (bo.cell _).trans (ocells_at _ _ h9)
        have cf := bo.free
        have hst := Lib.hid (ocells_set (outN gs (been l seen)) (f7 p.1 0) (outN gs (been l seen) (f7 p.1 0) + p.2) h9)
        generalize hs0 : f7 p.1 0 = s0 at *
        generalize hcs : outN gs (been l seen) s0 = cs at *
        have HS0 := Lib.hid hs0
        have HCS := Lib.hid hcs
        clear hs0 hcs
        have h9i : (s0 : Int) < 9 := by omega
        have hsum : Hid (∀ W' a, IntsAt W' a [cs, p.2] → Calls Try.prog 66 #[.slice a 2 2] W' (Same (.int .i64 ((cs + p.2 : Nat) : Int)) W')) := by
          intro W' a hI
          have := b_sum [cs, p.2] a 2 (by simp) (by simp; omega) W' hI
          simpa using this
        generalize hcn : cs + p.2 = cn at *
        have HCN := Lib.hid hcn
        clear hcn
        have HT := Lib.hid two_at
        go_wp2_with fail
        refine Ord.wp_region [(0, 1), (1, 1), (2, 1), (3, 0), (4, 0), (5, 0), (6, 0), (7, 0), (8, 0), (9, 2), (10, 0), (11, 0), (12, 2)] (fun W => Off [ob] w6.heap.size w6 W) (by kernel_rfl) (by kernel_rfl) (fun c a d v w h => (hP _ _ _ h).elim) (Off.refl _ _ _).drew ?_
        go_wp2_with (first
          | ((with_reducible refine Ord.at_wild ?_); refine Ord.wild_load (ad := ⟨w1.heap.size, 0, none⟩) (.int .i64 s0) rfl rfl ?_ ?_; (focus (intro W hW; have cW := hW.cell (a := ⟨w1.heap.size, 0, none⟩) ltx (by simpa using hxo); simp [go_sem, cW, c23]; done)); intro K hK)
          | ((with_reducible refine Ord.at_wild ?_); refine Ord.wild_idx (.pointer (some ⟨w1.heap.size, 0, none⟩)) rfl ?_ ?_; (focus (intro W hW; simp [go_sem, go_sem]; done)); intro K hK)
          | ((with_reducible refine Ord.at_wild ?_); refine Ord.wild_idx (.pointer (some ⟨ob, s0, none⟩)) rfl ?_ ?_; (focus (intro W hW; simp [go_sem, h9i]; done)); intro K hK)
          | ((with_reducible refine Ord.next_of ?_ (fun hOF => ?_)); (focus (first | exact ((Off.refl _ _ w6).alloc (Nat.le_refl _) _).drew | exact (((Off.refl _ _ w6).setCell (.inl (by simp)) _).alloc (by simp) _).drew)))
          | ((with_reducible refine Ord.walk_eff rfl ?_ (fun K hK => ?_)); (focus (first | assumption | exact (Off.refl _ _ _).drew)))
          | ((with_reducible refine Ord.at_calm ?_); refine Ord.calm_skip rfl ?_ (fun K hK => ?_); (focus (simp [Region.wanted, yielded]; done))) | with_reducible refine Ord.walk_calm rfl rfl (fun K hK => ?_) | ((with_reducible refine Ord.at_wild ?_); refine Ord.wild_fieldAddr rfl rfl (fun W => by simp [go_sem]; rfl) (fun K hK => ?_)) | ((with_reducible refine Ord.at_wild ?_); refine Ord.wild_move rfl rfl (fun K hK => ?_)) | ((with_reducible refine Ord.at_wild ?_); refine Ord.wild_nilCheck rfl rfl (fun K hK => ?_)) | with_reducible refine Ord.walk_eff rfl (by first | (simp; done) | assumption | (go_simp; done) | (repeat (first | assumption | exact Below.refl _ _ | refine Below.drew ?_ | refine Below.alloc ?_ (by first | omega | (simp; done) | (simp; omega)) _ | refine Below.setCell ?_ (by first | omega | (simp; done) | (simp; omega)) _ | refine Below.trans ?_ (Below.mono (by assumption) (by first | omega | (simp; done) | (simp; omega)))))) (fun K hK => ?_) | with_reducible refine Ord.at_fork ?_ ?_ | with_reducible refine Ord.walk_nil ?_ | (with_reducible refine Ord.next_of (by first | (simp; done) | (go_simp; done) | (repeat (first | assumption | exact Below.refl _ _ | refine Below.drew ?_ | refine Below.alloc ?_ (by first | omega | (simp; done) | (simp; omega)) _ | refine Below.setCell ?_ (by first | omega | (simp; done) | (simp; omega)) _ | refine Below.trans ?_ (Below.mono (by assumption) (by first | omega | (simp; done) | (simp; omega)))))) (fun _ => ?_))
          | ((with_reducible refine Ord.at_calm ?_); refine Ord.calm_call rfl (fun W => Try.call66 _ W) (hsum.out _ _ (HT.out _ _ _ _)) (fun K hK => ?_)) | ((with_reducible refine Ord.at_wild ?_); refine Ord.wild_call rfl (fun W => Try.call66 _ W) (fun W hW => hsum.out _ _ (HT.out _ _ _ _)) (fun K hK => ?_)))
        have hoE : Off [ob] w6.heap.size w6 ((w6.setCell ⟨ob, s0, none⟩ (.int .i64 cn)).alloc (.cells #[.int .i64 cs, .int .i64 p.2] 3)).drew := (((Off.refl _ _ w6).setCell (.inl (by simp)) _).alloc (by simp) _).drew
        have hitE : IterIs ((w6.setCell ⟨ob, s0, none⟩ (.int .i64 cn)).alloc (.cells #[.int .i64 cs, .int .i64 p.2] 3)).drew r sm l.length (seen ++ [i]) := hit6.off hoE hit6.lt (by simpa using Ne.symm hro)
        refine ⟨⟨_, h.step HP.out HNI.out (hO2.trans (hoE.mono hO2.size (by simp; intro k _ e; exact .inl e))) hitE (hoE.map hs6 hs6.lt (by
          intro e; simp at e; subst e; exact (NoC.map hs6).blk bo rfl)) ?_⟩, ?_⟩
        · have b1 : Blk ((w6.setCell ⟨ob, s0, none⟩ (.int .i64 cn)).alloc (.cells #[.int .i64 cs, .int .i64 p.2] 3)).drew ob ((ocells (outN gs (been l seen))).setIfInBounds s0 (.int .i64 cn)) 62 := ((bo.set _ _).alloc _).drew
          rw [hst.out] at b1
          have e1 : (fun j => outN gs (been l seen) j + if fitsB gs (f7 p.1) = true ∧ f7 p.1 0 = j then p.2 else 0) = fun j => if j = s0 then cn else outN gs (been l seen) j := by
            funext j
            rw [HFB.out, HS0.out]
            by_cases hj : j = s0
            · subst hj; rw [if_pos ⟨rfl, rfl⟩, if_pos rfl, HCS.out, HCN.out]
            · rw [if_neg (fun e => hj e.2.symm), if_neg hj, Nat.add_zero]
          rw [e1]; exact b1
        · rw [hitE.len, hlen, List.length_append]; simp; omega
    · exact HE.out _ _ _ _ _ _ _ _ _ _ _ _ _ _ _ _ _ _ _ _ _ _ _ h.off (by rw [← h.done hl HALL.out]; exact h.out)
end Go.Proofs.Ytjbjmoghloabpaa
set_option linter.unusedVariables false
set_option linter.unusedSimpArgs false
namespace Go.Proofs.Ytjbjmoghloabpaa
open Go.RowKit Go.Proofs
attribute [local irreducible] Ord.walk

theorem bit_u64z (vo v : Nat) (h : vo < 2 ^ 62) : (bits .and .u64 ((vo : Int) / 2 ^ v) 1 == 0) = !hasB vo v := by
  have h1 : ((vo : Int) / 2 ^ v) = ((vo / 2 ^ v : Nat) : Int) := by simp
  have h2 : vo / 2 ^ v ≤ vo := Nat.div_le_self _ _
  have h3 : (1 : Int) = ((1 : Nat) : Int) := rfl
  rw [h1]
  conv => lhs; arg 1; rw [h3]
  rw [u64_and_nat _ _ (by omega) (by omega), nat_mask1]
  unfold hasB
  rw [Bool.eq_iff_iff, beq_iff_eq, Bool.not_eq_true', beq_eq_false_iff_ne]
  omega
def gcells (gs : List Gr) : List Value := gs.flatMap fun g => [.int .u64 g.1, .int .i64 g.2.1, .int .i64 g.2.2]
theorem gcells_snoc (gs : List Gr) (g : Gr) : gcells (gs ++ [g]) = gcells gs ++ [.int .u64 g.1, .int .i64 g.2.1, .int .i64 g.2.2] := by simp [gcells]
theorem gcells_at : ∀ (gs : List Gr) (i : Nat), (h : i < gs.length) → (gcells gs)[i * 3]? = some (.int .u64 gs[i].1) ∧ (gcells gs)[i * 3 + 1]? = some (.int .i64 gs[i].2.1) ∧ (gcells gs)[i * 3 + 2]? = some (.int .i64 gs[i].2.2)
  | g :: gs, 0, _ => ⟨rfl, rfl, rfl⟩
  | g :: gs, i + 1, h => by
    have ih := gcells_at gs i (by simpa using h)
    have e : ∀ k, (gcells (g :: gs))[(i + 1) * 3 + k]? = (gcells gs)[i * 3 + k]? := fun k => by
      show (([.int .u64 g.1, .int .i64 g.2.1, .int .i64 g.2.2] : List Value) ++ gcells gs)[_]? = _
      rw [List.getElem?_append_right (by simp; omega)]
      congr 1
      simp; omega
    exact ⟨(e 0).trans ih.1, (e 1).trans ih.2.1, (e 2).trans ih.2.2⟩
/-- Groups that the call owns. -/
def GOwn (w : World) (base : Nat) (v : Value) (gs : List Gr) : Prop := w.ownsRow base 87 3 v gs.length (gcells gs)
theorem GOwn.at {w : World} {base : Nat} {v : Value} {gs : List Gr} (h : GOwn w base v gs) (hp : 0 < gs.length) : ∃ gb gc, v = .slice (some ⟨gb, 0, none⟩) gs.length gc ∧ base ≤ gb ∧ GrAt w (some ⟨gb, 0, none⟩) gs := by
  obtain ⟨hl, ⟨-, h0⟩ | ⟨g, cap, cur, hv, hg, hh, hn, hc, hs, ht⟩⟩ := h
  · omega
  refine ⟨g, cap, hv, hg, fun i hi => ⟨g, 0, rfl, ?_⟩⟩
  have hcell : ∀ k u, (gcells gs)[k]? = some u → w.cell? ⟨g, k, none⟩ = some u := fun k u hk => by
    rw [cell_of_row w g k cur _ (0, 0) hh]
    rw [← ht, List.getElem?_take] at hk
    split at hk
    · simpa using hk
    · cases hk
  obtain ⟨h1, h2, h3⟩ := gcells_at gs i hi
  simp only [Nat.zero_add]
  exact ⟨hcell _ _ h1, hcell _ _ h2, hcell _ _ h3⟩

/-- What has been looked at before the i-th thing. -/
def selAt (ks : List Kn) (set : Nat) (ws : List Kn) (i : Nat) : List Kn := if i ≤ ks.length then selTo ks set i else selTo ks set ks.length ++ ws.take (i - ks.length)
theorem selAt_end (ks : List Kn) (set : Nat) (ws : List Kn) : selAt ks set ws (ks.length + ws.length) = sel ks set ws := by
  unfold selAt sel
  split
  · rename_i h
    have : ws = [] := List.eq_nil_of_length_eq_zero (by omega)
    subst this; simp
  · rw [Nat.add_sub_cancel_left, List.take_length]
theorem selTo_succ (ks : List Kn) (set i : Nat) (h : i < ks.length) : selTo ks set (i + 1) = selTo ks set i ++ if hasB set i then [ks[i]] else [] := by
  unfold selTo
  rw [List.range_succ, List.flatMap_append]
  simp [h]
theorem selAt_no (ks : List Kn) (set : Nat) (ws : List Kn) (i : Nat) (h : i < ks.length) (hb : hasB set i = false) : selAt ks set ws (i + 1) = selAt ks set ws i := by
  unfold selAt
  rw [if_pos (by omega), if_pos (by omega), selTo_succ ks set i h, hb]; simp
theorem selAt_yes (ks : List Kn) (set : Nat) (ws : List Kn) (i : Nat) (x : Kn) (hx : (ks ++ ws)[i]? = some x) (hb : i < ks.length → hasB set i = true) : selAt ks set ws (i + 1) = selAt ks set ws i ++ [x] := by
  unfold selAt
  by_cases h : i < ks.length
  · rw [if_pos (by omega), if_pos (by omega), selTo_succ ks set i h, hb h, if_pos rfl]
    rw [List.getElem?_append_left h, List.getElem?_eq_getElem h] at hx
    rw [Option.some.inj hx]
  · rw [List.getElem?_append_right (by omega)] at hx
    have hl := (List.getElem?_eq_some_iff.1 hx).1
    have h2 := (List.getElem?_eq_some_iff.1 hx).2
    rw [if_neg (by omega)]
    have e : i + 1 - ks.length = (i - ks.length) + 1 := by omega
    rw [e, List.take_succ_eq_append_getElem hl, h2]
    by_cases h3 : i ≤ ks.length
    · have : i = ks.length := by omega
      subst this
      rw [if_pos (by omega)]; simp
    · rw [if_neg h3]; simp
theorem kfold_snoc (L : List Kn) (g0 : Gr) (x : Kn) : kfold (L ++ [x]) g0 = kstep (kfold L g0) x := by simp [kfold]
theorem kfold_none (L M : List Kn) (g0 : Gr) (h : kfold L g0 = none) : kfold (L ++ M) g0 = none := by
  unfold kfold at *
  rw [List.foldl_append, h]
  induction M with
  | nil => rfl
  | cons x M ih => exact ih
theorem selAt_mono (ks : List Kn) (set : Nat) (ws : List Kn) : ∀ (n i : Nat), i + n = ks.length + ws.length → ∃ M, sel ks set ws = selAt ks set ws i ++ M
  | 0, i, h => ⟨[], by rw [List.append_nil, ← selAt_end]; congr 1; omega⟩
  | n + 1, i, h => by
    obtain ⟨M, hM⟩ := selAt_mono ks set ws n (i + 1) (by omega)
    have hi : i < (ks ++ ws).length := by simp; omega
    by_cases hb : i < ks.length ∧ hasB set i = false
    · rw [selAt_no ks set ws i hb.1 hb.2] at hM
      exact ⟨M, hM⟩
    · rw [selAt_yes ks set ws i (ks ++ ws)[i] (List.getElem?_eq_getElem hi) (fun h => by simpa using fun e => hb ⟨h, e⟩), List.append_assoc] at hM
      exact ⟨_, hM⟩
/-- Ties lead to voters. -/
def TiOk (t : Ti) : Prop := ∀ i, i < 8 → (t i).1 < 8
theorem TiOk.free : TiOk freeT := fun i h => h
theorem TiOk.tied {t : Ti} (h : TiOk t) {A B : Nat} (hA : A < 8) (hB : B < 8) (s : Bool) : TiOk (tiedT t A B s) := by
  intro i hi
  unfold tiedT
  have h1 := h A hA
  have h2 := h B hB
  split
  · exact h i hi
  · simp only [mergeTo, toT]
    rw [if_pos hi]
    have h3 := h i hi
    split
    · show min _ _ < 8; omega
    · exact h3
theorem agg_counts : AggTy Try.prog 62 9 := ⟨_, Try.underlying62, rfl, by kernel_rfl⟩
theorem info_group : (Try.prog.info? 87).map (fun i => (i.zero, i.size, i.bytes)) = some (some (.agg #[.int .u64 0, .int .i64 0, .int .i64 0]), 3, 24) := by kernel_rfl
theorem GOwn.of_heap {w w' : World} {base : Nat} {v : Value} {gs : List Gr} (h : GOwn w base v gs) (hk : ∀ g, base ≤ g → g < w.heap.size → w'.heap[g]? = w.heap[g]?) : GOwn w' base v gs := by
  obtain ⟨hl, h | ⟨g, cap, cur, hv, hg, hh, hn, hc, hs, ht⟩⟩ := h
  · exact ⟨hl, .inl h⟩
  · exact ⟨hl, .inr ⟨g, cap, cur, hv, hg, (hk g hg (lt_of_block hh)).trans hh, hn, hc, hs, ht⟩⟩
theorem GOwn.row {w : World} {base : Nat} {v : Value} {gs : List Gr} (h : GOwn w base v gs) {g : Nat} (hg : v.ownBlock = some g) : base ≤ g ∧ ∀ A t, Blk w g A t → t = 87 := by
  obtain ⟨hl, ⟨rfl, -⟩ | ⟨g', cap, cur, rfl, hg', hh, hn, hc, hs, ht⟩⟩ := h
  · cases hg
  · simp only [Value.ownBlock, Option.some.injEq] at hg
    subst hg
    refine ⟨hg', fun A t hb => ?_⟩
    rw [show w.heap[g']? = _ from hb] at hh
    simp only [Option.some.injEq, Obj.cells.injEq] at hh
    exact hh.2.1
theorem GOwn.one {w : World} {base : Nat} {v : Value} {gs : List Gr} (h : GOwn w base v gs) : v.oneCell' = true := by
  obtain ⟨hl, ⟨rfl, -⟩ | ⟨g', cap, cur, rfl, hg', hh, hn, hc, hs, ht⟩⟩ := h <;> rfl
theorem GOwn.setCell {w : World} {base gp : Nat} {v : Value} {gs : List Gr} {A : Array Value} {t : TypeId} (h : GOwn w base v gs) (hb : Blk w gp A t) (ht : t ≠ 87) (i : Nat) (u : Value) : GOwn (w.setCell ⟨gp, i, none⟩ u) base v gs := by
  obtain ⟨hl, h0 | ⟨g, cap, cur, hv, hg, hh, hn, hc, hs, htk⟩⟩ := h
  · exact ⟨hl, .inl h0⟩
  · refine ⟨hl, .inr ⟨g, cap, cur, hv, hg, (Below.heap_setCell w _ u g (fun e => ?_)).trans hh, hn, hc, hs, htk⟩⟩
    simp only at e
    subst e
    rw [show w.heap[g]? = _ from hb] at hh
    simp only [Option.some.injEq, Obj.cells.injEq] at hh
    exact ht hh.2.1
theorem news_blk {w : World} {b : Nat} {A : Array Value} {t : TypeId} (h : Blk w b A t) : ∀ (j : Nat) (u : Value), A.toList[j]? = some u → w.cell? ((⟨b, 0, none⟩ : Addr).add j) = some u := by
  intro j u hu
  have : (⟨b, 0, none⟩ : Addr).add j = ⟨b, j, none⟩ := by simp [Addr.add]; try omega
  rw [this, h.cell]
  simpa using hu
theorem Off.grown {T : List Nat} {n : Nat} {w w' w'' : World} {row : Option Nat} (h : Off T n w w') (hg : w'.grownBy w'' row) (hn : n ≤ w'.heap.size) (hr : ∀ g, row = some g → g ∈ T ∨ n ≤ g) : Off T n w w'' :=
  h.trans ⟨hg.os, hg.tape, hg.output, hg.size, fun k hk ht => hg.block k (by omega) (fun e => by rcases hr k e.symm with h | h; exact ht h; omega)⟩
/-- A walk is to stop here. -/
def Stop (p : Prop) : Prop := p
theorem at_stop {p : Prop} (h : Stop p) : p := h
/-- What the first loop keeps. -/
structure L1 (ks : List Kn) (set : Nat) (ws : List Kn) (g0 : Gr) (W : World) (base bt gp : Nat) (i : Nat) (w : World) (t : Ti) (gs : List Gr) (vs : Value) : Prop where
  off : Off [bt] base W w
  size : W.heap.size ≤ w.heap.size
  fold : kfold (selAt ks set ws i) g0 = some (t, gs)
  b8 : Blk w bt (tcells t) 118
  b10 : Blk w gp #[vs] 120
  own : GOwn w base vs gs
  ok : TiOk t
  pos : 0 < gs.length
  len : gs.length ≤ i + 1

set_option maxHeartbeats 4000000 in
set_option maxRecDepth 100000 in
theorem counts_l1 {u0 u2 u4 u5 u7 u9 u11 u12 u13 u14 u15 u16 u17 u18 u19 u20 u21 u22 u23 u24 u25 u26 u27 u28 u29 u30 u31 u32 u33 u34 u35 u36 u37 u38 u39 u40 u41 u42 u43 u44 u45 u46 u47 u48 u49 u50 u51 u52 u53 u54 u55 u56 u57 u58 u59 u60 u61 u65 u66 u67 u68 u69 u70 u71 u72 u73 u74 u75 u76 u77 u78 u79 u80 u81 u82 u83 u84 u85 u86 u87 u88 u89 u90 u91 u92 u93 u94 u95 u96 u97 u98 u99 u100 u101 u102 u103 u104 u105 u106 u107 u108 u109 u110 u111 u112 u113 u114 u115 u116 u117 u118 u119 u120 u121 u122 u123 u124 u125 u126 u127 u128 u129 u130 u131 u132 u133 u134 u135 u136 u137 u138 u139 u140 u141 u142 u143 u144 u145 u146 u147 u148 u149 u150 u151 u152 u153 u154 u155 u156 u157 u158 u159 u160 u161 u162 u163 u164 u165 u166 u167 u168 u169 u170 u171 u172 u173 u174 u175 u176 u177 u178 u179 u180 u181 u182 u183 u184 u185 u186 u187 u188 u189 u190 : Value} {ds : List Deferred} (Q : Exit → Act → World → Prop) (W : World) (base v nb bt gp ob kb : Nat) (ka : Option Addr) (kc oc : Nat) (ks ws : List Kn) (set : Nat) (g0 : Gr) (KA : Array Value) (vs0 : Value)
    (hkl : ks.length ≤ 8) (hwl : ws.length ≤ 2) (hset : set < 2 ^ 62) (hok : ∀ x ∈ ks ++ ws, knOk x)
    (b3 : Blk W nb #[.pointer (some ⟨v, 0, none⟩)] 63) (v6 : W.cell? ⟨v, 6, none⟩ = some (.slice ka ks.length kc))
    (bo : Blk W ob (ocells fun _ => 0) 62) (bk : Blk W kb KA 76) (hKA : ∀ (i : Nat) (x : Kn), (ks ++ ws)[i]? = some x → KA[i]? = some (knV x))
    (l1 : nb < base) (l2 : v < base) (l3 : ob < base) (l4 : kb < base) (l5 : bt < base) (lb : base ≤ gp) (d1 : nb ≠ bt) (d2 : v ≠ bt) (d3 : ob ≠ bt) (d4 : kb ≠ bt)
    (h0 : L1 ks set ws g0 W base bt gp 0 W freeT [g0] vs0)
    (hexit : ∀ (x9 x11 x12 x13 x14 x64 x65 x66 x67 x68 x69 x70 x71 x72 x73 x74 x75 x76 x77 x78 x79 x80 x81 x82 x83 x84 x85 x86 x87 x88 x89 x90 x91 x92 x93 x94 x95 x96 x97 x98 x99 x100 x101 x102 : Value) W' t gs vs, L1 ks set ws g0 W base bt gp (ks.length + ws.length) W' t gs vs →
      Q (.exit 0) ⟨(u0 :: .int .u64 set :: u2 :: .pointer (some ⟨nb, 0, none⟩) :: u4 :: u5 :: .pointer (some ⟨ob, 0, none⟩) :: u7 :: .pointer (some ⟨bt, 0, none⟩) :: x9 :: .pointer (some ⟨gp, 0, none⟩) :: x11 :: x12 :: x13 :: x14 :: u15 :: u16 :: u17 :: u18 :: u19 :: u20 :: u21 :: u22 :: u23 :: u24 :: u25 :: u26 :: u27 :: u28 :: u29 :: u30 :: u31 :: u32 :: u33 :: u34 :: u35 :: u36 :: u37 :: u38 :: u39 :: u40 :: u41 :: u42 :: u43 :: u44 :: u45 :: u46 :: u47 :: u48 :: u49 :: u50 :: u51 :: u52 :: u53 :: u54 :: u55 :: u56 :: u57 :: u58 :: u59 :: u60 :: u61 :: .slice (some ⟨kb, 0, none⟩) (ks.length + ws.length) oc :: .int .i64 (ks.length + ws.length) :: x64 :: x65 :: x66 :: x67 :: x68 :: x69 :: x70 :: x71 :: x72 :: x73 :: x74 :: x75 :: x76 :: x77 :: x78 :: x79 :: x80 :: x81 :: x82 :: x83 :: x84 :: x85 :: x86 :: x87 :: x88 :: x89 :: x90 :: x91 :: x92 :: x93 :: x94 :: x95 :: x96 :: x97 :: x98 :: x99 :: x100 :: x101 :: x102 :: u103 :: u104 :: u105 :: u106 :: u107 :: u108 :: u109 :: u110 :: u111 :: u112 :: u113 :: u114 :: u115 :: u116 :: u117 :: u118 :: u119 :: u120 :: u121 :: u122 :: u123 :: u124 :: u125 :: u126 :: u127 :: u128 :: u129 :: u130 :: u131 :: u132 :: u133 :: u134 :: u135 :: u136 :: u137 :: u138 :: u139 :: u140 :: u141 :: u142 :: u143 :: u144 :: u145 :: u146 :: u147 :: u148 :: u149 :: u150 :: u151 :: u152 :: u153 :: u154 :: u155 :: u156 :: u157 :: u158 :: u159 :: u160 :: u161 :: u162 :: u163 :: u164 :: u165 :: u166 :: u167 :: u168 :: u169 :: u170 :: u171 :: u172 :: u173 :: u174 :: u175 :: u176 :: u177 :: u178 :: u179 :: u180 :: u181 :: u182 :: u183 :: u184 :: u185 :: u186 :: u187 :: u188 :: u189 :: u190 :: []).toArray, ds⟩ W')
    (hret : ∀ (x9 x11 x12 x13 x14 x64 x65 x66 x67 x68 x69 x70 x71 x72 x73 x74 x75 x76 x77 x78 x79 x80 x81 x82 x83 x84 x85 x86 x87 x88 x89 x90 x91 x92 x93 x94 x95 x96 x97 x98 x99 x100 x101 x102 : Value) W', Off [bt, ob] base W W' → W.heap.size ≤ W'.heap.size → Blk W' ob (ocells fun _ => 0) 62 → kfold (sel ks set ws) g0 = none →
      Q .ret ⟨(u0 :: .int .u64 set :: u2 :: .pointer (some ⟨nb, 0, none⟩) :: u4 :: u5 :: .pointer (some ⟨ob, 0, none⟩) :: u7 :: .pointer (some ⟨bt, 0, none⟩) :: x9 :: .pointer (some ⟨gp, 0, none⟩) :: x11 :: x12 :: x13 :: x14 :: u15 :: u16 :: u17 :: u18 :: u19 :: u20 :: u21 :: u22 :: u23 :: u24 :: u25 :: u26 :: u27 :: u28 :: u29 :: u30 :: u31 :: u32 :: u33 :: u34 :: u35 :: u36 :: u37 :: u38 :: u39 :: u40 :: u41 :: u42 :: u43 :: u44 :: u45 :: u46 :: u47 :: u48 :: u49 :: u50 :: u51 :: u52 :: u53 :: u54 :: u55 :: u56 :: u57 :: u58 :: u59 :: u60 :: u61 :: .slice (some ⟨kb, 0, none⟩) (ks.length + ws.length) oc :: .int .i64 (ks.length + ws.length) :: x64 :: x65 :: x66 :: x67 :: x68 :: x69 :: x70 :: x71 :: x72 :: x73 :: x74 :: x75 :: x76 :: x77 :: x78 :: x79 :: x80 :: x81 :: x82 :: x83 :: x84 :: x85 :: x86 :: x87 :: x88 :: x89 :: x90 :: x91 :: x92 :: x93 :: x94 :: x95 :: x96 :: x97 :: x98 :: x99 :: x100 :: x101 :: x102 :: u103 :: u104 :: u105 :: u106 :: u107 :: u108 :: u109 :: u110 :: u111 :: u112 :: u113 :: u114 :: u115 :: u116 :: u117 :: u118 :: u119 :: u120 :: u121 :: u122 :: u123 :: u124 :: u125 :: u126 :: u127 :: u128 :: u129 :: u130 :: u131 :: u132 :: u133 :: u134 :: u135 :: u136 :: u137 :: u138 :: u139 :: u140 :: u141 :: u142 :: u143 :: u144 :: u145 :: u146 :: u147 :: u148 :: u149 :: u150 :: u151 :: u152 :: u153 :: u154 :: u155 :: u156 :: u157 :: u158 :: u159 :: u160 :: u161 :: u162 :: u163 :: u164 :: u165 :: u166 :: u167 :: u168 :: u169 :: u170 :: u171 :: u172 :: u173 :: u174 :: u175 :: u176 :: u177 :: u178 :: u179 :: u180 :: u181 :: u182 :: u183 :: u184 :: u185 :: u186 :: u187 :: u188 :: u189 :: u190 :: []).toArray, ds⟩ W') :
    cA.wp Try.prog Q ⟨(u0 :: .int .u64 set :: u2 :: .pointer (some ⟨nb, 0, none⟩) :: u4 :: u5 :: .pointer (some ⟨ob, 0, none⟩) :: u7 :: .pointer (some ⟨bt, 0, none⟩) :: u9 :: .pointer (some ⟨gp, 0, none⟩) :: u11 :: u12 :: u13 :: u14 :: u15 :: u16 :: u17 :: u18 :: u19 :: u20 :: u21 :: u22 :: u23 :: u24 :: u25 :: u26 :: u27 :: u28 :: u29 :: u30 :: u31 :: u32 :: u33 :: u34 :: u35 :: u36 :: u37 :: u38 :: u39 :: u40 :: u41 :: u42 :: u43 :: u44 :: u45 :: u46 :: u47 :: u48 :: u49 :: u50 :: u51 :: u52 :: u53 :: u54 :: u55 :: u56 :: u57 :: u58 :: u59 :: u60 :: u61 :: .slice (some ⟨kb, 0, none⟩) (ks.length + ws.length) oc :: .int .i64 (ks.length + ws.length) :: .int .i64 0 :: u65 :: u66 :: u67 :: u68 :: u69 :: u70 :: u71 :: u72 :: u73 :: u74 :: u75 :: u76 :: u77 :: u78 :: u79 :: u80 :: u81 :: u82 :: u83 :: u84 :: u85 :: u86 :: u87 :: u88 :: u89 :: u90 :: u91 :: u92 :: u93 :: u94 :: u95 :: u96 :: u97 :: u98 :: u99 :: u100 :: u101 :: u102 :: u103 :: u104 :: u105 :: u106 :: u107 :: u108 :: u109 :: u110 :: u111 :: u112 :: u113 :: u114 :: u115 :: u116 :: u117 :: u118 :: u119 :: u120 :: u121 :: u122 :: u123 :: u124 :: u125 :: u126 :: u127 :: u128 :: u129 :: u130 :: u131 :: u132 :: u133 :: u134 :: u135 :: u136 :: u137 :: u138 :: u139 :: u140 :: u141 :: u142 :: u143 :: u144 :: u145 :: u146 :: u147 :: u148 :: u149 :: u150 :: u151 :: u152 :: u153 :: u154 :: u155 :: u156 :: u157 :: u158 :: u159 :: u160 :: u161 :: u162 :: u163 :: u164 :: u165 :: u166 :: u167 :: u168 :: u169 :: u170 :: u171 :: u172 :: u173 :: u174 :: u175 :: u176 :: u177 :: u178 :: u179 :: u180 :: u181 :: u182 :: u183 :: u184 :: u185 :: u186 :: u187 :: u188 :: u189 :: u190 :: []).toArray, ds⟩ W := by
  have HE := Lib.hid hexit
  have HR := Lib.hid hret
  clear hexit hret
  obtain ⟨gi, hgi, hgz0, hgz1, hgz2⟩ := info_parts info_group
  conv => arg 2; whnf
  go_loopw [64] (fun i wr => ∃ (k : Nat) (t : Ti) (gs : List Gr) (vs : Value), k ≤ ks.length + ws.length ∧ i = .int .i64 k ∧ L1 ks set ws g0 W base bt gp k wr t gs vs) (fun i _ => ks.length + ws.length - (intOf i).toNat)
  case atStart => exact ⟨0, freeT, [g0], vs0, by omega, rfl, h0⟩
  case round =>
    clear h0
    obtain ⟨k, t, gs, vs, hk, rfl, h⟩ := hrel
    obtain ⟨ho, hsz, hfold, b8, b10, hown, hti, hpos, hlen⟩ := h
    have e3 := ho.blk b3 l1 (by simpa using d1)
    have e6 : wr.cell? ⟨v, 6, none⟩ = some (.slice ka ks.length kc) := (ho.cell (a := ⟨v, 6, none⟩) l2 (by simpa using d2)).trans v6
    have eo := ho.blk bo l3 (by simpa using d3)
    have ek := ho.blk bk l4 (by simpa using d4)
    have r3 := e3.cell
    have hbw : base ≤ wr.heap.size := by have := b10.lt; omega
    by_cases hlt : k < ks.length + ws.length
    · have hlti : (k : Int) < (ks.length : Int) + (ws.length : Int) := by omega
      have hlti2 : (k : Int) < ((ks.length + ws.length : Nat) : Int) := by omega
      obtain ⟨x, hx⟩ : ∃ x, (ks ++ ws)[k]? = some x := ⟨(ks ++ ws)[k]'(by simp; omega), List.getElem?_eq_getElem _⟩
      have hcx := (ek.cell k).trans (hKA k x hx)
      have hxo := hok x (List.mem_of_getElem? hx)
      have hbz := bit_u64z set k hset
      have q1 := tcells_size t
      have q2 := ones_ties t
      have HG := Lib.hid b_gties
      have HPT := Lib.hid b_pties
      by_cases hskip : k < ks.length ∧ hasB set k = false
      · obtain ⟨hs1, hb⟩ := hskip
        have hfold2 := selAt_no ks set ws k hs1 hb
        have hbz2 : (bits .and .u64 ((set : Int) / 2 ^ k) 1 == 0) = true := by rw [hbz, hb]; rfl
        rw [← hfold2] at hfold
        clear hbz hb hfold2 hx HG HPT q1 q2
        go_wp2_with fail
        refine ⟨⟨k + 1, t, gs, vs, by omega, by go_num, ⟨ho, hsz, hfold, b8, b10, hown, hti, hpos, by omega⟩⟩, by simp [intOf]; omega⟩
      · have hb : k < ks.length → hasB set k = true := fun h => by simpa using fun e => hskip ⟨h, e⟩
        have hfold2 := selAt_yes ks set ws k x hx hb
        have hks := kfold_snoc (selAt ks set ws k) g0 x
        rw [← hfold2, hfold] at hks
        have HKS := Lib.hid hks
        clear hks hfold2 hskip hfold hx
        have hsel : (k < ks.length ∧ (bits .and .u64 ((set : Int) / 2 ^ k) 1 == 0) = false) ∨ ks.length ≤ k := by
          by_cases h : k < ks.length
          · exact .inl ⟨h, by rw [hbz, hb h]; rfl⟩
          · exact .inr (by omega)
        clear hbz hb
        cases x with
        | g vo lo hi =>
          have hcx' : wr.cell? ⟨kb, k, none⟩ = some (.iface 87 (.agg #[.int .u64 vo, .int .i64 lo, .int .i64 hi])) := hcx
          clear hcx
          have hm : ∀ w, (method 259 87 (.agg #[.int .u64 vo, .int .i64 lo, .int .i64 hi]) "shearworks/bean.ties").run Try.prog w = .ok (128, .agg #[.int .u64 vo, .int .i64 lo, .int .i64 hi]) w := fun _ => by kernel_rfl
          have hta : ∀ w, (Instr.typeAssert (.iface 87 (.agg #[.int .u64 vo, .int .i64 lo, .int .i64 hi])) 76 87 true).run Try.prog w = .ok (.tuple #[.agg #[.int .u64 vo, .int .i64 lo, .int .i64 hi], .bool true]) w := fun _ => by kernel_rfl
          rcases hsel with ⟨hs1, hs2⟩ | hs1
          all_goals go_wp2_with (first
            | (go_at_call 128; refine (HG.out _ _ _ _ _).mono ?_; rintro e w1 ⟨rfl, hb1⟩)
            | (refine wpList_load_blk 118 (.tmp 8) agg_ties rfl rfl rfl b8 q1 ?_)
            | (refine wpList_store_blk 118 (.tmp 8) (.tmp 87) agg_ties rfl rfl rfl rfl (b8.below hb1 b8.lt) q1 q1 q2 ?_; intro w2 h2; have b10' := h2.other (b10.below hb1 b10.lt) (by omega); have c10 := b10'.cell; have hlt10 := b10'.lt; have hown2 : GOwn w2 base vs gs := (hown.of_heap (fun g h1 h2' => hb1.block g h2')).of_heap (fun g h1 h2' => h2.heap g (by omega)))
            | (at_builtin; refine at_stop ?_))
          all_goals (unfold Stop)
          all_goals (refine wpList_append_own _ rfl (.tmp 98) (.tmp 100) 120 rfl base 87 gi (.agg #[.int .u64 0, .int .i64 0, .int .i64 0]) 3 24 Try.underlying120 hgi hgz0 hgz1 hgz2 rfl (by decide) vs gs.length (gcells gs) rfl ((World.ownsRow.alloc hown2 _).alloc _) ⟨w2.heap.size + 1, 0, none⟩ 1 1 [.int .u64 vo, .int .i64 lo, .int .i64 hi] rfl rfl (news_blk (A := #[.int .u64 vo, .int .i64 lo, .int .i64 hi]) (Blk.new' _ _ _ _ (by simp))) (by simp [Value.oneCell']) (by unfold maxLen; omega) (by omega) (by first | omega | (simp; done) | (simp; omega)) ?_)
          all_goals (intro v5 w5 hown5 hgrow5 _)
          all_goals (have hown5' : GOwn w5 base v5 (gs ++ [(vo, lo, hi)]) := by (unfold GOwn; rw [List.length_append, gcells_snoc]; exact hown5))
          all_goals (obtain ⟨gb5, gc5, rfl, hgb5, -⟩ := hown5'.at (by simp))
          all_goals (have b10w5 : Blk w5 gp #[vs] 120 := (hgrow5.block gp (by first | omega | (simp; done) | (simp; omega)) (fun e => absurd ((hown2.row e.symm).2 _ _ b10') (by decide))).trans ((b10'.alloc _).alloc _))
          all_goals (have c10w := b10w5.cell)
          all_goals (have f10w := b10w5.free)
          all_goals go_wp2_with fail
          all_goals (have hO2 : Off [bt] base W w2 := (ho.trans (Off.of_below hb1 (by omega))).rowed h2 (.inl (by simp)))
          all_goals (have hO5 : Off [bt] base W w5 := (((hO2.alloc (by omega) _).alloc (by first | omega | (simp; done) | (simp; omega)) _).grown hgrow5 (by first | omega | (simp; done) | (simp; omega)) (fun g hg => .inr (hown2.row hg).1)))
          all_goals (have hsz2 : W.heap.size ≤ w2.heap.size := by have := hb1.size; have := h2.size; omega)
          all_goals (have hsz5 := hgrow5.size)
          all_goals (have b8w5 : Blk w5 bt (tcells t) 118 := (hgrow5.block bt (by first | omega | (simp; done) | (simp; omega)) (fun e => by have := (hown2.row e.symm).1; omega)).trans ((h2.blk.alloc _).alloc _))
          all_goals refine ⟨⟨k + 1, t, gs ++ [(vo, lo, hi)], .slice (some ⟨gb5, 0, none⟩) (gs ++ [(vo, lo, hi)]).length gc5, by omega, by go_num, ⟨hO5.setCell (.inr lb) _, by simp at hsz5 ⊢; omega, HKS.out, b8w5.other (by show bt ≠ gp; omega) _, ?_, hown5'.setCell b10w5 (by decide) 0 _, hti, by simp, by simp; omega⟩⟩, by simp [intOf]; omega⟩
          all_goals (rw [List.length_append]; exact b10w5.set 0 _)
        | p A B sm =>
          obtain ⟨hA, hB⟩ := hxo
          have hcx' : wr.cell? ⟨kb, k, none⟩ = some (.iface 89 (.agg #[.int .u64 0, .int .i64 0, .int .i64 0, .int .i64 A, .int .i64 B, .bool sm])) := hcx
          clear hcx
          have hm : ∀ w, (method 259 89 (.agg #[.int .u64 0, .int .i64 0, .int .i64 0, .int .i64 A, .int .i64 B, .bool sm]) "shearworks/bean.ties").run Try.prog w = .ok (129, .agg #[.int .u64 0, .int .i64 0, .int .i64 0, .int .i64 A, .int .i64 B, .bool sm]) w := fun _ => by kernel_rfl
          have hta : ∀ w, (Instr.typeAssert (.iface 89 (.agg #[.int .u64 0, .int .i64 0, .int .i64 0, .int .i64 A, .int .i64 B, .bool sm])) 76 87 true).run Try.prog w = .ok (.tuple #[.agg #[.int .u64 0, .int .i64 0, .int .i64 0], .bool false]) w := fun _ => by kernel_rfl
          have q3 := tcells_size (tiedT t A B sm)
          have q4 := ones_ties (tiedT t A B sm)
          have hP0 := b_pties t A B hA hB hti sm
          have hti2 := hti.tied hA hB sm
          cases hto : tiedOk t A B sm
          · rw [hto] at hP0
            have HP := Lib.hid hP0
            have hks : kfold (selAt ks set ws (k + 1)) g0 = none := by rw [HKS.out]; simp [kstep, hto]
            have HN : Hid (kfold (sel ks set ws) g0 = none) := by
              obtain ⟨M, hM⟩ := selAt_mono ks set ws (ks.length + ws.length - (k + 1)) (k + 1) (by omega)
              show _ = _
              rw [hM]; exact kfold_none _ _ _ hks
            clear hks hP0 hto HPT HKS
            generalize tcells (tiedT t A B sm) = T2 at *
            have o1 : (ocells fun _ => 0).size = 9 := rfl
            have o2 : (ocells fun _ => 0).all (·.oneCell') = true := by simp [ocells, Value.oneCell']
            generalize hOC : (ocells fun _ => 0) = OC at *
            have HOC := Lib.hid hOC
            clear hOC
            have hob : ob ≠ bt := d3
            rcases hsel with ⟨hs1, hs2⟩ | hs1
            all_goals go_wp2_with (first
              | (go_at_call 129; refine (HP.out _).mono ?_; rintro e w1 ⟨rfl, hb1⟩)
              | (refine wpList_load_blk 118 (.tmp 8) agg_ties rfl rfl rfl b8 q1 ?_)
              | (refine wpList_store_blk 118 (.tmp 8) (.tmp 87) agg_ties rfl rfl rfl rfl (b8.below hb1 b8.lt) q1 q3 q4 ?_; intro w2 h2; have eo2 := h2.other (eo.below hb1 eo.lt) hob)
              | (refine wpList_load_blk 62 (.tmp 6) agg_counts rfl rfl rfl eo2 o1 ?_)
              | (refine wpList_store_blk 62 (.tmp 6) (.tmp 91) agg_counts rfl rfl rfl rfl eo2 o1 o1 o2 ?_; intro w3 h3))
            all_goals go_frame
            all_goals (have hO3 : Off [bt, ob] base W w3 := ((((ho.trans (Off.of_below hb1 hbw)).rowed h2 (.inl (by simp))).mono (Nat.le_refl _) (by simp; intro x _ e; exact .inl e)).rowed h3 (.inl (by simp))))
            all_goals (have hs3 : W.heap.size ≤ w3.heap.size := by have := hb1.size; have := h2.size; have := h3.size; omega)
            all_goals (have hb3 := h3.blk)
            all_goals (refine HR.out _ _ _ _ _ _ _ _ _ _ _ _ _ _ _ _ _ _ _ _ _ _ _ _ _ _ _ _ _ _ _ _ _ _ _ _ _ _ _ _ _ _ _ _ w3 hO3 hs3 hb3 HN.out)
          · rw [hto] at hP0
            have HP := Lib.hid hP0
            have hks : kfold (selAt ks set ws (k + 1)) g0 = some (tiedT t A B sm, gs) := by rw [HKS.out]; simp [kstep, hto]
            have HK2 := Lib.hid hks
            clear hks hP0 hto HPT HKS
            generalize tiedT t A B sm = t2 at *
            rcases hsel with ⟨hs1, hs2⟩ | hs1
            all_goals go_wp2_with (first
              | (go_at_call 129; refine (HP.out _).mono ?_; rintro e w1 ⟨rfl, hb1⟩)
              | (refine wpList_load_blk 118 (.tmp 8) agg_ties rfl rfl rfl b8 q1 ?_)
              | (refine wpList_store_blk 118 (.tmp 8) (.tmp 87) agg_ties rfl rfl rfl rfl (b8.below hb1 b8.lt) q1 q3 q4 ?_; intro w2 h2))
            all_goals (have hown2 : GOwn w2 base vs gs := (hown.of_heap (fun g h1 h2' => hb1.block g h2')).of_heap (fun g h1 h2' => h2.heap g (by omega)))
            all_goals (have hO2 : Off [bt] base W w2 := (ho.trans (Off.of_below hb1 hbw)).rowed h2 (.inl (by simp)))
            all_goals (have hsz2 : W.heap.size ≤ w2.heap.size := by have := hb1.size; have := h2.size; omega)
            all_goals (have hb2 : base ≤ w2.heap.size := by have := hb1.size; have := h2.size; omega)
            all_goals (have b10w := h2.other (b10.below hb1 b10.lt) (by omega))
            all_goals refine ⟨⟨k + 1, t2, gs, vs, by omega, by go_num, ⟨hO2.alloc hb2 _, by simp; omega, HK2.out, h2.blk.alloc _, b10w.alloc _, World.ownsRow.alloc hown2 _, hti2, hpos, by omega⟩⟩, by simp [intOf]; omega⟩
    · have hkl : k = ks.length + ws.length := by omega
      subst hkl
      go_wp2_with fail
      exact HE.out _ _ _ _ _ _ _ _ _ _ _ _ _ _ _ _ _ _ _ _ _ _ _ _ _ _ _ _ _ _ _ _ _ _ _ _ _ _ _ _ _ _ _ _ wr t gs vs ⟨ho, hsz, hfold, b8, b10, hown, hti, hpos, by omega⟩
end Go.Proofs.Ytjbjmoghloabpaa
