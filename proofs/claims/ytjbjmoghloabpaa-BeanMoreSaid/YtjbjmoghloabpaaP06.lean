/- Parts of a proof: BnJ, BnL, BnM. -/
import Derived.Test.YtjbjmoghloabpaaP05
set_option linter.unusedVariables false
set_option linter.unusedSimpArgs false
namespace Go.Proofs.Ytjbjmoghloabpaa
open Go.RowKit Go.Proofs
attribute [local irreducible] Ord.walk

/-- Block b is none of cells. -/
def NoC (w : World) (b : Nat) : Prop := ∀ A t f, w.heap[b]? ≠ some (.cells A t f)
theorem NoC.cell {w : World} {b : Nat} (h : NoC w b) {a : Addr} {v : Value} (hc : w.cell? a = some v) : a.block ≠ b := by
  intro e
  subst e
  unfold World.cell? at hc
  split at hc
  · rename_i c t f hh
    exact h _ _ _ hh
  · cases hc
theorem NoC.blk {w : World} {b c : Nat} (h : NoC w b) {A : Array Value} {t : TypeId} (hb : Blk w c A t) : c ≠ b := by
  intro e
  subst e
  exact h _ _ _ hb
theorem NoC.map {w : World} {m : Nat} {l : List (SL × Nat)} (h : MapIs w m l) : NoC w m := by
  intro A t f hh
  rw [show w.heap[m]? = _ from h] at hh
  cases hh
theorem NoC.loop {w : World} {l : Nat} {r : Loop} (h : w.heap[l]? = some (.loop r)) : NoC w l := by
  intro A t f hh
  rw [h] at hh
  cases hh
theorem ne_map_loop {w : World} {m l : Nat} {e : List (SL × Nat)} {r : Loop} (h : MapIs w m e) (hl : w.heap[l]? = some (.loop r)) : m ≠ l := by
  intro x
  subst x
  rw [show w.heap[m]? = _ from h] at hl
  cases hl
/-- What a round reads. -/
structure REnv (W : World) (v nb bt gp gb gc fb V first : Nat) (t : Ti) (gs : List Gr) : Prop where
  b3 : Blk W nb #[.pointer (some ⟨v, 0, none⟩)] 63
  vV : W.cell? ⟨v, 0, none⟩ = some (.int .i64 V)
  b8 : Blk W bt (tcells t) 118
  b10 : Blk W gp #[.slice (some ⟨gb, 0, none⟩) gs.length gc] 120
  bg : GrAt W (some ⟨gb, 0, none⟩) gs
  hg1 : 0 < gs.length
  b16 : Blk W fb #[.int .i64 first] 3
theorem REnv.glt {W : World} {v nb bt gp gb gc fb V first : Nat} {t : Ti} {gs : List Gr} (h : REnv W v nb bt gp gb gc fb V first t gs) : gb < W.heap.size := by
  obtain ⟨b, o, h0, h1, -⟩ := h.bg 0 h.hg1
  simp only [Option.some.injEq, Addr.mk.injEq] at h0
  obtain ⟨rfl, -, -⟩ := h0
  exact World.block_lt_of_cell? W _ h1
theorem REnv.off {W W' : World} {T : List Nat} {v nb bt gp gb gc fb V first : Nat} {t : Ti} {gs : List Gr} (h : REnv W v nb bt gp gb gc fb V first t gs) (ho : Off T W.heap.size W W') (hT : ∀ k ∈ T, NoC W k) : REnv W' v nb bt gp gb gc fb V first t gs := by
  have hblk : ∀ {b : Nat} {A : Array Value} {u : TypeId}, Blk W b A u → b ∉ T := fun hb e => (hT _ e).blk hb rfl
  have hcel : ∀ {a : Addr} {x : Value}, W.cell? a = some x → a.block ∉ T := fun hc e => (hT _ e).cell hc rfl
  have hgb : gb ∉ T := by
    obtain ⟨b, o, h0, h1, -⟩ := h.bg 0 h.hg1
    simp only [Option.some.injEq, Addr.mk.injEq] at h0
    obtain ⟨rfl, -, -⟩ := h0
    exact hcel h1
  exact ⟨ho.blk h.b3 h.b3.lt (hblk h.b3), (ho.cell (World.block_lt_of_cell? W _ h.vV) (hcel h.vV)).trans h.vV, ho.blk h.b8 h.b8.lt (hblk h.b8), ho.blk h.b10 h.b10.lt (hblk h.b10),
    h.bg.off ho h.glt hgb, h.hg1, ho.blk h.b16 h.b16.lt (hblk h.b16)⟩

def rfA : Code → Code
  | .rangeFunc _ _ a _ => a
  | c => c
/-- The loop's record. -/
noncomputable def cRec (fn : FuncId) (D : Nat) (T : Array Value) (st : LoopState) (pend : Option Code) : Loop := { state := st, pending := pend, fn, tmps := T, params := #[129], assign := rfA cRf, body := sI cRf, defers := D }

theorem two_at (w : World) (t : TypeId) (a b : Nat) : IntsAt (w.alloc (.cells #[.int .i64 a, .int .i64 b] t)) (some ⟨w.heap.size, 0, none⟩) [a, b] := by
  intro i hi
  refine ⟨_, _, rfl, ?_⟩
  rw [World.cell?_alloc_ite, if_pos rfl, Nat.zero_add]
  have : i = 0 ∨ i = 1 := by simp at hi; omega
  rcases this with rfl | rfl <;> rfl
theorem f7_lt {x : SL} (h : ∀ i ∈ x, i < 900) (i : Nat) : f7 x i < 900 := by
  unfold f7
  rw [List.getD_eq_getElem?_getD]
  cases hi : x[i]? with
  | none => simp
  | some n => simpa using h n (List.mem_of_getElem? hi)
theorem choose_ok {gs : List Gr} {t : Ti} {V first : Nat} {white : Bool} {x : SL} (hV : V ≤ 8) (h : ∀ i ∈ x, i < 900) : SL7 (chooseX gs t V first white x) := by
  refine ⟨rfl, fun n hn => ?_⟩
  have : ∀ i, chooseTo gs t first white (f7 x) V i < 1000 := fun i => by
    have h1 := chooseTo_le gs t first white (f7 x) V i
    have h2 := f7_lt h i
    omega
  simp only [chooseX, x7, List.mem_cons, List.not_mem_nil, or_false] at hn
  rcases hn with rfl | rfl | rfl | rfl | rfl | rfl | rfl <;> exact this _

set_option maxHeartbeats 4000000 in
set_option maxRecDepth 100000 in
theorem counts_round {u0 u1 u2 u4 u5 u6 u7 u9 u11 u12 u13 u14 u15 u20 u21 u22 u23 u24 u25 u26 u27 u28 u29 u30 u31 u32 u33 u34 u35 u36 u37 u38 u39 u40 u41 u42 u43 u44 u45 u46 u47 u48 u49 u50 u51 u52 u53 u54 u55 u56 u57 u58 u59 u60 u61 u62 u63 u64 u65 u66 u67 u68 u69 u70 u71 u72 u73 u74 u75 u76 u77 u78 u79 u80 u81 u82 u83 u84 u85 u86 u87 u88 u89 u90 u91 u92 u93 u94 u95 u96 u97 u98 u99 u100 u101 u102 u103 u104 u105 u106 u107 u108 u109 u110 u111 u112 u113 u114 u115 u116 u117 u118 u119 u120 u121 u122 u123 u124 u125 u126 u127 u128 u130 u131 u132 u133 u134 u135 u136 u137 u138 u139 u140 u141 u142 u143 u144 u145 u146 u147 u148 u149 u150 u151 u152 u153 u154 u155 u156 u157 u158 u159 u160 u161 u162 u163 u164 u165 u166 u167 u168 u169 u170 u171 u172 u173 u174 u175 u176 u177 u178 u179 u180 u181 u182 u183 u184 u185 u186 u187 u188 u189 u190 : Value} (L m fn D : Nat) (W : World) (v nb V bt gp gb gc fb p17 p18 p19 mn first : Nat) (t : Ti) (gs : List Gr) (white : Bool) (x : SL) (n : Nat) (lst : List (SL × Nat)) (ds : List Deferred) (T0 : Array Value)
    (hV : V ≤ 8) (hgl : gs.length ≤ 7) (hvo : ∀ g ∈ gs, g.1 < 2 ^ 62) (hx7 : x.length = 7) (hx : ∀ i ∈ x, i < 900)
    (env : REnv W v nb bt gp gb gc fb V first t gs) (e17 : Blk W p17 #[.map (some mn)] 127) (e18 : Blk W p18 (lcells x) 126) (e19 : Blk W p19 #[.int .i64 n] 3)
    (hm : MapIs W mn lst) (hmo : MapOk lst) (hbnd : getM lst (chooseX gs t V first white x) + n < 2 ^ 62)
    (hL : W.heap[L]? = some (.loop (cRec fn D T0 .ready none))) :
    RoundIn Fence.wide m Try.prog L fn (u0 :: u1 :: u2 :: .pointer (some ⟨nb, 0, none⟩) :: u4 :: u5 :: u6 :: u7 :: .pointer (some ⟨bt, 0, none⟩) :: u9 :: .pointer (some ⟨gp, 0, none⟩) :: u11 :: u12 :: u13 :: u14 :: u15 :: .pointer (some ⟨fb, 0, none⟩) :: .pointer (some ⟨p17, 0, none⟩) :: .pointer (some ⟨p18, 0, none⟩) :: .pointer (some ⟨p19, 0, none⟩) :: u20 :: u21 :: u22 :: u23 :: u24 :: u25 :: u26 :: u27 :: u28 :: u29 :: u30 :: u31 :: u32 :: u33 :: u34 :: u35 :: u36 :: u37 :: u38 :: u39 :: u40 :: u41 :: u42 :: u43 :: u44 :: u45 :: u46 :: u47 :: u48 :: u49 :: u50 :: u51 :: u52 :: u53 :: u54 :: u55 :: u56 :: u57 :: u58 :: u59 :: u60 :: u61 :: u62 :: u63 :: u64 :: u65 :: u66 :: u67 :: u68 :: u69 :: u70 :: u71 :: u72 :: u73 :: u74 :: u75 :: u76 :: u77 :: u78 :: u79 :: u80 :: u81 :: u82 :: u83 :: u84 :: u85 :: u86 :: u87 :: u88 :: u89 :: u90 :: u91 :: u92 :: u93 :: u94 :: u95 :: u96 :: u97 :: u98 :: u99 :: u100 :: u101 :: u102 :: u103 :: u104 :: u105 :: u106 :: u107 :: u108 :: u109 :: u110 :: u111 :: u112 :: u113 :: u114 :: u115 :: u116 :: u117 :: u118 :: u119 :: u120 :: u121 :: u122 :: u123 :: u124 :: u125 :: u126 :: u127 :: u128 :: .bool white :: u130 :: u131 :: u132 :: u133 :: u134 :: u135 :: u136 :: u137 :: u138 :: u139 :: u140 :: u141 :: u142 :: u143 :: u144 :: u145 :: u146 :: u147 :: u148 :: u149 :: u150 :: u151 :: u152 :: u153 :: u154 :: u155 :: u156 :: u157 :: u158 :: u159 :: u160 :: u161 :: u162 :: u163 :: u164 :: u165 :: u166 :: u167 :: u168 :: u169 :: u170 :: u171 :: u172 :: u173 :: u174 :: u175 :: u176 :: u177 :: u178 :: u179 :: u180 :: u181 :: u182 :: u183 :: u184 :: u185 :: u186 :: u187 :: u188 :: u189 :: u190 :: []).toArray (rfA cRf) (sI cRf) W
      fun e W' => e = .returned (.bool true) ∧ Off [mn, L] W.heap.size W W' ∧ W'.heap[L]? = some (.loop (cRec fn D T0 .ready none)) ∧ MapIs W' mn (putM lst (chooseX gs t V first white x) (getM lst (chooseX gs t V first white x) + n)) := by
  refine roundIn_of_wpIn trivial ?_
  have hll : L < W.heap.size := (Array.getElem?_eq_some_iff.1 hL).1
  have hbr := run_beginRound (P := Try.prog) hL rfl
  obtain ⟨W2, hW2⟩ : ∃ W2, W.putObj L (.loop { cRec fn D T0 .ready none with state := .busy }) = W2 := ⟨_, rfl⟩
  rw [hW2] at hbr
  have ho2 : Off [L] W.heap.size W W2 := by rw [← hW2]; exact (Off.refl _ _ _).putObj (by simp) _
  have hL2 : W2.heap[L]? = some (.loop { cRec fn D T0 .ready none with state := .busy }) := by rw [← hW2]; exact World.putObj_heap_same hll
  have hml := ne_map_loop hm hL
  have hm2 := ho2.map hm hm.lt (by simpa using hml)
  have env2 := env.off ho2 (by simp; exact NoC.loop hL)
  have f17 := ho2.blk e17 e17.lt (by simpa using (NoC.loop hL).blk e17)
  have f18 := ho2.blk e18 e18.lt (by simpa using (NoC.loop hL).blk e18)
  have f19 := ho2.blk e19 e19.lt (by simpa using (NoC.loop hL).blk e19)
  have hs2 : W2.heap.size = W.heap.size := by rw [← hW2]; simp
  clear hW2 env e17 e18 e19
  have HS2 := Lib.hid hs2
  clear hs2
  have hy7 := choose_ok (gs := gs) (t := t) (first := first) (white := white) hV hx
  have hf7 := f7_lt hx
  generalize hy : chooseX gs t V first white x = y at *
  have HY := Lib.hid hy
  clear hy
  have hL2' := Lib.hid hL2
  clear hL2 hL
  have hQ : ¬ LetsOut (fun e a w => False : Exit → Act → World → Prop) := fun ⟨_, _, h⟩ => h
  conv => arg 4; whnf
  (repeat (first | ((with_reducible refine wpIn_region_of ?_ ?_ ?_); (focus exact fun ⟨a, w, h⟩ => hQ ⟨a, w, h⟩); (focus rfl)) | gi_step))
  go_wp2_with fail
  clear hbr
  have hsx : scells (f7 x) = lcells x := scells_f7 x hx7
  have q1 := scells_size (f7 x)
  have q2 := ones_st (f7 x)
  have f3 := env2.b3.cell
  have f4 := env2.vV
  rw [hsx] at q1 q2
  generalize lcells x = X1 at *
  have HSX : Hid (scells (f7 x) = X1) := hsx
  clear hsx
  have lt17 := f17.lt
  have lt18 := f18.lt
  have lt19 := f19.lt
  have ltm := hm2.lt
  have lt3 := env2.b3.lt
  have lt8 := env2.b8.lt
  have lt10 := env2.b10.lt
  have ltg := env2.glt
  have lt16 := env2.b16.lt
  have ltv := World.block_lt_of_cell? W2 _ f4
  conv => arg 4; whnf
  (repeat (first | ((with_reducible refine wpIn_region_of ?_ ?_ ?_); (focus exact fun ⟨a, w, h⟩ => hQ ⟨a, w, h⟩); (focus rfl)) | gi_step))
  go_wp2_with (first
    | (refine wpList_load_blk 126 (.tmp 18) agg_st rfl rfl rfl f18 q1 ?_)
    | (refine wpList_store_blk 126 (.tmp 21) (.tmp 130) agg_st rfl rfl rfl rfl (Blk.new _ _ _) rfl q1 q2 ?_; intro w5 h5))
  have g17 := h5.other (f17.alloc _) (by omega)
  have g19 := h5.other (f19.alloc _) (by omega)
  have ho5 : Off [] W2.heap.size W2 w5 := ((Off.refl _ _ _).alloc (Nat.le_refl _) _).rowed h5 (.inr (Nat.le_refl _))
  have env5 := env2.off ho5 (by simp)
  have hm5 := ho5.map hm2 ltm (by simp)
  have hx5 := h5.blk
  have hs5 : w5.heap.size = W2.heap.size + 1 := by rw [h5.size]; simp
  generalize W2.heap.size = xb at *
  have f5 := env5.b3.cell
  have f6 := env5.vV
  clear h5 f3 f4
  (repeat (first | ((with_reducible refine wpIn_region_of ?_ ?_ ?_); (focus exact fun ⟨a, w, h⟩ => hQ ⟨a, w, h⟩); (focus rfl)) | gi_step))
  go_wp2_with fail
  refine wpIn_block ?_
  refine counts_l4 L m _ (fun ⟨a, w, h⟩ => hQ ⟨a, w, h⟩) (fun c a w h => h) w5 V bt gp gb gc fb xb first t gs white (f7 x) hV hgl hvo hf7 env5.b8 env5.b10 env5.bg env5.glt env5.b16 (by rw [HSX.out]; exact hx5) ?_ ?_ ?_ ?_ ?_
  · omega
  · omega
  · omega
  · omega
  intro x22 x136 x137 x138 x139 x140 x141 x142 x143 x144 x145 x146 x147 x148 x149 x150 x151 x152 x153 x154 x155 x156 x157 w6 ho6 hx6
  have hx6' : Blk w6 xb (lcells y) 126 := by rw [← HY.out]; exact hx6
  clear hx6
  have i17 := ho6.blk g17 g17.lt (by simp; omega)
  have i19 := ho6.blk g19 g19.lt (by simp; omega)
  have hm6 := ho6.map hm5 hm5.lt (by simp; omega)
  have hs6 := ho6.size
  have j17 := i17.cell
  have j19 := i19.cell
  have ltx := hx6'.lt
  have q3 : (lcells y).size = 7 := by have := hy7.1; simp [lcells, this]
  clear env2 env5 f5 f6 g17 g19 hm5 hm2 f17 f18 f19 q1 q2 hx5
  gi_step
  gi_step
  have hsum : Hid (∀ W' a, IntsAt W' a [getM lst y, n] → Calls Try.prog 66 #[.slice a 2 2] W' (Same (.int .i64 ((getM lst y + n : Nat) : Int)) W')) := by
    intro W' a hI
    have := b_sum [getM lst y, n] a 2 (by simp) (by simpa using hbnd) W' hI
    simpa using this
  have HT := Lib.hid two_at
  generalize hgn : getM lst y = gn at *
  have HGN := Lib.hid hgn
  clear hgn
  generalize hsn : gn + n = sn at *
  have HSN := Lib.hid hsn
  clear hsn
  refine Ord.wpIn_region (fun ⟨a, w, h⟩ => hQ ⟨a, w, h⟩) [(2, 0), (3, 0), (4, 0), (5, 0), (0, 1), (1, 1), (6, 2), (7, 0), (8, 2)] (fun W => Off [mn] w6.heap.size w6 W) (by kernel_rfl) (by kernel_rfl) (by kernel_rfl) (fun c a d v w h => h) (Off.refl _ _ _).drew ?_
  go_wp2_with (first
    | (refine wpList_load_blk 126 (.tmp 21) agg_st rfl rfl rfl hx6'.drew q3 ?_)
    | ((refine wpList_lookup_st (.tmp 160) (.tmp 161) rfl rfl rfl rfl hm6.drew hmo hy7 ?_); rw [HGN.out])
    | (refine wpList_mapUpdate_st (.tmp 158) (.tmp 159) (.tmp 165) rfl (.inl rfl) rfl rfl rfl (hm6.drew.alloc _) hmo hy7 ?_; intro w7 ht7 hm7)
    | ((with_reducible refine Ord.at_wild ?_); refine Ord.wild_load (ad := ⟨p17, 0, none⟩) (.map (some mn)) rfl rfl ?_ ?_; (focus (intro W hW; have cW := hW.cell (a := ⟨p17, 0, none⟩) i17.lt (by simpa using (NoC.map hm6).blk i17); simp [go_sem, cW, j17]; done)); intro K hK)
    | ((with_reducible refine Ord.at_wild ?_); refine Ord.wild_load (ad := ⟨xb, 0, none⟩) (.agg (lcells y)) rfl rfl ?_ ?_; (focus (intro W hW; exact loadVar_blk agg_st (hW.blk hx6' ltx (by simpa using (NoC.map hm6).blk hx6')) q3)); intro K hK)
    | ((with_reducible refine Ord.next_of ?_ (fun hOF => ?_)); (focus (first | exact ((Off.refl _ _ w6).alloc (Nat.le_refl _) _).drew | exact (((Off.refl _ _ w6).alloc (Nat.le_refl _) _).drew).turn ht7 (.inl (by simp)))))
    | ((with_reducible refine Ord.walk_eff rfl ?_ (fun K hK => ?_)); (focus (first | assumption | exact (Off.refl _ _ _).drew)))
    | ((with_reducible refine Ord.at_calm ?_); refine Ord.calm_skip rfl ?_ (fun K hK => ?_); (focus (simp [Region.wanted, yielded]; done))) | with_reducible refine Ord.walk_calm rfl rfl (fun K hK => ?_) | ((with_reducible refine Ord.at_wild ?_); refine Ord.wild_fieldAddr rfl rfl (fun W => by simp [go_sem]; rfl) (fun K hK => ?_)) | ((with_reducible refine Ord.at_wild ?_); refine Ord.wild_move rfl rfl (fun K hK => ?_)) | ((with_reducible refine Ord.at_wild ?_); refine Ord.wild_nilCheck rfl rfl (fun K hK => ?_)) | with_reducible refine Ord.walk_eff rfl (by first | (simp; done) | assumption | (go_simp; done) | (repeat (first | assumption | exact Below.refl _ _ | refine Below.drew ?_ | refine Below.alloc ?_ (by first | omega | (simp; done) | (simp; omega)) _ | refine Below.setCell ?_ (by first | omega | (simp; done) | (simp; omega)) _ | refine Below.trans ?_ (Below.mono (by assumption) (by first | omega | (simp; done) | (simp; omega)))))) (fun K hK => ?_) | with_reducible refine Ord.at_fork ?_ ?_ | with_reducible refine Ord.walk_nil ?_ | (with_reducible refine Ord.next_of (by first | (simp; done) | (go_simp; done) | (repeat (first | assumption | exact Below.refl _ _ | refine Below.drew ?_ | refine Below.alloc ?_ (by first | omega | (simp; done) | (simp; omega)) _ | refine Below.setCell ?_ (by first | omega | (simp; done) | (simp; omega)) _ | refine Below.trans ?_ (Below.mono (by assumption) (by first | omega | (simp; done) | (simp; omega)))))) (fun _ => ?_))
    | ((with_reducible refine Ord.at_calm ?_); refine Ord.calm_call rfl (fun W => Try.call66 _ W) (hsum.out _ _ (HT.out _ _ _ _)) (fun K hK => ?_)) | ((with_reducible refine Ord.at_wild ?_); refine Ord.wild_call rfl (fun W => Try.call66 _ W) (fun W hW => hsum.out _ _ (HT.out _ _ _ _)) (fun K hK => ?_)))
  have hxw : xb = W.heap.size := HS2.out
  have hLx : L < xb := by omega
  have hL5 := (ho5.block L hLx (by simp)).trans hL2'.out
  have hL6 := (ho6.block L (by omega) (by simp; omega)).trans hL5
  have hO7 : Off [mn] w6.heap.size w6 w7 := (((Off.refl _ _ w6).alloc (Nat.le_refl _) _).drew).turn ht7 (.inl (by simp))
  have hL7 := (hO7.block L (by omega) (by simpa using Ne.symm hml)).trans hL6
  have hll7 : L < w7.heap.size := (Array.getElem?_eq_some_iff.1 hL7).1
  refine ⟨_, _, run_endRound none hL7, rfl, ?_, World.putObj_heap_same hll7, ?_⟩
  · refine Off.putObj ?_ (.inl (by simp)) _
    refine ((ho2.mono (Nat.le_refl _) (by simp; intro k _ e; exact .inr e)).trans (ho5.mono (by omega) (by simp))).trans ((ho6.mono (by omega) (fun k hk e => ?_)).trans (hO7.mono (by omega) (by simp; intro k _ e; exact .inl e)))
    have : k = xb := by simpa using e
    omega
  · have := (World.putObj_heap_other (w := w7) (o := Obj.loop { cRec fn D T0 .ready none with state := .ready, pending := none }) hml).trans (show w7.heap[mn]? = _ from hm7)
    rw [HGN.out, HSN.out]
    exact this
end Go.Proofs.Ytjbjmoghloabpaa
set_option linter.unusedVariables false
set_option linter.unusedSimpArgs false
namespace Go.Proofs.Ytjbjmoghloabpaa
open Go.RowKit Go.Proofs
attribute [local irreducible] Ord.walk

def addX (gs : List Gr) (t : Ti) (V first : Nat) (white : Bool) (p : SL × Nat) (lst : List (SL × Nat)) : List (SL × Nat) := putM lst (chooseX gs t V first white p.1) (getM lst (chooseX gs t V first white p.1) + p.2)
def addTo (gs : List Gr) (t : Ti) (V first : Nat) (p : SL × Nat) (lst : List (SL × Nat)) : Nat → List (SL × Nat)
  | 0 => lst
  | 1 => addX gs t V first false p lst
  | _ => addX gs t V first true p (addX gs t V first false p lst)
theorem addTo_ok {gs : List Gr} {t : Ti} {V first : Nat} {p : SL × Nat} {lst : List (SL × Nat)} (hV : V ≤ 8) (hx : ∀ i ∈ p.1, i < 900) (h : MapOk lst) (k : Nat) : MapOk (addTo gs t V first p lst k) := by
  unfold addTo
  split
  · exact h
  · exact h.put (choose_ok hV hx) _
  · exact (h.put (choose_ok hV hx) _).put (choose_ok hV hx) _
theorem addTo_get {gs : List Gr} {t : Ti} {V first : Nat} {p : SL × Nat} {lst : List (SL × Nat)} (h : MapOk lst) (y : SL) (k : Nat) (hk : k ≤ 1) : getM (addTo gs t V first p lst k) y ≤ getM lst y + p.2 := by
  rcases (show k = 0 ∨ k = 1 by omega) with rfl | rfl
  · simp [addTo]
  · simp only [addTo, addX]
    rw [getM_put h]
    split
    · rename_i e; rw [e]; exact Nat.le_refl _
    · omega

set_option maxHeartbeats 4000000 in
set_option maxRecDepth 100000 in
theorem counts_beans {u0 u1 u2 u4 u5 u6 u7 u9 u11 u12 u13 u14 u15 u20 u21 u22 u23 u24 u25 u26 u27 u28 u29 u30 u31 u32 u33 u34 u35 u36 u37 u38 u39 u40 u41 u42 u43 u44 u45 u46 u47 u48 u49 u50 u51 u52 u53 u54 u55 u56 u57 u58 u59 u60 u61 u62 u63 u64 u65 u66 u67 u68 u69 u70 u71 u72 u73 u74 u75 u76 u77 u78 u79 u80 u81 u82 u83 u84 u85 u86 u87 u88 u89 u90 u91 u92 u93 u94 u95 u96 u97 u98 u99 u100 u101 u102 u103 u104 u105 u106 u107 u108 u109 u110 u111 u112 u113 u114 u115 u116 u117 u118 u119 u120 u121 u122 u123 u124 u125 u126 u127 u128 u129 u130 u131 u132 u133 u134 u135 u136 u137 u138 u139 u140 u141 u142 u143 u144 u145 u146 u147 u148 u149 u150 u151 u152 u153 u154 u155 u156 u157 u158 u159 u160 u161 u162 u163 u164 u165 u166 u167 u168 u169 u170 u171 u172 u173 u174 u175 u176 u177 u178 u179 u180 u181 u182 u183 u184 u185 u186 u187 u188 u189 u190 : Value} (L m fn D : Nat) (W : World) (v nb V bt gp gb gc fb p17 p18 p19 mn first : Nat) (t : Ti) (gs : List Gr) (p : SL × Nat) (lst : List (SL × Nat)) (T0 : Array Value) (HT0 : Hid (T0 = (u0 :: u1 :: u2 :: .pointer (some ⟨nb, 0, none⟩) :: u4 :: u5 :: u6 :: u7 :: .pointer (some ⟨bt, 0, none⟩) :: u9 :: .pointer (some ⟨gp, 0, none⟩) :: u11 :: u12 :: u13 :: u14 :: u15 :: .pointer (some ⟨fb, 0, none⟩) :: .pointer (some ⟨p17, 0, none⟩) :: .pointer (some ⟨p18, 0, none⟩) :: .pointer (some ⟨p19, 0, none⟩) :: u20 :: u21 :: u22 :: u23 :: u24 :: u25 :: u26 :: u27 :: u28 :: u29 :: u30 :: u31 :: u32 :: u33 :: u34 :: u35 :: u36 :: u37 :: u38 :: u39 :: u40 :: u41 :: u42 :: u43 :: u44 :: u45 :: u46 :: u47 :: u48 :: u49 :: u50 :: u51 :: u52 :: u53 :: u54 :: u55 :: u56 :: u57 :: u58 :: u59 :: u60 :: u61 :: u62 :: u63 :: u64 :: u65 :: u66 :: u67 :: u68 :: u69 :: u70 :: u71 :: u72 :: u73 :: u74 :: u75 :: u76 :: u77 :: u78 :: u79 :: u80 :: u81 :: u82 :: u83 :: u84 :: u85 :: u86 :: u87 :: u88 :: u89 :: u90 :: u91 :: u92 :: u93 :: u94 :: u95 :: u96 :: u97 :: u98 :: u99 :: u100 :: u101 :: u102 :: u103 :: u104 :: u105 :: u106 :: u107 :: u108 :: u109 :: u110 :: u111 :: u112 :: u113 :: u114 :: u115 :: u116 :: u117 :: u118 :: u119 :: u120 :: u121 :: u122 :: u123 :: u124 :: u125 :: u126 :: u127 :: u128 :: u129 :: u130 :: u131 :: u132 :: u133 :: u134 :: u135 :: u136 :: u137 :: u138 :: u139 :: u140 :: u141 :: u142 :: u143 :: u144 :: u145 :: u146 :: u147 :: u148 :: u149 :: u150 :: u151 :: u152 :: u153 :: u154 :: u155 :: u156 :: u157 :: u158 :: u159 :: u160 :: u161 :: u162 :: u163 :: u164 :: u165 :: u166 :: u167 :: u168 :: u169 :: u170 :: u171 :: u172 :: u173 :: u174 :: u175 :: u176 :: u177 :: u178 :: u179 :: u180 :: u181 :: u182 :: u183 :: u184 :: u185 :: u186 :: u187 :: u188 :: u189 :: u190 :: []).toArray))
    (hV : V ≤ 8) (hgl : gs.length ≤ 7) (hvo : ∀ g ∈ gs, g.1 < 2 ^ 62) (hx7 : p.1.length = 7) (hx : ∀ i ∈ p.1, i < 900)
    (env : REnv W v nb bt gp gb gc fb V first t gs) (e17 : Blk W p17 #[.map (some mn)] 127) (e18 : Blk W p18 (lcells p.1) 126) (e19 : Blk W p19 #[.int .i64 p.2] 3)
    (hm : MapIs W mn lst) (hmo : MapOk lst) (hbnd : ∀ y, getM lst y + 2 * p.2 < 2 ^ 62)
    (hL : W.heap[L]? = some (.loop (cRec fn D T0 .ready none))) :
    CallsIn Fence.wide m Try.prog 106 #[.func (.yield L) #[] #[]] W
      fun e W' => (∃ v, e = .returned v) ∧ Off [mn, L] W.heap.size W W' ∧ W'.heap[L]? = some (.loop (cRec fn D T0 .ready none)) ∧ MapIs W' mn (addTo gs t V first p lst 2) := by
  have hmL : NoC W mn := NoC.map hm
  have hLL : NoC W L := NoC.loop hL
  have hmlt := hm.lt
  have hLlt : L < W.heap.size := (Array.getElem?_eq_some_iff.1 hL).1
  have hround : Hid (∀ (k : Nat) (white : Bool) (W' : World), k ≤ 1 → white = (k == 1) → Off [mn, L] W.heap.size W W' → W'.heap[L]? = some (.loop (cRec fn D T0 .ready none)) → MapIs W' mn (addTo gs t V first p lst k) →
      RoundIn Fence.wide (m - 1) Try.prog L fn (T0.setIfInBounds 129 (.bool white)) (rfA cRf) (sI cRf) W' fun e W2 => e = .returned (.bool true) ∧ Off [mn, L] W'.heap.size W' W2 ∧ W2.heap[L]? = some (.loop (cRec fn D T0 .ready none)) ∧ MapIs W2 mn (addTo gs t V first p lst (k + 1))) := by
    intro k white W' hk hwh ho hL' hm'
    have hT : ∀ q ∈ [mn, L], NoC W q := by simp; exact ⟨hmL, hLL⟩
    have hg := addTo_get (gs := gs) (t := t) (V := V) (first := first) (p := p) (lst := lst) hmo (chooseX gs t V first white p.1) k hk
    have hb := hbnd (chooseX gs t V first white p.1)
    have e1 : T0.setIfInBounds 129 (.bool white) = (u0 :: u1 :: u2 :: .pointer (some ⟨nb, 0, none⟩) :: u4 :: u5 :: u6 :: u7 :: .pointer (some ⟨bt, 0, none⟩) :: u9 :: .pointer (some ⟨gp, 0, none⟩) :: u11 :: u12 :: u13 :: u14 :: u15 :: .pointer (some ⟨fb, 0, none⟩) :: .pointer (some ⟨p17, 0, none⟩) :: .pointer (some ⟨p18, 0, none⟩) :: .pointer (some ⟨p19, 0, none⟩) :: u20 :: u21 :: u22 :: u23 :: u24 :: u25 :: u26 :: u27 :: u28 :: u29 :: u30 :: u31 :: u32 :: u33 :: u34 :: u35 :: u36 :: u37 :: u38 :: u39 :: u40 :: u41 :: u42 :: u43 :: u44 :: u45 :: u46 :: u47 :: u48 :: u49 :: u50 :: u51 :: u52 :: u53 :: u54 :: u55 :: u56 :: u57 :: u58 :: u59 :: u60 :: u61 :: u62 :: u63 :: u64 :: u65 :: u66 :: u67 :: u68 :: u69 :: u70 :: u71 :: u72 :: u73 :: u74 :: u75 :: u76 :: u77 :: u78 :: u79 :: u80 :: u81 :: u82 :: u83 :: u84 :: u85 :: u86 :: u87 :: u88 :: u89 :: u90 :: u91 :: u92 :: u93 :: u94 :: u95 :: u96 :: u97 :: u98 :: u99 :: u100 :: u101 :: u102 :: u103 :: u104 :: u105 :: u106 :: u107 :: u108 :: u109 :: u110 :: u111 :: u112 :: u113 :: u114 :: u115 :: u116 :: u117 :: u118 :: u119 :: u120 :: u121 :: u122 :: u123 :: u124 :: u125 :: u126 :: u127 :: u128 :: .bool white :: u130 :: u131 :: u132 :: u133 :: u134 :: u135 :: u136 :: u137 :: u138 :: u139 :: u140 :: u141 :: u142 :: u143 :: u144 :: u145 :: u146 :: u147 :: u148 :: u149 :: u150 :: u151 :: u152 :: u153 :: u154 :: u155 :: u156 :: u157 :: u158 :: u159 :: u160 :: u161 :: u162 :: u163 :: u164 :: u165 :: u166 :: u167 :: u168 :: u169 :: u170 :: u171 :: u172 :: u173 :: u174 :: u175 :: u176 :: u177 :: u178 :: u179 :: u180 :: u181 :: u182 :: u183 :: u184 :: u185 :: u186 :: u187 :: u188 :: u189 :: u190 :: []).toArray := by rw [HT0.out]; rfl
    rw [e1]
    refine (counts_round (m := m - 1) L fn D W' v nb V bt gp gb gc fb p17 p18 p19 mn first t gs white p.1 p.2 (addTo gs t V first p lst k) [] T0 hV hgl hvo hx7 hx (env.off ho hT)
      (ho.blk e17 e17.lt (by simp; exact ⟨hmL.blk e17, hLL.blk e17⟩)) (ho.blk e18 e18.lt (by simp; exact ⟨hmL.blk e18, hLL.blk e18⟩)) (ho.blk e19 e19.lt (by simp; exact ⟨hmL.blk e19, hLL.blk e19⟩))
      hm' (addTo_ok hV hx hmo k) (by omega) hL').mono ?_
    rintro e W2 ⟨rfl, ho2, hL2, hm2⟩
    refine ⟨rfl, ho2, hL2, ?_⟩
    rcases (show k = 0 ∨ k = 1 by omega) with rfl | rfl
    · subst hwh; exact hm2
    · subst hwh; exact hm2
  have hyield : Hid (∀ (white : Bool) (W' : World), W'.heap[L]? = some (.loop (cRec fn D T0 .ready none)) → (Instr.yield L #[.bool white]).run Try.prog W' = .ok (.round L fn (T0.setIfInBounds 129 (.bool white)) (rfA cRf) (sI cRf)) W') := by
    intro white W' h
    have := run_yield (P := Try.prog) (args := #[.bool white]) h rfl
    simpa [cRec] using this
  clear HT0 env e17 e18 e19 hbnd hx hx7 hgl hvo hV
  refine callsIn_of_wp Try.func106 rfl trivial ?_ rfl
  simp only [Try.ntmps106, List.size_toArray, List.length_cons, List.length_nil, Nat.reduceAdd, Nat.reduceSub, Array.replicate_succ, Array.replicate_zero, List.push_toArray, List.append_toArray, List.nil_append, List.cons_append]
  gi_wp2_with fail
  obtain ⟨W0, hW0⟩ : ∃ W0, W0 = W.alloc (.cells #[.bool false, .bool true] 4) := ⟨_, rfl⟩
  have b0 : Blk W0 W.heap.size #[.bool false, .bool true] 4 := by rw [hW0]; exact Blk.new _ _ _
  have ho0 : Off [mn, L] W.heap.size W W0 := by rw [hW0]; exact (Off.refl _ _ _).alloc (Nat.le_refl _) _
  have hs0 : W0.heap.size = W.heap.size + 1 := by rw [hW0]; simp
  have hL0 : W0.heap[L]? = some (.loop (cRec fn D T0 .ready none)) := by rw [hW0]; exact (Below.heap_alloc _ _ _ hLlt).trans hL
  have hm0 : MapIs W0 mn (addTo gs t V first p lst 0) := by rw [hW0]; exact (hm.alloc _)
  rw [← hW0]
  clear hW0 hL hm
  generalize hsb : W.heap.size = sb at *
  have HSB := Lib.hid hsb
  clear hsb
  gi_loopw [6] (fun i wr => ∃ k : Nat, k ≤ 2 ∧ i = .int .i64 k ∧ Blk wr sb #[.bool false, .bool true] 4 ∧ Off [mn, L] sb W wr ∧ Hid (wr.heap[L]? = some (.loop (cRec fn D T0 .ready none))) ∧ MapIs wr mn (addTo gs t V first p lst k)) (fun i _ => 2 - (intOf i).toNat)
  case atStart => exact ⟨0, by omega, rfl, b0, ho0, hL0, hm0⟩
  case round =>
    clear b0 ho0 hs0 hL0 hm0
    obtain ⟨k, hk, rfl, b0, ho, hL, hm⟩ := hrel
    have r0 := b0.cell
    by_cases h2 : k = 2
    · subst h2
      gi_wp2_with fail
      go_end0
      exact ⟨⟨_, rfl⟩, by rw [HSB.out]; exact ho, hL.out, hm⟩
    · have hc : ∃ white : Bool, white = (k == 1) ∧ wr.cell? ⟨sb, k, none⟩ = some (.bool white) := by
        rcases (show k = 0 ∨ k = 1 by omega) with rfl | rfl
        · exact ⟨false, rfl, r0 0⟩
        · exact ⟨true, rfl, r0 1⟩
      obtain ⟨white, hwh, hc⟩ := hc
      clear r0
      have hk1 : k ≤ 1 := by omega
      have hklt : (k : Int) < 2 := by omega
      have HWH := Lib.hid hwh
      clear hwh
      have hy := hyield.out white wr hL.out
      have hlt := b0.lt
      gi_wp2_with fail
      refine ⟨fun h => by simp [Fence.wide] at h, ?_⟩
      refine (hround.out k white wr hk1 HWH.out ho hL.out hm).mono ?_
      rintro e W2 ⟨rfl, ho2, hL2, hm2⟩
      clear hy
      have b2 := ho2.blk b0 hlt (by simp; omega)
      have ho3 := ho.trans (ho2.mono (by omega) (fun _ _ e => e))
      have HL2 := Lib.hid hL2
      clear hL2 hL
      gi_wp2_with fail
      refine ⟨⟨k + 1, by omega, by go_num, b2, ho3, HL2, hm2⟩, by simp [intOf]; omega⟩
end Go.Proofs.Ytjbjmoghloabpaa
set_option linter.unusedVariables false
set_option linter.unusedSimpArgs false
namespace Go.Proofs.Ytjbjmoghloabpaa
open Go.RowKit Go.Proofs
attribute [local irreducible] Ord.walk

def Mk (D : Nat) : Deferred := { target := .collected D, args := #[] }
/-- The deferred calls are marks of blocks that hold none. -/
def Marks (base : Nat) (ds : List Deferred) (w : World) : Prop := ∃ Ds : List Nat, ds = Ds.map Mk ∧ Ds.Nodup ∧ ∀ D ∈ Ds, base ≤ D ∧ w.heap[D]? = some (.deferred (some []))
theorem Marks.nil (base : Nat) (w : World) : Marks base [] w := ⟨[], rfl, List.nodup_nil, by simp⟩
theorem Marks.off {base : Nat} {ds : List Deferred} {w w' : World} {T : List Nat} (h : Marks base ds w) (ho : Off T w.heap.size w w') (hT : ∀ k ∈ T, ∀ x, w.heap[k]? ≠ some (.deferred x)) : Marks base ds w' := by
  obtain ⟨Ds, h1, h2, h3⟩ := h
  refine ⟨Ds, h1, h2, fun D hD => ⟨(h3 D hD).1, ?_⟩⟩
  have hh := (h3 D hD).2
  exact (ho.block D (Array.getElem?_eq_some_iff.1 hh).1 (fun e => hT D e _ hh)).trans hh
theorem Marks.cons {base D : Nat} {ds : List Deferred} {w : World} (h : Marks base ds w) (hb : base ≤ D) (hD : w.heap[D]? = some (.deferred (some []))) (hn : ∀ d ∈ ds, d ≠ Mk D) : Marks base ([Mk D] ++ ds) w := by
  obtain ⟨Ds, rfl, h2, h3⟩ := h
  refine ⟨D :: Ds, rfl, List.nodup_cons.2 ⟨fun e => hn _ (List.mem_map_of_mem e) rfl, h2⟩, fun E hE => ?_⟩
  rcases List.mem_cons.1 hE with rfl | hE
  · exact ⟨hb, hD⟩
  · exact h3 E hE
theorem Marks.lt {base : Nat} {ds : List Deferred} {w : World} (h : Marks base ds w) : ∀ d ∈ ds, ∃ D, d = Mk D ∧ D < w.heap.size := by
  obtain ⟨Ds, rfl, h2, h3⟩ := h
  intro d hd
  obtain ⟨D, hD, rfl⟩ := List.mem_map.1 hd
  exact ⟨D, rfl, (Array.getElem?_eq_some_iff.1 (h3 D hD).2).1⟩
/-- Leaving past marks. -/
theorem leaves_marks {F : Fence} {n : Nat} {P : Program} {fn : Func} {tmps : Array Value} {R : Ending → World → Prop} {base : Nat} :
    ∀ (Ds : List Nat) (w : World), Ds.Nodup → (∀ D ∈ Ds, base ≤ D ∧ w.heap[D]? = some (.deferred (some []))) →
    (∀ w', Off Ds w.heap.size w w' → LeavesIn F n P fn tmps R [] .returning w') → LeavesInM F n P fn tmps R (Ds.map Mk) .returning w
  | [], w, _, _, h => h w (Off.refl _ _ _)
  | D :: Ds, w, hn, hD, h => by
    simp only [List.nodup_cons] at hn
    refine ⟨by simp, .inl ⟨D, w.putObj D (.deferred none), rfl, run_takeDeferred (hD D (by simp)).2, ?_⟩⟩
    have ho : Off [D] w.heap.size w (w.putObj D (.deferred none)) := (Off.refl _ _ _).putObj (.inl (by simp)) _
    refine leaves_marks (base := base) Ds _ hn.2 (fun E hE => ?_) (fun w' hw' => h w' ?_)
    · have hh := (hD E (by simp [hE])).2
      have : E ≠ D := fun e => hn.1 (e ▸ hE)
      exact ⟨(hD E (by simp [hE])).1, (ho.block E (Array.getElem?_eq_some_iff.1 hh).1 (by simpa using this)).trans hh⟩
    · exact (ho.mono (Nat.le_refl _) (by intro k _ e; simp at e; simp [e])).trans (hw'.mono (by simp) (by intro k _ e; simp [e]))

theorem putM_len (l : List (SL × Nat)) (y : SL) (v : Nat) : (putM l y v).length ≤ l.length + 1 := by
  unfold putM; split <;> simp
theorem putM_kb {l : List (SL × Nat)} {b : Nat} (h : ∀ p ∈ l, ∀ i ∈ p.1, i ≤ b) {y : SL} (hy : ∀ i ∈ y, i ≤ b) (v : Nat) : ∀ p ∈ putM l y v, ∀ i ∈ p.1, i ≤ b := by
  unfold putM
  split
  · intro p hp
    obtain ⟨q, hq, rfl⟩ := List.mem_map.1 hp
    split
    · exact hy
    · exact h q hq
  · intro p hp
    rcases List.mem_append.1 hp with hp | hp
    · exact h p hp
    · simp only [List.mem_singleton] at hp; subst hp; exact hy
theorem f7_le {x : SL} {b : Nat} (h : ∀ i ∈ x, i ≤ b) (i : Nat) : f7 x i ≤ b := by
  unfold f7
  rw [List.getD_eq_getElem?_getD]
  cases hi : x[i]? with
  | none => simp
  | some n => simpa using h n (List.mem_of_getElem? hi)
theorem choose_le {gs : List Gr} {t : Ti} {V first : Nat} {white : Bool} {x : SL} {b : Nat} (hV : V ≤ 8) (h : ∀ i ∈ x, i ≤ b) : ∀ i ∈ chooseX gs t V first white x, i ≤ b + 8 := by
  intro n hn
  have : ∀ i, chooseTo gs t first white (f7 x) V i ≤ b + 8 := fun i => by
    have h1 := chooseTo_le gs t first white (f7 x) V i
    have h2 := f7_le h i
    omega
  simp only [chooseX, x7, List.mem_cons, List.not_mem_nil, or_false] at hn
  rcases hn with rfl | rfl | rfl | rfl | rfl | rfl | rfl <;> exact this _
theorem addTo_len (gs : List Gr) (t : Ti) (V first : Nat) (p : SL × Nat) (l : List (SL × Nat)) : (addTo gs t V first p l 2).length ≤ l.length + 2 := by
  simp only [addTo, addX]
  have h1 := putM_len l (chooseX gs t V first false p.1) (getM l (chooseX gs t V first false p.1) + p.2)
  generalize putM l (chooseX gs t V first false p.1) (getM l (chooseX gs t V first false p.1) + p.2) = m at *
  have h2 := putM_len m (chooseX gs t V first true p.1) (getM m (chooseX gs t V first true p.1) + p.2)
  omega
theorem addTo_kb {gs : List Gr} {t : Ti} {V first : Nat} {p : SL × Nat} {l : List (SL × Nat)} {b : Nat} (hV : V ≤ 8) (hx : ∀ i ∈ p.1, i ≤ b) (h : ∀ p ∈ l, ∀ i ∈ p.1, i ≤ b + 8) : ∀ q ∈ addTo gs t V first p l 2, ∀ i ∈ q.1, i ≤ b + 8 :=
  putM_kb (putM_kb h (choose_le hV hx) _) (choose_le hV hx) _
theorem addTo_rep {gs : List Gr} {t : Ti} {V first : Nat} {p : SL × Nat} {l : List (SL × Nat)} {S : List SL} (hV : V ≤ 8) (hx : ∀ i ∈ p.1, i < 900) (h : Rep l S) : Rep (addTo gs t V first p l 2) (S ++ addOf (chooseX gs t V first) p) := by
  have h1 := h.add (choose_ok (gs := gs) (t := t) (V := V) (first := first) (white := false) hV hx) p.2
  have h2 := h1.add (choose_ok (gs := gs) (t := t) (V := V) (first := first) (white := true) hV hx) p.2
  rw [List.append_assoc] at h2
  exact h2
/-- As many places as there are, at most. -/
theorem seen_len {n : Nat} {seen : List Nat} (hn : seen.Nodup) (hl : ∀ i ∈ seen, i < n) : seen.length ≤ n := by
  have h1 : seen.Perm ((List.range n).filter fun i => decide (i ∈ seen)) := (List.perm_ext_iff_of_nodup hn (List.Pairwise.filter _ List.nodup_range)).2 fun i => by
    simp only [List.mem_filter, List.mem_range, decide_eq_true_eq]
    exact ⟨fun h => ⟨hl i h, h⟩, fun h => h.2⟩
  have h2 := h1.length_eq
  have h3 := List.length_filter_le (fun i => decide (i ∈ seen)) (List.range n)
  simp only [List.length_range] at h3
  omega
theorem addOf_len (st : Bool → SL → SL) (p : SL × Nat) : (addOf st p).length = 2 * p.2 := by simp [addOf]; omega
theorem flat_len {α : Type} (f : α → List SL) (M : Nat) (L : List α) (h : ∀ p ∈ L, (f p).length ≤ M) : (L.flatMap f).length ≤ L.length * M := by
  induction L with
  | nil => simp
  | cons p L ih =>
    rw [List.flatMap_cons, List.length_append, List.length_cons, Nat.succ_mul]
    have h1 := h p (by simp)
    have h2 := ih (fun q hq => h q (by simp [hq]))
    omega
theorem Rep.val_le {l : List (SL × Nat)} {S : List SL} (h : Rep l S) {j : Nat} {p : SL × Nat} (hj : l[j]? = some p) : p.2 ≤ S.length := by
  rw [← getM_at h.1 hj, h.2]
  exact List.count_le_length

/-- What the loop over states keeps. -/
structure L3 (gs : List Gr) (t : Ti) (V first : Nat) (W : World) (base r sm mn b : Nat) (l : List (SL × Nat)) (ds : List Deferred) (w : World) (seen : List Nat) (cur : List (SL × Nat)) : Prop where
  marks : Marks base ds w
  off : Off [mn, r] W.heap.size W w
  it : IterIs w r sm l.length seen
  nd : seen.Nodup
  lt : ∀ i ∈ seen, i < l.length
  src : MapIs w sm l
  nxt : MapIs w mn cur
  rep : Rep cur ((seen.map fun i => l.getD i ([], 0)).flatMap (addOf (chooseX gs t V first)))
  kb : ∀ p ∈ cur, ∀ i ∈ p.1, i ≤ b + 8
  len : cur.length ≤ 2 * seen.length
/-- Numbers stay small. -/
theorem L3.small {gs : List Gr} {t : Ti} {V first : Nat} {W : World} {base r sm mn b : Nat} {l : List (SL × Nat)} {ds : List Deferred} {w : World} {seen : List Nat} {cur : List (SL × Nat)} {S : List SL}
    (h : L3 gs t V first W base r sm mn b l ds w seen cur) (hl : Rep l S) (hS : S.length ≤ 256) (hll : l.length ≤ 256) {j : Nat} {p : SL × Nat} (hj : l[j]? = some p) (y : SL) : getM cur y + 2 * p.2 < 2 ^ 62 := by
  have h1 := hl.val_le hj
  have h2 := seen_len h.nd h.lt
  have h3 : getM cur y ≤ ((seen.map fun i => l.getD i ([], 0)).flatMap (addOf (chooseX gs t V first))).length := by rw [h.rep.2]; exact List.count_le_length
  have h4 := flat_len (addOf (chooseX gs t V first)) 512 (seen.map fun i => l.getD i ([], 0)) (fun q hq => by
    obtain ⟨i, hi, rfl⟩ := List.mem_map.1 hq
    have hil := h.lt i hi
    have : l[i]? = some (l.getD i ([], 0)) := by rw [List.getD_eq_getElem?_getD]; simp [hil]
    have := hl.val_le this
    rw [addOf_len]; omega)
  rw [List.length_map] at h4
  have h5 : seen.length * 512 ≤ 256 * 512 := Nat.mul_le_mul_right _ (by omega)
  omega
/-- One entry more. -/
theorem L3.step {gs : List Gr} {t : Ti} {V first : Nat} {W : World} {base r sm mn b : Nat} {l : List (SL × Nat)} {ds ds' : List Deferred} {w w' : World} {seen : List Nat} {cur : List (SL × Nat)} {i : Nat} {p : SL × Nat}
    (h : L3 gs t V first W base r sm mn b l ds w seen cur) (hV : V ≤ 8) (hb : b ≤ 800) (hp : l[i]? = some p) (hi : i ∉ seen) (hk : ∀ p ∈ l, ∀ i ∈ p.1, i ≤ b)
    (hm : Marks base ds' w') (ho : Off [mn, r] W.heap.size W w') (hit : IterIs w' r sm l.length (seen ++ [i])) (hs : MapIs w' sm l) (hn : MapIs w' mn (addTo gs t V first p cur 2)) :
    L3 gs t V first W base r sm mn b l ds' w' (seen ++ [i]) (addTo gs t V first p cur 2) := by
  have hil := (List.getElem?_eq_some_iff.1 hp).1
  have hpx := hk p (List.mem_of_getElem? hp)
  refine ⟨hm, ho, hit, ?_, ?_, hs, hn, ?_, addTo_kb hV hpx h.kb, ?_⟩
  · rw [List.nodup_append]
    exact ⟨h.nd, by simp, by intro a ha c hc e; simp at hc; subst hc; subst e; exact hi ha⟩
  · intro j hj
    rcases List.mem_append.1 hj with hj | hj
    · exact h.lt j hj
    · simp at hj; omega
  · have h1 := addTo_rep (gs := gs) (t := t) (V := V) (first := first) (p := p) hV (fun i hi => by have := hpx i hi; omega) h.rep
    have : l.getD i ([], 0) = p := by rw [List.getD_eq_getElem?_getD, hp]; rfl
    rw [List.map_append, List.flatMap_append, List.map_singleton, List.flatMap_singleton, this]
    exact h1
  · have := addTo_len gs t V first p cur
    have := h.len
    simp; omega
end Go.Proofs.Ytjbjmoghloabpaa
