/- Parts of a proof: MoreH, MoreI. -/
import Derived.Test.YtjbjmoghloabpaaP28
import Derived.Test.YtjbjmoghloabpaaP24
import Derived.IntWalk
namespace Go.Ord
theorem wp_regionGN {P : Program} {Q : Exit → Act → World → Prop} {id : Nat} {a : Act} {w : World} {lo : List Oper} (F : Nat) (l : List (Nat × Nat)) (H : World → Prop) (hm : P.follows .mixedOrders = true) (hp : planOkG F lo.toArray l = true)
    (hH : H w.drew) (h : walk P lo.toArray H (Nm Q) l a w.drew) : (Code.region id lo.toArray true).wp P Q a w := by
  refine wp_mono (wp_regionG (Q := Nm Q) F l H hm hp (fun c a d v w h => h.elim) hH h) ?_
  intro e a w h
  cases e <;> first | exact h | exact h.elim
end Go.Ord
set_option linter.unusedVariables false
set_option linter.unusedSimpArgs false
namespace Go.Proofs.Ytjbjmoghloabpaa
open Go.RowKit Go.Proofs
attribute [local irreducible] Ord.walk
noncomputable def mC22 : Code := mFrom 22 moreCode
/-- Two rows that were copied. -/
structure Olds (W : World) (z : Nat) (b : Bn) (v21 v22 : Value) : Prop where
  o0 : OwnG W z v21 b.gs
  o1 : OwnP W z v22 b.ps
theorem Olds.below {W W' : World} {z : Nat} {b : Bn} {v21 v22 : Value} (h : Olds W z b v21 v22) (hb : Below W.heap.size W W') : Olds W' z b v21 v22 := ⟨ownsRow_below h.o0 hb, ownsRow_below h.o1 hb⟩
theorem Olds.span {W W' : World} {z p : Nat} {b : Bn} {v21 v22 : Value} {A : Array Value} (h : Olds W z b v21 v22) (hb : Blk W p A 23) (hk : ∀ k, k ≠ p → W'.heap[k]? = W.heap[k]?) : Olds W' z b v21 v22 :=
  ⟨own_store h.o0 (Nat.le_refl _) hb (by decide) hk, own_store h.o1 (Nat.le_refl _) hb (by decide) hk⟩
theorem blk_ne {w : World} {b b' : Nat} {A A' : Array Value} {t t' : TypeId} (h : Blk w b A t) (h' : Blk w b' A' t') (hne : t ≠ t') : b ≠ b' := by
  rintro rfl
  have h2 : w.heap[b]? = _ := h
  have h3 : w.heap[b]? = _ := h'
  rw [h2] at h3
  simp at h3
  exact hne h3.2
noncomputable def m54 : List Oper := regOf 54 moreCode
set_option maxRecDepth 100000 in
theorem plan54 : Ord.planOkG 3 m54.toArray [(0, 0), (1, 0), (2, 0), (3, 0), (4, 0), (5, 0), (6, 0), (7, 0), (8, 0), (9, 0), (10, 0), (11, 0), (12, 0), (13, 0), (14, 0), (15, 0), (16, 0), (17, 0), (18, 0), (19, 0), (20, 0), (21, 0), (22, 0), (23, 0), (24, 0), (25, 0), (26, 0), (27, 0), (28, 0), (29, 0), (30, 0), (31, 1), (32, 0), (33, 0), (34, 0), (35, 0), (36, 0), (37, 0), (38, 0), (39, 0), (40, 0), (41, 0), (42, 2), (43, 0), (44, 0), (45, 0)] = true := by kernel_rfl
set_option maxHeartbeats 40000000 in
set_option maxRecDepth 100000 in
theorem more_other_end {u0 u1 u2 u3 u5 u6 u7 u8 u9 u10 u11 u12 u14 u16 u17 u18 u19 u20 u29 u30 u31 u32 u33 u34 u35 u36 u37 u38 u39 u40 u42 u43 u44 u45 u46 u47 u48 u49 u50 u51 u52 u53 u54 u55 u56 u57 u58 u59 u60 u61 u62 u63 u64 u65 u66 u67 u68 u69 u70 u71 u72 u73 u74 u75 u76 u77 u78 u79 u80 u81 u82 u83 u84 u85 u86 u87 u88 u89 u90 u91 u92 u93 u94 u95 u96 u97 u98 u99 u100 u101 u102 u103 u104 u105 u106 u107 u108 u109 u110 u111 u112 u113 u114 u115 u116 u117 u118 u119 u120 u121 u122 u123 u124 u125 u126 u127 u128 u129 u130 u131 u132 u133 u134 u135 u136 u137 u138 u139 u140 u141 u142 u143 u144 u145 u146 u147 u148 u149 u150 u151 u152 u153 u154 u155 u156 u157 u158 u159 u160 u161 u162 u163 u164 u165 u166 u167 u168 u169 u170 u171 u172 u173 u174 u175 u176 u177 u178 u179 u180 u181 u182 u183 u184 u185 u186 u187 u188 u189 u190 u191 u192 u193 u194 u195 u196 u197 u198 u199 u200 u201 u202 u203 u204 u205 u206 u207 u208 u209 u210 u211 u212 u213 u214 u215 u216 u217 u218 u219 u220 u221 u222 u223 u224 u225 u226 u227 u228 u229 u230 u231 u232 u233 u234 u235 u236 u237 u238 u239 u240 u241 u242 u243 u244 u245 u246 u247 u248 u249 u250 u251 u252 u253 u254 u255 u256 u257 u258 u259 u260 u261 u262 u263 u264 u265 u266 u267 u268 u269 u270 u271 u272 u273 u274 u275 u276 u277 u278 u279 u280 u281 u282 u283 u284 u285 u286 u287 u288 u289 u290 u291 u292 u293 u294 u295 u296 u297 u298 u299 u300 u301 u302 u303 u304 u305 u306 u307 u308 u309 u310 u311 u312 u313 u314 u315 u316 u317 u318 u319 u320 u321 u322 u323 u324 u325 u326 u327 u328 u329 u330 u331 u332 u333 u334 u335 u336 u337 u338 u339 u340 u341 u342 u343 u344 u345 u346 u347 u348 u349 u350 u351 u352 u353 u354 u355 u356 u357 u358 u359 u360 u361 u362 u363 u364 u365 u366 u367 u368 u369 u370 u371 u372 u373 u374 u375 u376 u377 u378 u379 u380 u381 u382 u383 u384 u385 u386 u387 u388 u389 u390 u391 u392 u393 u394 u395 u396 u397 u398 u399 u400 u401 u402 u403 u404 u405 u406 u407 u408 u409 u410 u411 u412 u413 u414 u415 u416 u417 u418 u419 u420 u421 u422 u423 u424 u425 u426 u427 u428 u429 u430 u431 u432 u433 u434 u435 u436 u437 u438 u439 u440 u441 u442 u443 u444 u445 u446 u447 u448 u449 u450 u451 u452 u453 u454 u455 u456 u457 u458 u459 u460 u461 u462 u463 u464 u465 u466 u467 u468 u469 u470 u471 u472 u473 u474 u475 u476 u477 u478 u479 u480 u481 u482 u483 u484 u485 u486 u487 u488 u489 u490 u491 u492 u493 u494 : Value} (Q : Exit → Act → World → Prop) {b : Bn} {ga pa : Option Addr} {gc pc : Nat} {w0 w1 W : World} {p4 p13 p23 p41 z lo hi wh bl n loU hiU qU : Nat} {e : Int} {ot : Bool} {v21 v22 y0 y1 x0 x1 x2 x3 x4 x5 : Value} (hl : b.gs.length ≤ 40 ∧ b.ps.length ≤ 40) (hV : 1 ≤ b.V ∧ b.V ≤ 8) (hbd : lo ≤ 8 ∧ hi ≤ 8 ∧ loU ≤ 8 ∧ hiU ≤ 8) (he : e = 10 ∨ e = 0)
    (hB0 : Below w0.heap.size w0 w1) (hB : Below w1.heap.size w1 W) (hm : BnAt w0 b ga pa) (bb : Blk W p4 #[.int .i64 b.V, .int .i64 b.nd, .int .i64 b.lo, .int .i64 b.hi, .slice ga b.gs.length gc, .slice pa b.ps.length pc] 27) (B13 : Blk W p13 #[x0, x1, x2, x3, x4, x5] 27) (B23 : Blk W p23 #[.int .i64 (lo : Int), .int .i64 (hi : Int)] 23) (B41 : Blk W p41 #[y0, y1] 23) (hne : p23 ≠ p41) (hp0 : w1.heap.size ≤ p41) (hold : Olds W z b v21 v22)
    (hU : ot = true → Four (.agg #[x0, x1, x2, x3, x4, x5]) w1 loU hiU bl wh n qU e ∧ (e = 0 → (loU : Int) = b.V - hi ∧ (hiU : Int) = b.V - lo))
    (hexit : ∀ (tm : Array Value) W', tm[8]? = some (.bool true) → Below w0.heap.size w0 W' → Q .ret ⟨tm, []⟩ W') :
    mC22.wp Try.prog Q ⟨(u0 :: u1 :: u2 :: u3 :: .pointer (some ⟨p4, 0, none⟩) :: u5 :: u6 :: u7 :: u8 :: u9 :: u10 :: u11 :: u12 :: .pointer (some ⟨p13, 0, none⟩) :: u14 :: .bool ot :: u16 :: u17 :: u18 :: u19 :: u20 :: v21 :: v22 :: .pointer (some ⟨p23, 0, none⟩) :: .int .i64 e :: .int .i64 (wh : Int) :: .int .i64 (bl : Int) :: .int .i64 e :: .int .i64 (n : Int) :: u29 :: u30 :: u31 :: u32 :: u33 :: u34 :: u35 :: u36 :: u37 :: u38 :: u39 :: u40 :: .pointer (some ⟨p41, 0, none⟩) :: u42 :: u43 :: u44 :: u45 :: u46 :: u47 :: u48 :: u49 :: u50 :: u51 :: u52 :: u53 :: u54 :: u55 :: u56 :: u57 :: u58 :: u59 :: u60 :: u61 :: u62 :: u63 :: u64 :: u65 :: u66 :: u67 :: u68 :: u69 :: u70 :: u71 :: u72 :: u73 :: u74 :: u75 :: u76 :: u77 :: u78 :: u79 :: u80 :: u81 :: u82 :: u83 :: u84 :: u85 :: u86 :: u87 :: u88 :: u89 :: u90 :: u91 :: u92 :: u93 :: u94 :: u95 :: u96 :: u97 :: u98 :: u99 :: u100 :: u101 :: u102 :: u103 :: u104 :: u105 :: u106 :: u107 :: u108 :: u109 :: u110 :: u111 :: u112 :: u113 :: u114 :: u115 :: u116 :: u117 :: u118 :: u119 :: u120 :: u121 :: u122 :: u123 :: u124 :: u125 :: u126 :: u127 :: u128 :: u129 :: u130 :: u131 :: u132 :: u133 :: u134 :: u135 :: u136 :: u137 :: u138 :: u139 :: u140 :: u141 :: u142 :: u143 :: u144 :: u145 :: u146 :: u147 :: u148 :: u149 :: u150 :: u151 :: u152 :: u153 :: u154 :: u155 :: u156 :: u157 :: u158 :: u159 :: u160 :: u161 :: u162 :: u163 :: u164 :: u165 :: u166 :: u167 :: u168 :: u169 :: u170 :: u171 :: u172 :: u173 :: u174 :: u175 :: u176 :: u177 :: u178 :: u179 :: u180 :: u181 :: u182 :: u183 :: u184 :: u185 :: u186 :: u187 :: u188 :: u189 :: u190 :: u191 :: u192 :: u193 :: u194 :: u195 :: u196 :: u197 :: u198 :: u199 :: u200 :: u201 :: u202 :: u203 :: u204 :: u205 :: u206 :: u207 :: u208 :: u209 :: u210 :: u211 :: u212 :: u213 :: u214 :: u215 :: u216 :: u217 :: u218 :: u219 :: u220 :: u221 :: u222 :: u223 :: u224 :: u225 :: u226 :: u227 :: u228 :: u229 :: u230 :: u231 :: u232 :: u233 :: u234 :: u235 :: u236 :: u237 :: u238 :: u239 :: u240 :: u241 :: u242 :: u243 :: u244 :: u245 :: u246 :: u247 :: u248 :: u249 :: u250 :: u251 :: u252 :: u253 :: u254 :: u255 :: u256 :: u257 :: u258 :: u259 :: u260 :: u261 :: u262 :: u263 :: u264 :: u265 :: u266 :: u267 :: u268 :: u269 :: u270 :: u271 :: u272 :: u273 :: u274 :: u275 :: u276 :: u277 :: u278 :: u279 :: u280 :: u281 :: u282 :: u283 :: u284 :: u285 :: u286 :: u287 :: u288 :: u289 :: u290 :: u291 :: u292 :: u293 :: u294 :: u295 :: u296 :: u297 :: u298 :: u299 :: u300 :: u301 :: u302 :: u303 :: u304 :: u305 :: u306 :: u307 :: u308 :: u309 :: u310 :: u311 :: u312 :: u313 :: u314 :: u315 :: u316 :: u317 :: u318 :: u319 :: u320 :: u321 :: u322 :: u323 :: u324 :: u325 :: u326 :: u327 :: u328 :: u329 :: u330 :: u331 :: u332 :: u333 :: u334 :: u335 :: u336 :: u337 :: u338 :: u339 :: u340 :: u341 :: u342 :: u343 :: u344 :: u345 :: u346 :: u347 :: u348 :: u349 :: u350 :: u351 :: u352 :: u353 :: u354 :: u355 :: u356 :: u357 :: u358 :: u359 :: u360 :: u361 :: u362 :: u363 :: u364 :: u365 :: u366 :: u367 :: u368 :: u369 :: u370 :: u371 :: u372 :: u373 :: u374 :: u375 :: u376 :: u377 :: u378 :: u379 :: u380 :: u381 :: u382 :: u383 :: u384 :: u385 :: u386 :: u387 :: u388 :: u389 :: u390 :: u391 :: u392 :: u393 :: u394 :: u395 :: u396 :: u397 :: u398 :: u399 :: u400 :: u401 :: u402 :: u403 :: u404 :: u405 :: u406 :: u407 :: u408 :: u409 :: u410 :: u411 :: u412 :: u413 :: u414 :: u415 :: u416 :: u417 :: u418 :: u419 :: u420 :: u421 :: u422 :: u423 :: u424 :: u425 :: u426 :: u427 :: u428 :: u429 :: u430 :: u431 :: u432 :: u433 :: u434 :: u435 :: u436 :: u437 :: u438 :: u439 :: u440 :: u441 :: u442 :: u443 :: u444 :: u445 :: u446 :: u447 :: u448 :: u449 :: u450 :: u451 :: u452 :: u453 :: u454 :: u455 :: u456 :: u457 :: u458 :: u459 :: u460 :: u461 :: u462 :: u463 :: u464 :: u465 :: u466 :: u467 :: u468 :: u469 :: u470 :: u471 :: u472 :: u473 :: u474 :: u475 :: u476 :: u477 :: u478 :: u479 :: u480 :: u481 :: u482 :: u483 :: u484 :: u485 :: u486 :: u487 :: u488 :: u489 :: u490 :: u491 :: u492 :: u493 :: u494 :: []).toArray, []⟩ W := by
  have HE : Hid (∀ W, Below w0.heap.size w0 W → ∀ (tm : Array Value) W', tm[8]? = some (.bool true) → Below W.heap.size W W' → Q .ret ⟨tm, []⟩ W') := fun W hb tm W' h1 h2 => hexit tm W' h1 (hb.trans (h2.mono hb.size))
  have HM : Hid (∀ W, Below w0.heap.size w0 W → BnAt W b ga pa) := fun W h => hm.below h
  have HS := Lib.hid l_span
  have HL := Lib.hid hl
  clear hexit hm hl
  obtain ⟨hV1, hV8⟩ := hV
  obtain ⟨b1, b2, b3, b4⟩ := hbd
  conv => arg 2; whnf
  refine wp_seq_hid fun K1 HK1 => ?_
  cases ot
  · clear hU
    go_wp2_with fail
    refine HK1.out _ _ ?_
    obtain ⟨a0, c0, rfl, q0⟩ := hold.o0.at
    obtain ⟨a1, c1, rfl, q1⟩ := hold.o1.at
    exact more_last Q HL.out bb (HM.out _ (hB0.trans (hB.mono hB0.size))) q0 q1 (HE.out _ (hB0.trans (hB.mono hB0.size)))
  · obtain ⟨hF, hq⟩ := hU rfl
    have I1 := Lib.hid hF.whites
    have I2 := Lib.hid hF.known
    have I3 := Lib.hid hF.count
    have HQ := Lib.hid hq
    clear hF hq hU
    go_wp2_with (first
      | (refine wpList_load_blk 27 (.tmp 13) agg_bean rfl rfl rfl B13 rfl ?_)
      | (go_at_call 14; refine (I1.out _ hB).mono ?_; rintro e w5 ⟨rfl, hb5⟩; replace bb := bb.below hb5 bb.lt; replace B13 := B13.below hb5 B13.lt; replace B23 := B23.below hb5 B23.lt; replace B41 := B41.below hb5 B41.lt; replace hold := hold.below hb5; replace hB := hB.trans (hb5.mono hB.size); clear hb5; refine at_stop ?_))
    unfold Stop
    go_wp2_with (first
      | (refine wpList_store_blk 23 (.tmp 41) (.tmp 403) agg_span rfl rfl rfl rfl B41 rfl rfl (by simp [Value.oneCell']) ?_; intro w6 h; refine at_stop ?_))
    unfold Stop
    have hne4 := blk_ne bb B41 (by decide)
    have hne13 := blk_ne B13 B41 (by decide)
    have hold' := hold.span B41 h.heap
    replace bb := h.other bb hne4
    replace B13 := h.other B13 hne13
    replace B23 := h.other B23 hne
    have D41 := h.blk
    have hB6 := h.below hB hp0
    clear h B41 hold hB
    have hB := hB6
    have hold := hold'
    clear hB6 hold'
    go_wp2_with (first
      | (refine wpList_load_blk 27 (.tmp 13) agg_bean rfl rfl rfl B13 rfl ?_)
      | (go_at_call 18; refine (I2.out _ hB).mono ?_; rintro e w7 ⟨rfl, hb5⟩; replace bb := bb.below hb5 bb.lt; replace B13 := B13.below hb5 B13.lt; replace B23 := B23.below hb5 B23.lt; replace D41 := D41.below hb5 D41.lt; replace hold := hold.below hb5; replace hB := hB.trans (hb5.mono hB.size); clear hb5; refine at_stop ?_))
    unfold Stop
    go_wp2_with (first
      | (refine wpList_load_blk 27 (.tmp 13) agg_bean rfl rfl rfl B13 rfl ?_)
      | (go_at_call 24; refine (I3.out _ hB).mono ?_; rintro e w8 ⟨rfl, hb5⟩; replace bb := bb.below hb5 bb.lt; replace B13 := B13.below hb5 B13.lt; replace B23 := B23.below hb5 B23.lt; replace D41 := D41.below hb5 D41.lt; replace hold := hold.below hb5; replace hB := hB.trans (hb5.mono hB.size); clear hb5; refine at_stop ?_))
    unfold Stop
    clear I1 I2 I3 B13
    have rb := bb.cell
    have r23 := B23.cell
    have l41 := D41.lt
    go_upto_region 54 with fail
    rcases he with rfl | rfl
    · skip
      refine Ord.wp_regionGN 3 [(0, 0), (1, 0), (2, 0), (3, 0), (4, 0), (5, 0), (6, 0), (7, 0), (8, 0), (9, 0), (10, 0), (11, 0), (12, 0), (13, 0), (14, 0), (15, 0), (16, 0), (17, 0), (18, 0), (19, 0), (20, 0), (21, 0), (22, 0), (23, 0), (24, 0), (25, 0), (26, 0), (27, 0), (28, 0), (29, 0), (30, 0), (31, 1), (32, 0), (33, 0), (34, 0), (35, 0), (36, 0), (37, 0), (38, 0), (39, 0), (40, 0), (41, 0), (42, 2), (43, 0), (44, 0), (45, 0)] (fun W' => Below w8.heap.size w8 W') (by kernel_rfl) plan54 (Below.refl _ _).drew ?_
      go_wp2_with (first
        | ((with_reducible refine Ord.at_wild ?_); refine Ord.walk_skip rfl rfl (fun K hK => ?_)) | ((with_reducible refine Ord.at_eff ?_); refine Ord.walk_skip rfl rfl (fun K hK => ?_))
        | (with_reducible refine Ord.at_nm ?_)
        | ((with_reducible refine Ord.at_calm ?_); refine Ord.calm_skip rfl ?_ (fun K hK => ?_); (focus (simp [Region.wanted, yielded]; done))) | with_reducible refine Ord.walk_calm rfl rfl (fun K hK => ?_) | ((with_reducible refine Ord.at_wild ?_); refine Ord.wild_fieldAddr rfl rfl (fun W => by simp [go_sem]; rfl) (fun K hK => ?_)) | ((with_reducible refine Ord.at_wild ?_); refine Ord.wild_move rfl rfl (fun K hK => ?_)) | ((with_reducible refine Ord.at_wild ?_); refine Ord.wild_nilCheck rfl rfl (fun K hK => ?_)) | with_reducible refine Ord.walk_eff rfl (by first | (simp; done) | assumption | (go_simp; done) | (repeat (first | assumption | exact Below.refl _ _ | refine Below.drew ?_ | refine Below.alloc ?_ (by first | omega | (simp; done) | (simp; omega)) _ | refine Below.setCell ?_ (by first | omega | (simp; done) | (simp; omega)) _ | refine Below.trans ?_ (Below.mono (by assumption) (by first | omega | (simp; done) | (simp; omega)))))) (fun K hK => ?_) | with_reducible refine Ord.at_fork ?_ ?_ | with_reducible refine Ord.walk_nil ?_ | (with_reducible refine Ord.next_of (by first | (simp; done) | (go_simp; done) | (repeat (first | assumption | exact Below.refl _ _ | refine Below.drew ?_ | refine Below.alloc ?_ (by first | omega | (simp; done) | (simp; omega)) _ | refine Below.setCell ?_ (by first | omega | (simp; done) | (simp; omega)) _ | refine Below.trans ?_ (Below.mono (by assumption) (by first | omega | (simp; done) | (simp; omega)))))) (fun _ => ?_)))
      refine HK1.out _ _ ?_
      have hBz := hB.drew
      have hold2 := hold.below ((Below.refl _ _).drew)
      obtain ⟨a0, c0, rfl, q0⟩ := hold2.o0.at
      obtain ⟨a1, c1, rfl, q1⟩ := hold2.o1.at
      exact more_last Q HL.out bb.drew (HM.out _ (hB0.trans (hBz.mono hB0.size))) q0 q1 (HE.out _ (hB0.trans (hBz.mono hB0.size)))
    · skip
      obtain ⟨hq1, hq2⟩ := HQ.out rfl
      refine Ord.wp_regionGN 3 [(0, 0), (1, 0), (2, 0), (3, 0), (4, 0), (5, 0), (6, 0), (7, 0), (8, 0), (9, 0), (10, 0), (11, 0), (12, 0), (13, 0), (14, 0), (15, 0), (16, 0), (17, 0), (18, 0), (19, 0), (20, 0), (21, 0), (22, 0), (23, 0), (24, 0), (25, 0), (26, 0), (27, 0), (28, 0), (29, 0), (30, 0), (31, 1), (32, 0), (33, 0), (34, 0), (35, 0), (36, 0), (37, 0), (38, 0), (39, 0), (40, 0), (41, 0), (42, 2), (43, 0), (44, 0), (45, 0)] (fun W' => Below w8.heap.size w8 W') (by kernel_rfl) plan54 (Below.refl _ _).drew ?_
      go_wp2_with (first
        | ((with_reducible refine Ord.at_wild ?_); refine Ord.wild_load (ad := ⟨p41, 0, none⟩) (.agg #[.int .i64 (loU : Int), .int .i64 (hiU : Int)]) rfl rfl ?_ ?_; (focus (intro W hW; exact loadVar_blk agg_span (D41.below hW (by omega)) rfl)); intro K hK)
        | (with_reducible refine Ord.at_nm ?_)
        | (go_at_call 34; refine (HS.out _ _ _).mono ?_; rintro e w9 ⟨rfl, hb9⟩; refine at_stop ?_)
        | ((with_reducible refine Ord.at_calm ?_); refine Ord.calm_skip rfl ?_ (fun K hK => ?_); (focus (simp [Region.wanted, yielded]; done))) | with_reducible refine Ord.walk_calm rfl rfl (fun K hK => ?_) | ((with_reducible refine Ord.at_wild ?_); refine Ord.wild_fieldAddr rfl rfl (fun W => by simp [go_sem]; rfl) (fun K hK => ?_)) | ((with_reducible refine Ord.at_wild ?_); refine Ord.wild_move rfl rfl (fun K hK => ?_)) | ((with_reducible refine Ord.at_wild ?_); refine Ord.wild_nilCheck rfl rfl (fun K hK => ?_)) | with_reducible refine Ord.walk_eff rfl (by first | (simp; done) | assumption | (go_simp; done) | (repeat (first | assumption | exact Below.refl _ _ | refine Below.drew ?_ | refine Below.alloc ?_ (by first | omega | (simp; done) | (simp; omega)) _ | refine Below.setCell ?_ (by first | omega | (simp; done) | (simp; omega)) _ | refine Below.trans ?_ (Below.mono (by assumption) (by first | omega | (simp; done) | (simp; omega)))))) (fun K hK => ?_) | with_reducible refine Ord.at_fork ?_ ?_ | with_reducible refine Ord.walk_nil ?_ | (with_reducible refine Ord.next_of (by first | (simp; done) | (go_simp; done) | (repeat (first | assumption | exact Below.refl _ _ | refine Below.drew ?_ | refine Below.alloc ?_ (by first | omega | (simp; done) | (simp; omega)) _ | refine Below.setCell ?_ (by first | omega | (simp; done) | (simp; omega)) _ | refine Below.trans ?_ (Below.mono (by assumption) (by first | omega | (simp; done) | (simp; omega)))))) (fun _ => ?_)))
      unfold Stop
      have hb89 : Below w8.heap.size w8 w9 := (Below.refl _ _).drew.trans hb9
      clear hb9
      go_wp2_with (first
        | (with_reducible refine Ord.at_nm ?_)
        | ((with_reducible refine Ord.at_calm ?_); refine Ord.calm_skip rfl ?_ (fun K hK => ?_); (focus (simp [Region.wanted, yielded]; done))) | with_reducible refine Ord.walk_calm rfl rfl (fun K hK => ?_) | ((with_reducible refine Ord.at_wild ?_); refine Ord.wild_fieldAddr rfl rfl (fun W => by simp [go_sem]; rfl) (fun K hK => ?_)) | ((with_reducible refine Ord.at_wild ?_); refine Ord.wild_move rfl rfl (fun K hK => ?_)) | ((with_reducible refine Ord.at_wild ?_); refine Ord.wild_nilCheck rfl rfl (fun K hK => ?_)) | with_reducible refine Ord.walk_eff rfl (by first | (simp; done) | assumption | (go_simp; done) | (repeat (first | assumption | exact Below.refl _ _ | refine Below.drew ?_ | refine Below.alloc ?_ (by first | omega | (simp; done) | (simp; omega)) _ | refine Below.setCell ?_ (by first | omega | (simp; done) | (simp; omega)) _ | refine Below.trans ?_ (Below.mono (by assumption) (by first | omega | (simp; done) | (simp; omega)))))) (fun K hK => ?_) | with_reducible refine Ord.at_fork ?_ ?_ | with_reducible refine Ord.walk_nil ?_ | (with_reducible refine Ord.next_of (by first | (simp; done) | (go_simp; done) | (repeat (first | assumption | exact Below.refl _ _ | refine Below.drew ?_ | refine Below.alloc ?_ (by first | omega | (simp; done) | (simp; omega)) _ | refine Below.setCell ?_ (by first | omega | (simp; done) | (simp; omega)) _ | refine Below.trans ?_ (Below.mono (by assumption) (by first | omega | (simp; done) | (simp; omega)))))) (fun _ => ?_)))
      refine HK1.out _ _ ?_
      have hBz := hB.trans (hb89.mono hB.size)
      have hold2 := hold.below hb89
      obtain ⟨a0, c0, rfl, q0⟩ := hold2.o0.at
      obtain ⟨a1, c1, rfl, q1⟩ := hold2.o1.at
      exact more_last Q HL.out (bb.below hb89 bb.lt) (HM.out _ (hB0.trans (hBz.mono hB0.size))) q0 q1 (HE.out _ (hB0.trans (hBz.mono hB0.size)))
end Go.Proofs.Ytjbjmoghloabpaa
set_option linter.unusedVariables false
set_option linter.unusedSimpArgs false
namespace Go.Proofs.Ytjbjmoghloabpaa
open Go.RowKit Go.Proofs
attribute [local irreducible] Ord.walk
noncomputable def mC11 : Code := mFrom 11 moreCode
set_option maxHeartbeats 40000000 in
set_option maxRecDepth 100000 in
theorem more_tail {u0 u1 u2 u3 u5 u6 u7 u8 u14 u16 u17 u18 u19 u20 u23 u24 u25 u26 u27 u28 u29 u30 u31 u32 u33 u34 u35 u36 u37 u38 u39 u40 u41 u42 u43 u44 u45 u46 u47 u48 u49 u50 u51 u52 u53 u54 u55 u56 u57 u58 u59 u60 u61 u62 u63 u64 u65 u66 u67 u68 u69 u70 u71 u72 u73 u74 u75 u76 u77 u78 u79 u80 u81 u82 u83 u84 u85 u86 u87 u88 u89 u90 u91 u92 u93 u94 u95 u96 u97 u98 u99 u100 u101 u102 u103 u104 u105 u106 u107 u108 u109 u110 u111 u112 u113 u114 u115 u116 u117 u118 u119 u120 u121 u122 u123 u124 u125 u126 u127 u128 u129 u130 u131 u132 u133 u134 u135 u136 u137 u138 u139 u140 u141 u142 u143 u144 u145 u146 u147 u148 u149 u150 u151 u152 u153 u154 u155 u156 u157 u158 u159 u160 u161 u162 u163 u164 u165 u166 u167 u168 u169 u170 u171 u172 u173 u174 u175 u176 u177 u178 u179 u180 u181 u182 u183 u184 u185 u186 u187 u188 u189 u190 u191 u192 u193 u194 u195 u196 u197 u198 u199 u200 u201 u202 u203 u204 u205 u206 u207 u208 u209 u210 u211 u212 u213 u214 u215 u216 u217 u218 u219 u220 u221 u222 u223 u224 u225 u226 u227 u228 u229 u230 u231 u232 u233 u234 u235 u236 u237 u238 u239 u240 u241 u242 u243 u244 u245 u246 u247 u248 u249 u250 u251 u252 u253 u254 u255 u256 u257 u258 u259 u260 u261 u262 u263 u264 u265 u266 u267 u268 u269 u270 u271 u272 u273 u274 u275 u276 u277 u278 u279 u280 u281 u282 u283 u284 u285 u286 u287 u288 u289 u290 u291 u292 u293 u294 u295 u296 u297 u298 u299 u300 u301 u302 u303 u304 u305 u306 u307 u308 u309 u310 u311 u312 u313 u314 u315 u316 u317 u318 u319 u320 u321 u322 u323 u324 u325 u326 u327 u328 u329 u330 u331 u332 u333 u334 u335 u336 u337 u338 u339 u340 u341 u342 u343 u344 u345 u346 u347 u348 u349 u350 u351 u352 u353 u354 u355 u356 u357 u358 u359 u360 u361 u362 u363 u364 u365 u366 u367 u368 u369 u370 u371 u372 u373 u374 u375 u376 u377 u378 u379 u380 u381 u382 u383 u384 u385 u386 u387 u388 u389 u390 u391 u392 u393 u394 u395 u396 u397 u398 u399 u400 u401 u402 u403 u404 u405 u406 u407 u408 u409 u410 u411 u412 u413 u414 u415 u416 u417 u418 u419 u420 u421 u422 u423 u424 u425 u426 u427 u428 u429 u430 u431 u432 u433 u434 u435 u436 u437 u438 u439 u440 u441 u442 u443 u444 u445 u446 u447 u448 u449 u450 u451 u452 u453 u454 u455 u456 u457 u458 u459 u460 u461 u462 u463 u464 u465 u466 u467 u468 u469 u470 u471 u472 u473 u474 u475 u476 u477 u478 u479 u480 u481 u482 u483 u484 u485 u486 u487 u488 u489 u490 u491 u492 u493 u494 : Value} (Q : Exit → Act → World → Prop) {b : Bn} {ga pa : Option Addr} {gc pc : Nat} {w0 W : World} {p4 p9 p10 p11 p12 p13 zr lo hi wh bl n q loU hiU qU : Nat} {e : Int} {ot : Bool} {v21 v22 x0 x1 x2 x3 x4 x5 y0 y1 y2 y3 y4 y5 z0 z1 z2 z3 z4 z5 t0 t1 t2 t3 t4 t5 s0 s1 s2 s3 s4 s5 : Value} (hl : b.gs.length ≤ 40 ∧ b.ps.length ≤ 40) (hV : 1 ≤ b.V ∧ b.V ≤ 8) (hbd : lo ≤ 8 ∧ hi ≤ 8 ∧ loU ≤ 8 ∧ hiU ≤ 8) (he : e = 10 ∨ e = 0)
    (hB : Below w0.heap.size w0 W) (hm : BnAt w0 b ga pa) (bb : Blk W p4 #[.int .i64 b.V, .int .i64 b.nd, .int .i64 b.lo, .int .i64 b.hi, .slice ga b.gs.length gc, .slice pa b.ps.length pc] 27) (B9 : Blk W p9 #[x0, x1, x2, x3, x4, x5] 27) (B10 : Blk W p10 #[y0, y1, y2, y3, y4, y5] 27) (B11 : Blk W p11 #[z0, z1, z2, z3, z4, z5] 27) (B12 : Blk W p12 #[t0, t1, t2, t3, t4, t5] 27) (B13 : Blk W p13 #[s0, s1, s2, s3, s4, s5] 27) (hold : Olds W zr b v21 v22)
    (hone : ∀ v ∈ [x0, x1, x2, x3, x4, x5, y0, y1, y2, y3, y4, y5, z0, z1, z2, z3, z4, z5], v.oneCell' = true)
    (hF : Four (.agg #[.int .i64 b.V, .int .i64 b.nd, .int .i64 b.lo, .int .i64 b.hi, .slice ga b.gs.length gc, .slice pa b.ps.length pc]) W lo hi wh bl n q e) (hX : QC (.agg #[x0, x1, x2, x3, x4, x5]) W lo hi wh bl n e) (hY : QC (.agg #[y0, y1, y2, y3, y4, y5]) W lo hi wh bl n e) (hZ : QC (.agg #[z0, z1, z2, z3, z4, z5]) W lo hi wh bl n e) (hT : Four (.agg #[t0, t1, t2, t3, t4, t5]) W lo hi wh bl n q e)
    (hU : ot = true → Four (.agg #[s0, s1, s2, s3, s4, s5]) W loU hiU bl wh n qU e ∧ (e = 0 → (loU : Int) = b.V - hi ∧ (hiU : Int) = b.V - lo))
    (hexit : ∀ (tm : Array Value) W', tm[8]? = some (.bool true) → Below w0.heap.size w0 W' → Q .ret ⟨tm, []⟩ W') :
    mC11.wp Try.prog Q ⟨(u0 :: u1 :: u2 :: u3 :: .pointer (some ⟨p4, 0, none⟩) :: u5 :: u6 :: u7 :: u8 :: .pointer (some ⟨p9, 0, none⟩) :: .pointer (some ⟨p10, 0, none⟩) :: .pointer (some ⟨p11, 0, none⟩) :: .pointer (some ⟨p12, 0, none⟩) :: .pointer (some ⟨p13, 0, none⟩) :: u14 :: .bool ot :: u16 :: u17 :: u18 :: u19 :: u20 :: v21 :: v22 :: u23 :: u24 :: u25 :: u26 :: u27 :: u28 :: u29 :: u30 :: u31 :: u32 :: u33 :: u34 :: u35 :: u36 :: u37 :: u38 :: u39 :: u40 :: u41 :: u42 :: u43 :: u44 :: u45 :: u46 :: u47 :: u48 :: u49 :: u50 :: u51 :: u52 :: u53 :: u54 :: u55 :: u56 :: u57 :: u58 :: u59 :: u60 :: u61 :: u62 :: u63 :: u64 :: u65 :: u66 :: u67 :: u68 :: u69 :: u70 :: u71 :: u72 :: u73 :: u74 :: u75 :: u76 :: u77 :: u78 :: u79 :: u80 :: u81 :: u82 :: u83 :: u84 :: u85 :: u86 :: u87 :: u88 :: u89 :: u90 :: u91 :: u92 :: u93 :: u94 :: u95 :: u96 :: u97 :: u98 :: u99 :: u100 :: u101 :: u102 :: u103 :: u104 :: u105 :: u106 :: u107 :: u108 :: u109 :: u110 :: u111 :: u112 :: u113 :: u114 :: u115 :: u116 :: u117 :: u118 :: u119 :: u120 :: u121 :: u122 :: u123 :: u124 :: u125 :: u126 :: u127 :: u128 :: u129 :: u130 :: u131 :: u132 :: u133 :: u134 :: u135 :: u136 :: u137 :: u138 :: u139 :: u140 :: u141 :: u142 :: u143 :: u144 :: u145 :: u146 :: u147 :: u148 :: u149 :: u150 :: u151 :: u152 :: u153 :: u154 :: u155 :: u156 :: u157 :: u158 :: u159 :: u160 :: u161 :: u162 :: u163 :: u164 :: u165 :: u166 :: u167 :: u168 :: u169 :: u170 :: u171 :: u172 :: u173 :: u174 :: u175 :: u176 :: u177 :: u178 :: u179 :: u180 :: u181 :: u182 :: u183 :: u184 :: u185 :: u186 :: u187 :: u188 :: u189 :: u190 :: u191 :: u192 :: u193 :: u194 :: u195 :: u196 :: u197 :: u198 :: u199 :: u200 :: u201 :: u202 :: u203 :: u204 :: u205 :: u206 :: u207 :: u208 :: u209 :: u210 :: u211 :: u212 :: u213 :: u214 :: u215 :: u216 :: u217 :: u218 :: u219 :: u220 :: u221 :: u222 :: u223 :: u224 :: u225 :: u226 :: u227 :: u228 :: u229 :: u230 :: u231 :: u232 :: u233 :: u234 :: u235 :: u236 :: u237 :: u238 :: u239 :: u240 :: u241 :: u242 :: u243 :: u244 :: u245 :: u246 :: u247 :: u248 :: u249 :: u250 :: u251 :: u252 :: u253 :: u254 :: u255 :: u256 :: u257 :: u258 :: u259 :: u260 :: u261 :: u262 :: u263 :: u264 :: u265 :: u266 :: u267 :: u268 :: u269 :: u270 :: u271 :: u272 :: u273 :: u274 :: u275 :: u276 :: u277 :: u278 :: u279 :: u280 :: u281 :: u282 :: u283 :: u284 :: u285 :: u286 :: u287 :: u288 :: u289 :: u290 :: u291 :: u292 :: u293 :: u294 :: u295 :: u296 :: u297 :: u298 :: u299 :: u300 :: u301 :: u302 :: u303 :: u304 :: u305 :: u306 :: u307 :: u308 :: u309 :: u310 :: u311 :: u312 :: u313 :: u314 :: u315 :: u316 :: u317 :: u318 :: u319 :: u320 :: u321 :: u322 :: u323 :: u324 :: u325 :: u326 :: u327 :: u328 :: u329 :: u330 :: u331 :: u332 :: u333 :: u334 :: u335 :: u336 :: u337 :: u338 :: u339 :: u340 :: u341 :: u342 :: u343 :: u344 :: u345 :: u346 :: u347 :: u348 :: u349 :: u350 :: u351 :: u352 :: u353 :: u354 :: u355 :: u356 :: u357 :: u358 :: u359 :: u360 :: u361 :: u362 :: u363 :: u364 :: u365 :: u366 :: u367 :: u368 :: u369 :: u370 :: u371 :: u372 :: u373 :: u374 :: u375 :: u376 :: u377 :: u378 :: u379 :: u380 :: u381 :: u382 :: u383 :: u384 :: u385 :: u386 :: u387 :: u388 :: u389 :: u390 :: u391 :: u392 :: u393 :: u394 :: u395 :: u396 :: u397 :: u398 :: u399 :: u400 :: u401 :: u402 :: u403 :: u404 :: u405 :: u406 :: u407 :: u408 :: u409 :: u410 :: u411 :: u412 :: u413 :: u414 :: u415 :: u416 :: u417 :: u418 :: u419 :: u420 :: u421 :: u422 :: u423 :: u424 :: u425 :: u426 :: u427 :: u428 :: u429 :: u430 :: u431 :: u432 :: u433 :: u434 :: u435 :: u436 :: u437 :: u438 :: u439 :: u440 :: u441 :: u442 :: u443 :: u444 :: u445 :: u446 :: u447 :: u448 :: u449 :: u450 :: u451 :: u452 :: u453 :: u454 :: u455 :: u456 :: u457 :: u458 :: u459 :: u460 :: u461 :: u462 :: u463 :: u464 :: u465 :: u466 :: u467 :: u468 :: u469 :: u470 :: u471 :: u472 :: u473 :: u474 :: u475 :: u476 :: u477 :: u478 :: u479 :: u480 :: u481 :: u482 :: u483 :: u484 :: u485 :: u486 :: u487 :: u488 :: u489 :: u490 :: u491 :: u492 :: u493 :: u494 :: []).toArray, []⟩ W := by
  have HE := Lib.hid hexit
  have HAll := Lib.hid (And.intro hU (And.intro hm (And.intro hl (And.intro hV hbd))))
  have I1 := Lib.hid hF.whites
  have I2 := Lib.hid hF.known
  have I3 := Lib.hid hF.count
  have I4 := Lib.hid hF.quiet
  have T1 := Lib.hid hT.whites
  have T2 := Lib.hid hT.known
  have T3 := Lib.hid hT.count
  have T4 := Lib.hid hT.quiet
  have HXY : Hid (∀ k, k < 3 → ∃ q0 q1 q2 q3 q4 q5, (#[x0, x1, x2, x3, x4, x5, y0, y1, y2, y3, y4, y5, z0, z1, z2, z3, z4, z5] : Array Value)[k * 6]? = some q0 ∧ (#[x0, x1, x2, x3, x4, x5, y0, y1, y2, y3, y4, y5, z0, z1, z2, z3, z4, z5] : Array Value)[k * 6 + 1]? = some q1 ∧ (#[x0, x1, x2, x3, x4, x5, y0, y1, y2, y3, y4, y5, z0, z1, z2, z3, z4, z5] : Array Value)[k * 6 + 2]? = some q2 ∧ (#[x0, x1, x2, x3, x4, x5, y0, y1, y2, y3, y4, y5, z0, z1, z2, z3, z4, z5] : Array Value)[k * 6 + 3]? = some q3 ∧ (#[x0, x1, x2, x3, x4, x5, y0, y1, y2, y3, y4, y5, z0, z1, z2, z3, z4, z5] : Array Value)[k * 6 + 4]? = some q4 ∧ (#[x0, x1, x2, x3, x4, x5, y0, y1, y2, y3, y4, y5, z0, z1, z2, z3, z4, z5] : Array Value)[k * 6 + 5]? = some q5 ∧ (q0.oneCell' = true ∧ q1.oneCell' = true ∧ q2.oneCell' = true ∧ q3.oneCell' = true ∧ q4.oneCell' = true ∧ q5.oneCell' = true) ∧ QC (.agg #[q0, q1, q2, q3, q4, q5]) W lo hi wh bl n e) := fun k hk => by
    rcases (show k = 0 ∨ k = 1 ∨ k = 2 by omega) with rfl | rfl | rfl
    · exact ⟨x0, x1, x2, x3, x4, x5, rfl, rfl, rfl, rfl, rfl, rfl, ⟨hone _ (by simp), hone _ (by simp), hone _ (by simp), hone _ (by simp), hone _ (by simp), hone _ (by simp)⟩, hX⟩
    · exact ⟨y0, y1, y2, y3, y4, y5, rfl, rfl, rfl, rfl, rfl, rfl, ⟨hone _ (by simp), hone _ (by simp), hone _ (by simp), hone _ (by simp), hone _ (by simp), hone _ (by simp)⟩, hY⟩
    · exact ⟨z0, z1, z2, z3, z4, z5, rfl, rfl, rfl, rfl, rfl, rfl, ⟨hone _ (by simp), hone _ (by simp), hone _ (by simp), hone _ (by simp), hone _ (by simp), hone _ (by simp)⟩, hZ⟩
  clear hexit hm hl hV hbd hF hX hY hZ hT hU hone
  have hB1 : Below W.heap.size W W := Below.refl _ _
  conv => arg 2; whnf
  refine wp_seq_hid fun K1 HK1 => ?_
  go_wp2_with (first
    | (refine wpList_load_blk 27 (.tmp 4) agg_bean rfl rfl rfl bb rfl ?_)
    | (go_at_call 14; refine (I1.out _ hB1).mono ?_; rintro e w5 ⟨rfl, hb5⟩; replace bb := bb.below hb5 bb.lt; replace B9 := B9.below hb5 B9.lt; replace B10 := B10.below hb5 B10.lt; replace B11 := B11.below hb5 B11.lt; replace B12 := B12.below hb5 B12.lt; replace B13 := B13.below hb5 B13.lt; replace hold := hold.below hb5; replace hB1 := hB1.trans (hb5.mono hB1.size); clear hb5; refine at_stop ?_))
  unfold Stop
  go_wp2_with (first
    | (refine wpList_store_blk 23 (.tmp 23) (.tmp 222) agg_span rfl rfl rfl rfl (Blk.new _ _ _) rfl rfl (by simp [Value.oneCell']) ?_; intro w6 h; refine at_stop ?_))
  unfold Stop
  have hold' := hold.below (h.below ((Below.refl _ _).alloc (Nat.le_refl _) _) (Nat.le_refl _))
  clear hold
  have B23 := h.blk
  replace bb := h.other (bb.alloc _) (by have := bb.lt; (try simp only [World.size_drew]); omega)
  replace B9 := h.other (B9.alloc _) (by have := B9.lt; (try simp only [World.size_drew]); omega)
  replace B10 := h.other (B10.alloc _) (by have := B10.lt; (try simp only [World.size_drew]); omega)
  replace B11 := h.other (B11.alloc _) (by have := B11.lt; (try simp only [World.size_drew]); omega)
  replace B12 := h.other (B12.alloc _) (by have := B12.lt; (try simp only [World.size_drew]); omega)
  replace B13 := h.other (B13.alloc _) (by have := B13.lt; (try simp only [World.size_drew]); omega)
  replace hB1 := h.below (hB1.alloc hB1.size _) hB1.size
  generalize hp23 : w5.heap.size = p23 at *
  clear h
  have hold := hold'
  clear hold'
  go_wp2_with fail
  refine HK1.out _ _ ?_
  clear HK1
  refine wp_seq_hid fun K2 HK2 => ?_
  go_wp2_with (first
    | (refine wpList_load_blk 27 (.tmp 4) agg_bean rfl rfl rfl bb rfl ?_)
    | (go_at_call 18; refine (I2.out _ hB1).mono ?_; rintro e w7 ⟨rfl, hb5⟩; replace bb := bb.below hb5 bb.lt; replace B9 := B9.below hb5 B9.lt; replace B10 := B10.below hb5 B10.lt; replace B11 := B11.below hb5 B11.lt; replace B12 := B12.below hb5 B12.lt; replace B13 := B13.below hb5 B13.lt; replace hold := hold.below hb5; replace B23 := B23.below hb5 B23.lt; replace hB1 := hB1.trans (hb5.mono hB1.size); clear hb5; refine at_stop ?_))
  unfold Stop
  go_wp2_with fail
  refine HK2.out _ _ ?_
  clear HK2
  refine wp_seq_hid fun K3 HK3 => ?_
  go_wp2_with (first
    | (refine wpList_load_blk 27 (.tmp 4) agg_bean rfl rfl rfl bb rfl ?_)
    | (go_at_call 24; refine (I3.out _ hB1).mono ?_; rintro e w8 ⟨rfl, hb5⟩; replace bb := bb.below hb5 bb.lt; replace B9 := B9.below hb5 B9.lt; replace B10 := B10.below hb5 B10.lt; replace B11 := B11.below hb5 B11.lt; replace B12 := B12.below hb5 B12.lt; replace B13 := B13.below hb5 B13.lt; replace hold := hold.below hb5; replace B23 := B23.below hb5 B23.lt; replace hB1 := hB1.trans (hb5.mono hB1.size); clear hb5; refine at_stop ?_))
  unfold Stop
  go_wp2_with fail
  refine HK3.out _ _ ?_
  clear HK3
  refine wp_seq_hid fun K4 HK4 => ?_
  go_wp2_with (first
    | (refine wpList_load_blk 27 (.tmp 4) agg_bean rfl rfl rfl bb rfl ?_)
    | (go_at_call 28; refine (I4.out _ hB1).mono ?_; rintro e w9 ⟨rfl, hb5⟩; replace bb := bb.below hb5 bb.lt; replace B9 := B9.below hb5 B9.lt; replace B10 := B10.below hb5 B10.lt; replace B11 := B11.below hb5 B11.lt; replace B12 := B12.below hb5 B12.lt; replace B13 := B13.below hb5 B13.lt; replace hold := hold.below hb5; replace B23 := B23.below hb5 B23.lt; replace hB1 := hB1.trans (hb5.mono hB1.size); clear hb5; refine at_stop ?_))
  unfold Stop
  go_wp2_with fail
  refine HK4.out _ _ ?_
  clear HK4
  clear I1 I2 I3 I4
  refine wp_seq_hid fun K5 HK5 => ?_
  go_wp2_with fail
  refine HK5.out _ _ ?_
  clear HK5
  refine wp_seq_hid fun K6 HK6 => ?_
  go_wp2_with (first
    | (refine wpList_load_blk 27 (.tmp 9) agg_bean rfl rfl rfl B9 rfl ?_)
    | (refine wpList_load_blk 27 (.tmp 10) agg_bean rfl rfl rfl B10 rfl ?_)
    | (refine wpList_load_blk 27 (.tmp 11) agg_bean rfl rfl rfl B11 rfl ?_))
  have b255 := Blk.new w9 #[x0, x1, x2, x3, x4, x5, y0, y1, y2, y3, y4, y5, z0, z1, z2, z3, z4, z5] 27
  have hB11 := hB1.alloc hB1.size (.cells #[x0, x1, x2, x3, x4, x5, y0, y1, y2, y3, y4, y5, z0, z1, z2, z3, z4, z5] 27)
  replace bb := bb.alloc (.cells #[x0, x1, x2, x3, x4, x5, y0, y1, y2, y3, y4, y5, z0, z1, z2, z3, z4, z5] 27)
  replace B12 := B12.alloc (.cells #[x0, x1, x2, x3, x4, x5, y0, y1, y2, y3, y4, y5, z0, z1, z2, z3, z4, z5] 27)
  replace B13 := B13.alloc (.cells #[x0, x1, x2, x3, x4, x5, y0, y1, y2, y3, y4, y5, z0, z1, z2, z3, z4, z5] 27)
  replace B23 := B23.alloc (.cells #[x0, x1, x2, x3, x4, x5, y0, y1, y2, y3, y4, y5, z0, z1, z2, z3, z4, z5] 27)
  replace hold := hold.below ((Below.refl _ w9).alloc (Nat.le_refl _) (.cells #[x0, x1, x2, x3, x4, x5, y0, y1, y2, y3, y4, y5, z0, z1, z2, z3, z4, z5] 27))
  clear hB1 B9 B10 B11
  generalize hp255 : w9.heap.size = p255 at *
  clear hp255
  generalize w9.alloc (.cells #[x0, x1, x2, x3, x4, x5, y0, y1, y2, y3, y4, y5, z0, z1, z2, z3, z4, z5] 27) = w11 at *
  go_loopw [257] (fun x wr => ∃ k : Nat, k ≤ 3 ∧ x = .int .i64 (k : Int) ∧ Below w11.heap.size w11 wr) (fun x _ => (3 - (intOf x).toNat))
  case atStart => exact ⟨0, by omega, rfl, Below.refl _ _⟩
  case round =>
    obtain ⟨k, hk, rfl, hBr⟩ := hrel
    by_cases hlt : k < 3
    · have hlti : (k : Int) < 3 := by omega
      obtain ⟨q0, q1, q2, q3, q4, q5, g0, g1, g2, g3, g4, g5, hone, vq, hr, hyes⟩ := HXY.out k hlt
      have HO := Lib.hid hone
      clear hone
      have HR := Lib.hid hr
      have HY := Lib.hid hyes
      clear hr hyes
      have br := b255.below hBr b255.lt
      have c0 : wr.cell? ⟨p255, k * 6, none⟩ = some q0 := (br.cell (k * 6)).trans g0
      have c1 : wr.cell? ⟨p255, k * 6 + 1, none⟩ = some q1 := (br.cell (k * 6 + 1)).trans g1
      have c2 : wr.cell? ⟨p255, k * 6 + 2, none⟩ = some q2 := (br.cell (k * 6 + 2)).trans g2
      have c3 : wr.cell? ⟨p255, k * 6 + 3, none⟩ = some q3 := (br.cell (k * 6 + 3)).trans g3
      have c4 : wr.cell? ⟨p255, k * 6 + 4, none⟩ = some q4 := (br.cell (k * 6 + 4)).trans g4
      have c5 : wr.cell? ⟨p255, k * 6 + 5, none⟩ = some q5 := (br.cell (k * 6 + 5)).trans g5
      have D23 := B23.below hBr B23.lt
      clear g0 g1 g2 g3 g4 g5 br
      go_wp2_with (first
        | (refine wpList_store_blk 27 (.tmp 33) (.tmp 260) agg_bean rfl rfl rfl rfl (Blk.new _ _ _) rfl rfl (by obtain ⟨o0, o1, o2, o3, o4, o5⟩ := HO.out; simp [o0, o1, o2, o3, o4, o5]) ?_; intro w12 h; refine at_stop ?_))
      unfold Stop
      have B33 := h.blk
      replace D23 := h.other (D23.alloc _) (by have := D23.lt; (try simp only [World.size_drew]); omega)
      replace hBr := h.below (hBr.alloc hBr.size _) hBr.size
      generalize hp33 : wr.heap.size = p33 at *
      clear h
      clear c0 c1 c2 c3 c4 c5
      go_wp2_with (first
        | (refine wpList_load_blk 27 (.tmp 33) agg_bean rfl rfl rfl B33 rfl ?_)
        | (go_at_call 36; refine (HR.out _ (hB11.trans (hBr.mono hB11.size))).mono ?_; rintro e w13 ⟨rfl, hb5⟩; replace D23 := D23.below hb5 D23.lt; replace B33 := B33.below hb5 B33.lt; replace hBr := hBr.trans (hb5.mono hBr.size); clear hb5; refine at_stop ?_))
      unfold Stop
      clear HR
      cases vq
      · go_wp2_with fail
        exact ⟨⟨k + 1, by omega, by go_num, hBr⟩, by simp [intOf]; omega⟩
      · obtain ⟨lo2, hi2, wh2, bl2, n2, qq2, kk, hFq, hn2, hcase⟩ := HY.out rfl
        have G1 := Lib.hid hFq.whites
        have G2 := Lib.hid hFq.known
        have G3 := Lib.hid hFq.count
        have HC := Lib.hid hcase
        clear HY hFq hcase
        go_wp2_with (first
          | (refine wpList_load_blk 27 (.tmp 33) agg_bean rfl rfl rfl B33 rfl ?_)
          | (go_at_call 14; refine (G1.out _ (hB11.trans (hBr.mono hB11.size))).mono ?_; rintro e w14 ⟨rfl, hb5⟩; replace D23 := D23.below hb5 D23.lt; replace B33 := B33.below hb5 B33.lt; replace hBr := hBr.trans (hb5.mono hBr.size); clear hb5; refine at_stop ?_))
        unfold Stop
        go_wp2_with (first
          | (refine wpList_store_blk 23 (.tmp 34) (.tmp 267) agg_span rfl rfl rfl rfl (Blk.new _ _ _) rfl rfl (by simp [Value.oneCell']) ?_; intro w15 h; refine at_stop ?_))
        unfold Stop
        have B34 := h.blk
        replace D23 := h.other (D23.alloc _) (by have := D23.lt; (try simp only [World.size_drew]); omega)
        replace B33 := h.other (B33.alloc _) (by have := B33.lt; (try simp only [World.size_drew]); omega)
        replace hBr := h.below (hBr.alloc hBr.size _) hBr.size
        generalize hp34 : w14.heap.size = p34 at *
        clear h
        go_wp2_with (first
          | (refine wpList_load_blk 27 (.tmp 33) agg_bean rfl rfl rfl B33 rfl ?_)
          | (go_at_call 18; refine (G2.out _ (hB11.trans (hBr.mono hB11.size))).mono ?_; rintro e w16 ⟨rfl, hb5⟩; replace D23 := D23.below hb5 D23.lt; replace B33 := B33.below hb5 B33.lt; replace B34 := B34.below hb5 B34.lt; replace hBr := hBr.trans (hb5.mono hBr.size); clear hb5; refine at_stop ?_))
        unfold Stop
        go_wp2_with (first
          | (refine wpList_load_blk 27 (.tmp 33) agg_bean rfl rfl rfl B33 rfl ?_)
          | (go_at_call 24; refine (G3.out _ (hB11.trans (hBr.mono hB11.size))).mono ?_; rintro e w17 ⟨rfl, hb5⟩; replace D23 := D23.below hb5 D23.lt; replace B33 := B33.below hb5 B33.lt; replace B34 := B34.below hb5 B34.lt; replace hBr := hBr.trans (hb5.mono hBr.size); clear hb5; refine at_stop ?_))
        unfold Stop
        clear G1 G2 G3 B33
        go_upto_region 41 with fail
        rcases HC.out with rfl | ⟨rfl, rfl, k1, k2, k3, k4⟩
        · clear HC
          go_wp2_with fail
          exact ⟨⟨k + 1, by omega, by go_num, hBr⟩, by simp [intOf]; omega⟩
        · clear HC
          have r34 := B34.cell
          have r23 := D23.cell
          go_wp2_with fail
          exact ⟨⟨k + 1, by omega, by go_num, hBr⟩, by simp [intOf]; omega⟩
    · have hlti : ¬ (k : Int) < 3 := by omega
      go_wp2_with fail
      have hB1 := hB11.trans (hBr.mono hB11.size)
      replace bb := bb.below hBr bb.lt
      replace B12 := B12.below hBr B12.lt
      replace B13 := B13.below hBr B13.lt
      replace B23 := B23.below hBr B23.lt
      replace hold := hold.below hBr
      clear hBr hB11 b255 HXY hk hlt hlti
      generalize wr = wq at *
      clear wr
      refine HK6.out _ _ ?_
      clear HK6
      refine wp_seq_hid fun K7 HK7 => ?_
      go_wp2_with (first
        | (refine wpList_load_blk 27 (.tmp 12) agg_bean rfl rfl rfl B12 rfl ?_)
        | (go_at_call 14; refine (T1.out _ hB1).mono ?_; rintro e w22 ⟨rfl, hb5⟩; replace bb := bb.below hb5 bb.lt; replace B12 := B12.below hb5 B12.lt; replace B13 := B13.below hb5 B13.lt; replace B23 := B23.below hb5 B23.lt; replace hold := hold.below hb5; replace hB1 := hB1.trans (hb5.mono hB1.size); clear hb5; refine at_stop ?_))
      unfold Stop
      have hp23 := B23.lt
      have hpW := hB1.size
      go_wp2_with (first
        | (refine wpList_store_blk 23 (.tmp 41) (.tmp 338) agg_span rfl rfl rfl rfl (Blk.new _ _ _) rfl rfl (by simp [Value.oneCell']) ?_; intro w23 h; refine at_stop ?_))
      unfold Stop
      have hold' := hold.below (h.below ((Below.refl _ _).alloc (Nat.le_refl _) _) (Nat.le_refl _))
      clear hold
      have B41 := h.blk
      replace bb := h.other (bb.alloc _) (by have := bb.lt; (try simp only [World.size_drew]); omega)
      replace B12 := h.other (B12.alloc _) (by have := B12.lt; (try simp only [World.size_drew]); omega)
      replace B13 := h.other (B13.alloc _) (by have := B13.lt; (try simp only [World.size_drew]); omega)
      replace B23 := h.other (B23.alloc _) (by have := B23.lt; (try simp only [World.size_drew]); omega)
      replace hB1 := h.below (hB1.alloc hB1.size _) hB1.size
      have hz0 := hB1.size
      have hz1 := hB.size
      obtain ⟨p41, hp41⟩ : ∃ p41, w22.heap.size = p41 := ⟨_, rfl⟩
      have hlt41 : p23 < p41 := by omega
      have hge41 : W.heap.size ≤ p41 := by omega
      generalize w22.heap.size = p41' at *
      subst hp41
      clear hz0 hz1
      clear h
      have hold := hold'
      clear hold'
      go_wp2_with fail
      refine HK7.out _ _ ?_
      clear HK7
      refine wp_seq_hid fun K8 HK8 => ?_
      go_wp2_with (first
        | (refine wpList_load_blk 27 (.tmp 12) agg_bean rfl rfl rfl B12 rfl ?_)
        | (go_at_call 18; refine (T2.out _ hB1).mono ?_; rintro e w24 ⟨rfl, hb5⟩; replace bb := bb.below hb5 bb.lt; replace B12 := B12.below hb5 B12.lt; replace B13 := B13.below hb5 B13.lt; replace B23 := B23.below hb5 B23.lt; replace hold := hold.below hb5; replace B41 := B41.below hb5 B41.lt; replace hB1 := hB1.trans (hb5.mono hB1.size); clear hb5; refine at_stop ?_))
      unfold Stop
      go_wp2_with fail
      refine HK8.out _ _ ?_
      clear HK8
      refine wp_seq_hid fun K9 HK9 => ?_
      go_wp2_with (first
        | (refine wpList_load_blk 27 (.tmp 12) agg_bean rfl rfl rfl B12 rfl ?_)
        | (go_at_call 24; refine (T3.out _ hB1).mono ?_; rintro e w25 ⟨rfl, hb5⟩; replace bb := bb.below hb5 bb.lt; replace B12 := B12.below hb5 B12.lt; replace B13 := B13.below hb5 B13.lt; replace B23 := B23.below hb5 B23.lt; replace hold := hold.below hb5; replace B41 := B41.below hb5 B41.lt; replace hB1 := hB1.trans (hb5.mono hB1.size); clear hb5; refine at_stop ?_))
      unfold Stop
      go_wp2_with fail
      refine HK9.out _ _ ?_
      clear HK9
      refine wp_seq_hid fun K10 HK10 => ?_
      go_wp2_with (first
        | (refine wpList_load_blk 27 (.tmp 12) agg_bean rfl rfl rfl B12 rfl ?_)
        | (go_at_call 28; refine (T4.out _ hB1).mono ?_; rintro e w26 ⟨rfl, hb5⟩; replace bb := bb.below hb5 bb.lt; replace B12 := B12.below hb5 B12.lt; replace B13 := B13.below hb5 B13.lt; replace B23 := B23.below hb5 B23.lt; replace hold := hold.below hb5; replace B41 := B41.below hb5 B41.lt; replace hB1 := hB1.trans (hb5.mono hB1.size); clear hb5; refine at_stop ?_))
      unfold Stop
      go_wp2_with fail
      refine HK10.out _ _ ?_
      clear HK10
      clear T1 T2 T3 T4 B12
      refine wp_seq_hid fun K11 HK11 => ?_
      have r41 := B41.cell
      have r23 := B23.cell
      go_wp2_with fail
      refine HK11.out _ _ ?_
      clear HK11 r41 r23
      obtain ⟨hU, hm, hl, hV, hbd⟩ := HAll.out
      exact more_other_end Q (b := b) (w0 := w0) (w1 := W) (z := zr) (qU := qU) (loU := loU) (hiU := hiU) hl hV hbd he hB hB1 hm bb B13 B23 B41 (by omega) hge41 hold hU HE.out
end Go.Proofs.Ytjbjmoghloabpaa
