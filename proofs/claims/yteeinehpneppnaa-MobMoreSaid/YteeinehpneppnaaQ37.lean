/- Parts of a proof: MxI. -/
import Derived.Test.YteeinehpneppnaaQ36
set_option linter.unusedVariables false
set_option linter.unusedSimpArgs false
namespace Go.Proofs.Yteeinehpneppnaa
open Go.RowKit Go.Proofs
attribute [local irreducible] Ord.walk
noncomputable def mC13 : Code := mFrom 13 moreCode
/-- The closure in: a span lies within another one. -/
theorem l_in (a b c d : Int) (h1 : c ≤ a) (h2 : b ≤ d) (w : World) : Calls Try.prog 39 #[.agg #[.int .i64 a, .int .i64 b], .agg #[.int .i64 c, .int .i64 d]] w (Gives (.bool true) w) := by
  go_enter Try.func39, Try.ntmps39
  go_wp2
  all_goals (try (exfalso; omega))
  all_goals go_ret
  all_goals exact ⟨rfl, by (repeat (first | assumption | exact Below.refl _ _ | refine Below.drew ?_ | refine Below.alloc ?_ (by first | omega | (simp; done) | (simp; omega)) _ | refine Below.setCell ?_ (by first | omega | (simp; done) | (simp; omega)) _ | refine Below.trans ?_ (Below.mono (by assumption) (by first | omega | (simp; done) | (simp; omega)))))⟩
set_option maxHeartbeats 40000000 in
set_option maxRecDepth 100000 in
theorem more_tail {u0 u1 u2 u3 u4 u6 u7 u8 u9 u10 u19 u20 u21 u22 u27 u28 u29 u30 u31 u32 u33 u34 u35 u36 u37 u38 u39 u40 u41 u42 u43 u44 u45 u46 u47 u48 u49 u50 u51 u52 u53 u54 u55 u56 u57 u58 u59 u60 u61 u62 u63 u64 u65 u66 u67 u68 u69 u70 u71 u72 u73 u74 u75 u76 u77 u78 u79 u80 u81 u82 u83 u84 u85 u86 u87 u88 u89 u90 u91 u92 u93 u94 u95 u96 u97 u98 u99 u100 u101 u102 u103 u104 u105 u106 u107 u108 u109 u110 u111 u112 u113 u114 u115 u116 u117 u118 u119 u120 u121 u122 u123 u124 u125 u126 u127 u128 u129 u130 u131 u132 u133 u134 u135 u136 u137 u138 u139 u140 u141 u142 u143 u144 u145 u146 u147 u148 u149 u150 u151 u152 u153 u154 u155 u156 u157 u158 u159 u160 u161 u162 u163 u164 u165 u166 u167 u168 u169 u170 u171 u172 u173 u174 u175 u176 u177 u178 u179 u180 u181 u182 u183 u184 u185 u186 u187 u188 u189 u190 u191 u192 u193 u194 u195 u196 u197 u198 u199 u200 u201 u202 u203 u204 u205 u206 u207 u208 u209 u210 u211 u212 u213 u214 u215 u216 u217 u218 u219 u220 u221 u222 u223 u224 u225 u226 u227 u228 u229 u230 u231 u232 u233 u234 u235 u236 u237 u238 u239 u240 u241 u242 u243 u244 u245 u246 u247 u248 u249 u250 u251 u252 u253 u254 u255 u256 u257 u258 u259 u260 u261 u262 u263 u264 u265 u266 u267 u268 u269 u270 u271 u272 u273 u274 u275 u276 u277 u278 u279 u280 u281 u282 u283 u284 u285 u286 u287 u288 u289 u290 u291 u292 u293 u294 u295 u296 u297 u298 u299 u300 u301 u302 u303 u304 u305 u306 u307 u308 u309 u310 u311 u312 u313 u314 u315 u316 u317 u318 u319 u320 u321 u322 u323 u324 u325 u326 u327 u328 u329 u330 u331 u332 u333 u334 u335 u336 u337 u338 u339 u340 u341 u342 u343 u344 u345 u346 u347 u348 u349 u350 u351 u352 u353 u354 u355 u356 u357 u358 u359 u360 u361 u362 u363 u364 u365 u366 u367 u368 u369 u370 u371 u372 u373 u374 u375 u376 u377 u378 u379 u380 u381 u382 u383 u384 u385 u386 u387 u388 u389 u390 u391 u392 u393 u394 u395 u396 u397 u398 u399 u400 u401 u402 u403 u404 u405 u406 u407 u408 u409 u410 u411 u412 u413 u414 u415 u416 u417 u418 u419 u420 u421 u422 u423 u424 u425 u426 u427 u428 u429 u430 u431 u432 u433 u434 u435 u436 u437 u438 u439 u440 u441 u442 u443 u444 u445 u446 u447 u448 u449 u450 u451 u452 u453 u454 u455 u456 u457 u458 u459 u460 u461 u462 u463 u464 u465 u466 u467 u468 u469 u470 u471 u472 u473 u474 u475 u476 u477 u478 u479 u480 u481 u482 u483 u484 u485 u486 u487 u488 u489 u490 u491 u492 u493 u494 u495 u496 u497 u498 u499 u500 u501 u502 u503 u504 u505 u506 u507 u508 u509 u510 u511 u512 u513 u514 u515 u516 u517 u518 u519 u520 u521 u522 u523 u524 u525 u526 u527 u528 u529 u530 u531 u532 u533 u534 u535 u536 u537 u538 u539 u540 u541 u542 u543 u544 : Value} (Q : Exit → Act → World → Prop) {m : Mb} {A : Ma} {w0 W : World} {p5 p15 p16 p17 p18 gt ct z i day sh : Nat} {v23 v24 v25 v26 t0 t1 t3 x0 x1 x2 x3 y0 y1 y2 y3 z0 z1 z2 z3 : Value} {a b : Int} {lo hi' slo shi e : Int} {set su pe : Nat} (hl : m.places.length ≤ 40 ∧ m.legs.length ≤ 40 ∧ m.herds.length ≤ 4 ∧ m.seen.length ≤ 40) (hi : i < m.herds.length)
    (hbd : -1000 ≤ (m.herds[i]).2.1 ∧ (m.herds[i]).2.1 ≤ 1000 ∧ -1000 ≤ (m.herds[i]).2.2.1 ∧ (m.herds[i]).2.2.1 ≤ 1000) (hab : -10000 ≤ a ∧ a ≤ 10000 ∧ -10000 ≤ b ∧ b ≤ 10000)
    (hB : Below w0.heap.size w0 W) (hm : MbAt w0 m A) (bb : Blk W p5 #[.slice A.pa m.places.length A.pc, .slice A.la m.legs.length A.lc, .slice A.ha m.herds.length A.hc, .slice A.sa m.seen.length A.sc] 27) (B15 : Blk W p15 #[x0, x1, x2, x3] 27) (B16 : Blk W p16 #[y0, y1, y2, y3] 27) (B17 : Blk W p17 #[z0, z1, z2, z3] 27) (B18 : Blk W p18 #[t0, t1, .slice (some ⟨gt, 0, none⟩) m.herds.length ct, t3] 27) (RT : RB W gt 56 4 i4c m.herds) (hgt : w0.heap.size ≤ gt) (hgz : gt < z) (hold : Olds W z m v23 v24 v25 v26)
    (he : e = 10 ∨ e = 0) (hF : Four (.agg #[.slice A.pa m.places.length A.pc, .slice A.la m.legs.length A.lc, .slice A.ha m.herds.length A.hc, .slice A.sa m.seen.length A.sc]) W i day sh lo hi' slo shi e set su pe) (hX : QC (.agg #[x0, x1, x2, x3]) W i day sh lo hi' slo shi e set su pe) (hY : QC (.agg #[y0, y1, y2, y3]) W i day sh lo hi' slo shi e set su pe)
    (hone : ∀ v ∈ [x0, x1, x2, x3, y0, y1, y2, y3], v.oneCell' = true) {su2 pe2 : Nat} (hZ : Four (.agg #[z0, z1, z2, z3]) W (m.herds.length - 1 - i) day sh lo hi' slo shi e set su2 pe2)
    (hT1 : ∀ W', Below W.heap.size W W' → Calls Try.prog 22 #[.agg #[t0, t1, .slice (some ⟨gt, 0, none⟩) m.herds.length ct, t3], .int .i64 (i : Int), .int .i64 (sh : Int)] W' (Gives2 (.agg #[.int .i64 a, .int .i64 b]) (.int .i64 0) W'))
    (hT2 : (m.herds[i]).2.2.1 < 30 → ∀ W', Below w0.heap.size w0 W' → RB W' gt 56 4 i4c (lateM m i).herds → Calls Try.prog 22 #[.agg #[t0, t1, .slice (some ⟨gt, 0, none⟩) m.herds.length ct, t3], .int .i64 (i : Int), .int .i64 (sh : Int)] W' (Gives2 (.agg #[.int .i64 (a + 1), .int .i64 (b + 1)]) (.int .i64 0) W'))
    (hexit : ∀ (tm : Array Value) W', tm[10]? = some (.bool true) → Below w0.heap.size w0 W' → Q .ret ⟨tm, []⟩ W') :
    mC13.wp Try.prog Q ⟨(u0 :: u1 :: u2 :: u3 :: u4 :: .pointer (some ⟨p5, 0, none⟩) :: u6 :: u7 :: u8 :: u9 :: u10 :: .int .i64 (m.herds.length : Int) :: .int .i64 (i : Int) :: .int .i64 (day : Int) :: .int .i64 (sh : Int) :: .pointer (some ⟨p15, 0, none⟩) :: .pointer (some ⟨p16, 0, none⟩) :: .pointer (some ⟨p17, 0, none⟩) :: .pointer (some ⟨p18, 0, none⟩) :: u19 :: u20 :: u21 :: u22 :: v23 :: v24 :: v25 :: v26 :: u27 :: u28 :: u29 :: u30 :: u31 :: u32 :: u33 :: u34 :: u35 :: u36 :: u37 :: u38 :: u39 :: u40 :: u41 :: u42 :: u43 :: u44 :: u45 :: u46 :: u47 :: u48 :: u49 :: u50 :: u51 :: u52 :: u53 :: u54 :: u55 :: u56 :: u57 :: u58 :: u59 :: u60 :: u61 :: u62 :: u63 :: u64 :: u65 :: u66 :: u67 :: u68 :: u69 :: u70 :: u71 :: u72 :: u73 :: u74 :: u75 :: u76 :: u77 :: u78 :: u79 :: u80 :: u81 :: u82 :: u83 :: u84 :: u85 :: u86 :: u87 :: u88 :: u89 :: u90 :: u91 :: u92 :: u93 :: u94 :: u95 :: u96 :: u97 :: u98 :: u99 :: u100 :: u101 :: u102 :: u103 :: u104 :: u105 :: u106 :: u107 :: u108 :: u109 :: u110 :: u111 :: u112 :: u113 :: u114 :: u115 :: u116 :: u117 :: u118 :: u119 :: u120 :: u121 :: u122 :: u123 :: u124 :: u125 :: u126 :: u127 :: u128 :: u129 :: u130 :: u131 :: u132 :: u133 :: u134 :: u135 :: u136 :: u137 :: u138 :: u139 :: u140 :: u141 :: u142 :: u143 :: u144 :: u145 :: u146 :: u147 :: u148 :: u149 :: u150 :: u151 :: u152 :: u153 :: u154 :: u155 :: u156 :: u157 :: u158 :: u159 :: u160 :: u161 :: u162 :: u163 :: u164 :: u165 :: u166 :: u167 :: u168 :: u169 :: u170 :: u171 :: u172 :: u173 :: u174 :: u175 :: u176 :: u177 :: u178 :: u179 :: u180 :: u181 :: u182 :: u183 :: u184 :: u185 :: u186 :: u187 :: u188 :: u189 :: u190 :: u191 :: u192 :: u193 :: u194 :: u195 :: u196 :: u197 :: u198 :: u199 :: u200 :: u201 :: u202 :: u203 :: u204 :: u205 :: u206 :: u207 :: u208 :: u209 :: u210 :: u211 :: u212 :: u213 :: u214 :: u215 :: u216 :: u217 :: u218 :: u219 :: u220 :: u221 :: u222 :: u223 :: u224 :: u225 :: u226 :: u227 :: u228 :: u229 :: u230 :: u231 :: u232 :: u233 :: u234 :: u235 :: u236 :: u237 :: u238 :: u239 :: u240 :: u241 :: u242 :: u243 :: u244 :: u245 :: u246 :: u247 :: u248 :: u249 :: u250 :: u251 :: u252 :: u253 :: u254 :: u255 :: u256 :: u257 :: u258 :: u259 :: u260 :: u261 :: u262 :: u263 :: u264 :: u265 :: u266 :: u267 :: u268 :: u269 :: u270 :: u271 :: u272 :: u273 :: u274 :: u275 :: u276 :: u277 :: u278 :: u279 :: u280 :: u281 :: u282 :: u283 :: u284 :: u285 :: u286 :: u287 :: u288 :: u289 :: u290 :: u291 :: u292 :: u293 :: u294 :: u295 :: u296 :: u297 :: u298 :: u299 :: u300 :: u301 :: u302 :: u303 :: u304 :: u305 :: u306 :: u307 :: u308 :: u309 :: u310 :: u311 :: u312 :: u313 :: u314 :: u315 :: u316 :: u317 :: u318 :: u319 :: u320 :: u321 :: u322 :: u323 :: u324 :: u325 :: u326 :: u327 :: u328 :: u329 :: u330 :: u331 :: u332 :: u333 :: u334 :: u335 :: u336 :: u337 :: u338 :: u339 :: u340 :: u341 :: u342 :: u343 :: u344 :: u345 :: u346 :: u347 :: u348 :: u349 :: u350 :: u351 :: u352 :: u353 :: u354 :: u355 :: u356 :: u357 :: u358 :: u359 :: u360 :: u361 :: u362 :: u363 :: u364 :: u365 :: u366 :: u367 :: u368 :: u369 :: u370 :: u371 :: u372 :: u373 :: u374 :: u375 :: u376 :: u377 :: u378 :: u379 :: u380 :: u381 :: u382 :: u383 :: u384 :: u385 :: u386 :: u387 :: u388 :: u389 :: u390 :: u391 :: u392 :: u393 :: u394 :: u395 :: u396 :: u397 :: u398 :: u399 :: u400 :: u401 :: u402 :: u403 :: u404 :: u405 :: u406 :: u407 :: u408 :: u409 :: u410 :: u411 :: u412 :: u413 :: u414 :: u415 :: u416 :: u417 :: u418 :: u419 :: u420 :: u421 :: u422 :: u423 :: u424 :: u425 :: u426 :: u427 :: u428 :: u429 :: u430 :: u431 :: u432 :: u433 :: u434 :: u435 :: u436 :: u437 :: u438 :: u439 :: u440 :: u441 :: u442 :: u443 :: u444 :: u445 :: u446 :: u447 :: u448 :: u449 :: u450 :: u451 :: u452 :: u453 :: u454 :: u455 :: u456 :: u457 :: u458 :: u459 :: u460 :: u461 :: u462 :: u463 :: u464 :: u465 :: u466 :: u467 :: u468 :: u469 :: u470 :: u471 :: u472 :: u473 :: u474 :: u475 :: u476 :: u477 :: u478 :: u479 :: u480 :: u481 :: u482 :: u483 :: u484 :: u485 :: u486 :: u487 :: u488 :: u489 :: u490 :: u491 :: u492 :: u493 :: u494 :: u495 :: u496 :: u497 :: u498 :: u499 :: u500 :: u501 :: u502 :: u503 :: u504 :: u505 :: u506 :: u507 :: u508 :: u509 :: u510 :: u511 :: u512 :: u513 :: u514 :: u515 :: u516 :: u517 :: u518 :: u519 :: u520 :: u521 :: u522 :: u523 :: u524 :: u525 :: u526 :: u527 :: u528 :: u529 :: u530 :: u531 :: u532 :: u533 :: u534 :: u535 :: u536 :: u537 :: u538 :: u539 :: u540 :: u541 :: u542 :: u543 :: u544 :: []).toArray, []⟩ W := by
  have HE := Lib.hid hexit
  have HAll := Lib.hid (And.intro hT1 (And.intro hT2 (And.intro hm (And.intro hbd hab))))
  have I1 := Lib.hid hF.comes
  have I2 := Lib.hid hF.wher
  have I3 := Lib.hid hF.str
  have I4 := Lib.hid hF.there
  have hni : ((m.herds.length - 1 - i : Nat) : Int) = (m.herds.length : Int) - 1 - (i : Int) := by omega
  have hc := hZ.comes
  have hw := hZ.wher
  have hs := hZ.str
  rw [hni] at hc hw hs
  have Z1 := Lib.hid hc
  have Z2 := Lib.hid hw
  have Z3 := Lib.hid hs
  have HL := Lib.hid hl
  have HIN := Lib.hid l_in
  have HXY : Hid (∀ k, k < 2 → ∃ q0 q1 q2 q3, (#[x0, x1, x2, x3, y0, y1, y2, y3] : Array Value)[k * 4]? = some q0 ∧ (#[x0, x1, x2, x3, y0, y1, y2, y3] : Array Value)[k * 4 + 1]? = some q1 ∧ (#[x0, x1, x2, x3, y0, y1, y2, y3] : Array Value)[k * 4 + 2]? = some q2 ∧ (#[x0, x1, x2, x3, y0, y1, y2, y3] : Array Value)[k * 4 + 3]? = some q3 ∧ (q0.oneCell' = true ∧ q1.oneCell' = true ∧ q2.oneCell' = true ∧ q3.oneCell' = true) ∧ QC (.agg #[q0, q1, q2, q3]) W i day sh lo hi' slo shi e set su pe) := fun k hk => by
    rcases (show k = 0 ∨ k = 1 by omega) with rfl | rfl
    · exact ⟨x0, x1, x2, x3, rfl, rfl, rfl, rfl, ⟨hone _ (by simp), hone _ (by simp), hone _ (by simp), hone _ (by simp)⟩, hX⟩
    · exact ⟨y0, y1, y2, y3, rfl, rfl, rfl, rfl, ⟨hone _ (by simp), hone _ (by simp), hone _ (by simp), hone _ (by simp)⟩, hY⟩
  clear hexit hT1 hT2 hm hbd hab hF hX hY hZ hc hw hs hni hone
  obtain ⟨l1, l2, l3, l4⟩ := hl
  have hll : (m.herds.length : Int) ≤ 4 := by omega
  have hil : (i : Int) < (m.herds.length : Int) := Int.ofNat_lt.2 hi
  have hB1 : Below W.heap.size W W := Below.refl _ _
  conv => arg 2; whnf
  refine wp_seq_hid fun K1 HK1 => ?_
  go_wp2_with (first
    | (refine wpList_load_blk 27 (.tmp 5) agg_mob rfl rfl rfl bb rfl ?_)
    | (go_at_call 22; refine (I1.out _ hB1).mono ?_; rintro e w5 ⟨rfl, hb5⟩; replace bb := bb.below hb5 bb.lt; replace B15 := B15.below hb5 B15.lt; replace B16 := B16.below hb5 B16.lt; replace B17 := B17.below hb5 B17.lt; replace B18 := B18.below hb5 B18.lt; replace RT := RT.move (fun _ hb => hb.below hb5 hb.lt); replace hold := hold.below hb5; replace hB1 := hB1.trans (hb5.mono hB1.size); clear hb5; refine at_stop ?_))
  unfold Stop
  go_wp2_with (first
    | (refine wpList_store_blk 39 (.tmp 27) (.tmp 231) agg_span rfl rfl rfl rfl (Blk.new _ _ _) rfl rfl (by simp [Value.oneCell']) ?_; intro w6 h; refine at_stop ?_))
  unfold Stop
  have hold' := hold.below (h.below ((Below.refl _ _).alloc (Nat.le_refl _) _) (Nat.le_refl _))
  clear hold
  have B27 := h.blk
  replace bb := h.other (bb.alloc _) (by have := bb.lt; (try simp only [World.size_drew]); omega)
  replace B15 := h.other (B15.alloc _) (by have := B15.lt; (try simp only [World.size_drew]); omega)
  replace B16 := h.other (B16.alloc _) (by have := B16.lt; (try simp only [World.size_drew]); omega)
  replace B17 := h.other (B17.alloc _) (by have := B17.lt; (try simp only [World.size_drew]); omega)
  replace B18 := h.other (B18.alloc _) (by have := B18.lt; (try simp only [World.size_drew]); omega)
  replace RT := RT.move (fun _ hb => h.other (hb.alloc _) (by have := hb.lt; (try simp only [World.size_drew]); omega))
  replace hB1 := h.below (hB1.alloc hB1.size _) hB1.size
  generalize hp27 : w5.heap.size = p27 at *
  clear h
  have hold := hold'
  clear hold'
  go_wp2_with fail
  refine HK1.out _ _ ?_
  clear HK1
  refine wp_seq_hid fun K2 HK2 => ?_
  go_wp2_with (first
    | (refine wpList_load_blk 27 (.tmp 5) agg_mob rfl rfl rfl bb rfl ?_)
    | (go_at_call 23; refine (I2.out _ hB1).mono ?_; rintro e w7 ⟨rfl, hb5⟩; replace bb := bb.below hb5 bb.lt; replace B15 := B15.below hb5 B15.lt; replace B16 := B16.below hb5 B16.lt; replace B17 := B17.below hb5 B17.lt; replace B18 := B18.below hb5 B18.lt; replace RT := RT.move (fun _ hb => hb.below hb5 hb.lt); replace hold := hold.below hb5; replace B27 := B27.below hb5 B27.lt; replace hB1 := hB1.trans (hb5.mono hB1.size); clear hb5; refine at_stop ?_))
  unfold Stop
  go_wp2_with fail
  refine HK2.out _ _ ?_
  clear HK2
  refine wp_seq_hid fun K3 HK3 => ?_
  go_wp2_with (first
    | (refine wpList_load_blk 27 (.tmp 5) agg_mob rfl rfl rfl bb rfl ?_)
    | (go_at_call 24; refine (I3.out _ hB1).mono ?_; rintro e w8 ⟨rfl, hb5⟩; replace bb := bb.below hb5 bb.lt; replace B15 := B15.below hb5 B15.lt; replace B16 := B16.below hb5 B16.lt; replace B17 := B17.below hb5 B17.lt; replace B18 := B18.below hb5 B18.lt; replace RT := RT.move (fun _ hb => hb.below hb5 hb.lt); replace hold := hold.below hb5; replace B27 := B27.below hb5 B27.lt; replace hB1 := hB1.trans (hb5.mono hB1.size); clear hb5; refine at_stop ?_))
  unfold Stop
  go_wp2_with (first
    | (refine wpList_store_blk 39 (.tmp 31) (.tmp 244) agg_span rfl rfl rfl rfl (Blk.new _ _ _) rfl rfl (by simp [Value.oneCell']) ?_; intro w9 h; refine at_stop ?_))
  unfold Stop
  have hold' := hold.below (h.below ((Below.refl _ _).alloc (Nat.le_refl _) _) (Nat.le_refl _))
  clear hold
  have B31 := h.blk
  replace bb := h.other (bb.alloc _) (by have := bb.lt; (try simp only [World.size_drew]); omega)
  replace B15 := h.other (B15.alloc _) (by have := B15.lt; (try simp only [World.size_drew]); omega)
  replace B16 := h.other (B16.alloc _) (by have := B16.lt; (try simp only [World.size_drew]); omega)
  replace B17 := h.other (B17.alloc _) (by have := B17.lt; (try simp only [World.size_drew]); omega)
  replace B18 := h.other (B18.alloc _) (by have := B18.lt; (try simp only [World.size_drew]); omega)
  replace RT := RT.move (fun _ hb => h.other (hb.alloc _) (by have := hb.lt; (try simp only [World.size_drew]); omega))
  replace B27 := h.other (B27.alloc _) (by have := B27.lt; (try simp only [World.size_drew]); omega)
  replace hB1 := h.below (hB1.alloc hB1.size _) hB1.size
  generalize hp31 : w8.heap.size = p31 at *
  clear h
  have hold := hold'
  clear hold'
  go_wp2_with fail
  refine HK3.out _ _ ?_
  clear HK3
  refine wp_seq_hid fun K4 HK4 => ?_
  go_wp2_with (first
    | (refine wpList_load_blk 27 (.tmp 5) agg_mob rfl rfl rfl bb rfl ?_)
    | (go_at_call 15; refine (I4.out _ hB1).mono ?_; rintro e w10 ⟨rfl, hb5⟩; replace bb := bb.below hb5 bb.lt; replace B15 := B15.below hb5 B15.lt; replace B16 := B16.below hb5 B16.lt; replace B17 := B17.below hb5 B17.lt; replace B18 := B18.below hb5 B18.lt; replace RT := RT.move (fun _ hb => hb.below hb5 hb.lt); replace hold := hold.below hb5; replace B27 := B27.below hb5 B27.lt; replace B31 := B31.below hb5 B31.lt; replace hB1 := hB1.trans (hb5.mono hB1.size); clear hb5; refine at_stop ?_))
  unfold Stop
  clear I1 I2 I3 I4
  go_wp2_with fail
  refine HK4.out _ _ ?_
  clear HK4
  refine wp_seq_hid fun K5 HK5 => ?_
  go_wp2_with fail
  refine HK5.out _ _ ?_
  clear HK5
  refine wp_seq_hid fun K6 HK6 => ?_
  go_wp2_with fail
  refine HK6.out _ _ ?_
  clear HK6
  refine wp_seq_hid fun K7 HK7 => ?_
  go_wp2_with (first
    | (refine wpList_load_blk 27 (.tmp 15) agg_mob rfl rfl rfl B15 rfl ?_)
    | (refine wpList_load_blk 27 (.tmp 16) agg_mob rfl rfl rfl B16 rfl ?_))
  have b268 := Blk.new w10 #[x0, x1, x2, x3, y0, y1, y2, y3] 27
  have hB11 := hB1.alloc hB1.size (.cells #[x0, x1, x2, x3, y0, y1, y2, y3] 27)
  replace bb := bb.alloc (.cells #[x0, x1, x2, x3, y0, y1, y2, y3] 27)
  replace B17 := B17.alloc (.cells #[x0, x1, x2, x3, y0, y1, y2, y3] 27)
  replace B18 := B18.alloc (.cells #[x0, x1, x2, x3, y0, y1, y2, y3] 27)
  replace B27 := B27.alloc (.cells #[x0, x1, x2, x3, y0, y1, y2, y3] 27)
  replace B31 := B31.alloc (.cells #[x0, x1, x2, x3, y0, y1, y2, y3] 27)
  replace RT := RT.move (fun _ h => h.alloc (.cells #[x0, x1, x2, x3, y0, y1, y2, y3] 27))
  replace hold := hold.below ((Below.refl _ w10).alloc (Nat.le_refl _) (.cells #[x0, x1, x2, x3, y0, y1, y2, y3] 27))
  clear hB1 B15 B16
  generalize hp268 : w10.heap.size = p268 at *
  clear hp268
  generalize w10.alloc (.cells #[x0, x1, x2, x3, y0, y1, y2, y3] 27) = w11 at *
  go_loopw [270] (fun x wr => ∃ k : Nat, k ≤ 2 ∧ x = .int .i64 (k : Int) ∧ Below w11.heap.size w11 wr) (fun x _ => (2 - (intOf x).toNat))
  case atStart => exact ⟨0, by omega, rfl, Below.refl _ _⟩
  case round =>
    obtain ⟨k, hk, rfl, hBr⟩ := hrel
    by_cases hlt : k < 2
    · have hlti : (k : Int) < 2 := by omega
      obtain ⟨q0, q1, q2, q3, g0, g1, g2, g3, hone, vq, hr, hyes⟩ := HXY.out k hlt
      have HO := Lib.hid hone
      clear hone
      have HR := Lib.hid hr
      have HY := Lib.hid hyes
      clear hr hyes
      have br := b268.below hBr b268.lt
      have c0 : wr.cell? ⟨p268, k * 4, none⟩ = some q0 := (br.cell (k * 4)).trans g0
      have c1 : wr.cell? ⟨p268, k * 4 + 1, none⟩ = some q1 := (br.cell (k * 4 + 1)).trans g1
      have c2 : wr.cell? ⟨p268, k * 4 + 2, none⟩ = some q2 := (br.cell (k * 4 + 2)).trans g2
      have c3 : wr.cell? ⟨p268, k * 4 + 3, none⟩ = some q3 := (br.cell (k * 4 + 3)).trans g3
      have D27 := B27.below hBr B27.lt
      have D31 := B31.below hBr B31.lt
      clear g0 g1 g2 g3 br
      go_wp2_with (first
        | (refine wpList_store_blk 27 (.tmp 38) (.tmp 273) agg_mob rfl rfl rfl rfl (Blk.new _ _ _) rfl rfl (by obtain ⟨o0, o1, o2, o3⟩ := HO.out; simp [o0, o1, o2, o3]) ?_; intro w12 h; refine at_stop ?_))
      unfold Stop
      have B38 := h.blk
      replace D27 := h.other (D27.alloc _) (by have := D27.lt; (try simp only [World.size_drew]); omega)
      replace D31 := h.other (D31.alloc _) (by have := D31.lt; (try simp only [World.size_drew]); omega)
      replace hBr := h.below (hBr.alloc hBr.size _) hBr.size
      generalize hp38 : wr.heap.size = p38 at *
      clear h
      clear c0 c1 c2 c3
      go_wp2_with (first
        | (refine wpList_load_blk 27 (.tmp 38) agg_mob rfl rfl rfl B38 rfl ?_)
        | (go_at_call 28; refine (HR.out _ (hB11.trans (hBr.mono hB11.size))).mono ?_; rintro e w13 ⟨rfl, hb5⟩; replace D27 := D27.below hb5 D27.lt; replace D31 := D31.below hb5 D31.lt; replace B38 := B38.below hb5 B38.lt; replace hBr := hBr.trans (hb5.mono hBr.size); clear hb5; refine at_stop ?_))
      unfold Stop
      clear HR
      cases vq
      · go_wp2_with fail
        exact ⟨⟨k + 1, by omega, by go_num, hBr⟩, by simp [intOf]; omega⟩
      · obtain ⟨lo2, hi2, slo2, shi2, kk, set2, su3, pe3, hFq, hcase⟩ := HY.out rfl
        have G1 := Lib.hid hFq.comes
        have G2 := Lib.hid hFq.wher
        have G3 := Lib.hid hFq.str
        have G4 := Lib.hid hFq.there
        have HC := Lib.hid hcase
        clear HY hFq hcase
        go_wp2_with (first
          | (refine wpList_load_blk 27 (.tmp 38) agg_mob rfl rfl rfl B38 rfl ?_)
          | (go_at_call 22; refine (G1.out _ (hB11.trans (hBr.mono hB11.size))).mono ?_; rintro e w14 ⟨rfl, hb5⟩; replace D27 := D27.below hb5 D27.lt; replace D31 := D31.below hb5 D31.lt; replace B38 := B38.below hb5 B38.lt; replace hBr := hBr.trans (hb5.mono hBr.size); clear hb5; refine at_stop ?_))
        unfold Stop
        go_wp2_with (first
          | (refine wpList_store_blk 39 (.tmp 39) (.tmp 282) agg_span rfl rfl rfl rfl (Blk.new _ _ _) rfl rfl (by simp [Value.oneCell']) ?_; intro w15 h; refine at_stop ?_))
        unfold Stop
        have B39 := h.blk
        replace D27 := h.other (D27.alloc _) (by have := D27.lt; (try simp only [World.size_drew]); omega)
        replace D31 := h.other (D31.alloc _) (by have := D31.lt; (try simp only [World.size_drew]); omega)
        replace B38 := h.other (B38.alloc _) (by have := B38.lt; (try simp only [World.size_drew]); omega)
        replace hBr := h.below (hBr.alloc hBr.size _) hBr.size
        generalize hp39 : w14.heap.size = p39 at *
        clear h
        go_wp2_with (first
          | (refine wpList_load_blk 27 (.tmp 38) agg_mob rfl rfl rfl B38 rfl ?_)
          | (go_at_call 23; refine (G2.out _ (hB11.trans (hBr.mono hB11.size))).mono ?_; rintro e w16 ⟨rfl, hb5⟩; replace D27 := D27.below hb5 D27.lt; replace D31 := D31.below hb5 D31.lt; replace B38 := B38.below hb5 B38.lt; replace B39 := B39.below hb5 B39.lt; replace hBr := hBr.trans (hb5.mono hBr.size); clear hb5; refine at_stop ?_))
        unfold Stop
        go_wp2_with (first
          | (refine wpList_load_blk 27 (.tmp 38) agg_mob rfl rfl rfl B38 rfl ?_)
          | (go_at_call 24; refine (G3.out _ (hB11.trans (hBr.mono hB11.size))).mono ?_; rintro e w17 ⟨rfl, hb5⟩; replace D27 := D27.below hb5 D27.lt; replace D31 := D31.below hb5 D31.lt; replace B38 := B38.below hb5 B38.lt; replace B39 := B39.below hb5 B39.lt; replace hBr := hBr.trans (hb5.mono hBr.size); clear hb5; refine at_stop ?_))
        unfold Stop
        go_wp2_with (first
          | (refine wpList_store_blk 39 (.tmp 43) (.tmp 295) agg_span rfl rfl rfl rfl (Blk.new _ _ _) rfl rfl (by simp [Value.oneCell']) ?_; intro w18 h; refine at_stop ?_))
        unfold Stop
        have B43 := h.blk
        replace D27 := h.other (D27.alloc _) (by have := D27.lt; (try simp only [World.size_drew]); omega)
        replace D31 := h.other (D31.alloc _) (by have := D31.lt; (try simp only [World.size_drew]); omega)
        replace B38 := h.other (B38.alloc _) (by have := B38.lt; (try simp only [World.size_drew]); omega)
        replace B39 := h.other (B39.alloc _) (by have := B39.lt; (try simp only [World.size_drew]); omega)
        replace hBr := h.below (hBr.alloc hBr.size _) hBr.size
        generalize hp43 : w17.heap.size = p43 at *
        clear h
        go_wp2_with (first
          | (refine wpList_load_blk 27 (.tmp 38) agg_mob rfl rfl rfl B38 rfl ?_)
          | (go_at_call 15; refine (G4.out _ (hB11.trans (hBr.mono hB11.size))).mono ?_; rintro e w19 ⟨rfl, hb5⟩; replace D27 := D27.below hb5 D27.lt; replace D31 := D31.below hb5 D31.lt; replace B38 := B38.below hb5 B38.lt; replace B39 := B39.below hb5 B39.lt; replace B43 := B43.below hb5 B43.lt; replace hBr := hBr.trans (hb5.mono hBr.size); clear hb5; refine at_stop ?_))
        unfold Stop
        clear G1 G2 G3 G4 B38
        go_upto_region 42 with fail
        rcases HC.out with rfl | ⟨rfl, rfl, k1, k2, k3, k4, k5, k6, k7⟩
        · clear HC
          go_wp2_with fail
          exact ⟨⟨k + 1, by omega, by go_num, hBr⟩, by simp [intOf]; omega⟩
        · clear HC
          have r39 := B39.cell
          have r27 := D27.cell
          have r43 := B43.cell
          have r31 := D31.cell
          go_wp2_with (first
            | (go_at_call 39; refine (HIN.out _ _ _ _ k1 k2 _).mono ?_; rintro e w20 ⟨rfl, hb5⟩; replace D27 := D27.below hb5 D27.lt; replace D31 := D31.below hb5 D31.lt; replace B39 := B39.below hb5 B39.lt; replace B43 := B43.below hb5 B43.lt; replace hBr := hBr.trans (hb5.mono hBr.size); clear hb5; refine at_stop ?_))
          unfold Stop
          clear r39 r27 r43 r31
          have r39 := B39.cell
          have r27 := D27.cell
          have r43 := B43.cell
          have r31 := D31.cell
          go_wp2_with (first
            | (go_at_call 39; refine (HIN.out _ _ _ _ k4 k5 _).mono ?_; rintro e w21 ⟨rfl, hb5⟩; replace D27 := D27.below hb5 D27.lt; replace D31 := D31.below hb5 D31.lt; replace B39 := B39.below hb5 B39.lt; replace B43 := B43.below hb5 B43.lt; replace hBr := hBr.trans (hb5.mono hBr.size); clear hb5; refine at_stop ?_))
          unfold Stop
          go_wp2_with fail
          exact ⟨⟨k + 1, by omega, by go_num, hBr⟩, by simp [intOf]; omega⟩
    · have hlti : ¬ (k : Int) < 2 := by omega
      go_wp2_with fail
      have hB1 := hB11.trans (hBr.mono hB11.size)
      replace bb := bb.below hBr bb.lt
      replace B17 := B17.below hBr B17.lt
      replace B18 := B18.below hBr B18.lt
      replace B27 := B27.below hBr B27.lt
      replace B31 := B31.below hBr B31.lt
      replace RT := RT.move (fun _ h => h.below hBr h.lt)
      replace hold := hold.below hBr
      clear hBr hB11 b268 HXY HIN hk hlt hlti
      generalize wr = wq at *
      clear wr
      refine HK7.out _ _ ?_
      clear HK7
      refine wp_seq_hid fun K8 HK8 => ?_
      go_wp2_with (first
        | (refine wpList_load_blk 27 (.tmp 17) agg_mob rfl rfl rfl B17 rfl ?_)
        | (go_at_call 22; refine (Z1.out _ hB1).mono ?_; rintro e w22 ⟨rfl, hb5⟩; replace bb := bb.below hb5 bb.lt; replace B17 := B17.below hb5 B17.lt; replace B18 := B18.below hb5 B18.lt; replace RT := RT.move (fun _ hb => hb.below hb5 hb.lt); replace hold := hold.below hb5; replace B27 := B27.below hb5 B27.lt; replace B31 := B31.below hb5 B31.lt; replace hB1 := hB1.trans (hb5.mono hB1.size); clear hb5; refine at_stop ?_))
      unfold Stop
      go_wp2_with (first
        | (refine wpList_store_blk 39 (.tmp 48) (.tmp 374) agg_span rfl rfl rfl rfl (Blk.new _ _ _) rfl rfl (by simp [Value.oneCell']) ?_; intro w23 h; refine at_stop ?_))
      unfold Stop
      have hold' := hold.below (h.below ((Below.refl _ _).alloc (Nat.le_refl _) _) (Nat.le_refl _))
      clear hold
      have B48 := h.blk
      replace bb := h.other (bb.alloc _) (by have := bb.lt; (try simp only [World.size_drew]); omega)
      replace B17 := h.other (B17.alloc _) (by have := B17.lt; (try simp only [World.size_drew]); omega)
      replace B18 := h.other (B18.alloc _) (by have := B18.lt; (try simp only [World.size_drew]); omega)
      replace RT := RT.move (fun _ hb => h.other (hb.alloc _) (by have := hb.lt; (try simp only [World.size_drew]); omega))
      replace B27 := h.other (B27.alloc _) (by have := B27.lt; (try simp only [World.size_drew]); omega)
      replace B31 := h.other (B31.alloc _) (by have := B31.lt; (try simp only [World.size_drew]); omega)
      replace hB1 := h.below (hB1.alloc hB1.size _) hB1.size
      generalize hp48 : w22.heap.size = p48 at *
      clear h
      have hold := hold'
      clear hold'
      go_wp2_with fail
      refine HK8.out _ _ ?_
      clear HK8
      refine wp_seq_hid fun K9 HK9 => ?_
      go_wp2_with (first
        | (refine wpList_load_blk 27 (.tmp 17) agg_mob rfl rfl rfl B17 rfl ?_)
        | (go_at_call 23; refine (Z2.out _ hB1).mono ?_; rintro e w24 ⟨rfl, hb5⟩; replace bb := bb.below hb5 bb.lt; replace B17 := B17.below hb5 B17.lt; replace B18 := B18.below hb5 B18.lt; replace RT := RT.move (fun _ hb => hb.below hb5 hb.lt); replace hold := hold.below hb5; replace B27 := B27.below hb5 B27.lt; replace B31 := B31.below hb5 B31.lt; replace B48 := B48.below hb5 B48.lt; replace hB1 := hB1.trans (hb5.mono hB1.size); clear hb5; refine at_stop ?_))
      unfold Stop
      go_wp2_with fail
      refine HK9.out _ _ ?_
      clear HK9
      refine wp_seq_hid fun K10 HK10 => ?_
      go_wp2_with (first
        | (refine wpList_load_blk 27 (.tmp 17) agg_mob rfl rfl rfl B17 rfl ?_)
        | (go_at_call 24; refine (Z3.out _ hB1).mono ?_; rintro e w25 ⟨rfl, hb5⟩; replace bb := bb.below hb5 bb.lt; replace B17 := B17.below hb5 B17.lt; replace B18 := B18.below hb5 B18.lt; replace RT := RT.move (fun _ hb => hb.below hb5 hb.lt); replace hold := hold.below hb5; replace B27 := B27.below hb5 B27.lt; replace B31 := B31.below hb5 B31.lt; replace B48 := B48.below hb5 B48.lt; replace hB1 := hB1.trans (hb5.mono hB1.size); clear hb5; refine at_stop ?_))
      unfold Stop
      go_wp2_with (first
        | (refine wpList_store_blk 39 (.tmp 52) (.tmp 393) agg_span rfl rfl rfl rfl (Blk.new _ _ _) rfl rfl (by simp [Value.oneCell']) ?_; intro w26 h; refine at_stop ?_))
      unfold Stop
      have hold' := hold.below (h.below ((Below.refl _ _).alloc (Nat.le_refl _) _) (Nat.le_refl _))
      clear hold
      have B52 := h.blk
      replace bb := h.other (bb.alloc _) (by have := bb.lt; (try simp only [World.size_drew]); omega)
      replace B17 := h.other (B17.alloc _) (by have := B17.lt; (try simp only [World.size_drew]); omega)
      replace B18 := h.other (B18.alloc _) (by have := B18.lt; (try simp only [World.size_drew]); omega)
      replace RT := RT.move (fun _ hb => h.other (hb.alloc _) (by have := hb.lt; (try simp only [World.size_drew]); omega))
      replace B27 := h.other (B27.alloc _) (by have := B27.lt; (try simp only [World.size_drew]); omega)
      replace B31 := h.other (B31.alloc _) (by have := B31.lt; (try simp only [World.size_drew]); omega)
      replace B48 := h.other (B48.alloc _) (by have := B48.lt; (try simp only [World.size_drew]); omega)
      replace hB1 := h.below (hB1.alloc hB1.size _) hB1.size
      generalize hp52 : w25.heap.size = p52 at *
      clear h
      have hold := hold'
      clear hold'
      go_wp2_with fail
      refine HK10.out _ _ ?_
      clear HK10
      clear Z1 Z2 Z3 B17
      refine wp_seq_hid fun K11 HK11 => ?_
      have r48 := B48.cell
      have r27 := B27.cell
      have r52 := B52.cell
      have r31 := B31.cell
      go_wp2_with fail
      refine HK11.out _ _ ?_
      clear HK11 r48 r27 r52 r31
      obtain ⟨J1, J2, hm, hbd, hab⟩ := HAll.out
      exact more_late_end Q (m := m) (A := A) (w0 := w0) (z := z) ⟨by omega, by omega, by omega, by omega⟩ hi hbd hab (hB.trans (hB1.mono hB.size)) hm bb B18 RT hgt hgz hold (fun W2 h => J1 W2 (hB1.trans (h.mono hB1.size))) J2 HE.out
end Go.Proofs.Yteeinehpneppnaa
