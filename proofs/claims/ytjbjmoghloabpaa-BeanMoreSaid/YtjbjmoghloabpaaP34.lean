/- Parts of a proof: MoreS. -/
import Derived.Test.YtjbjmoghloabpaaP33
set_option linter.unusedVariables false
set_option linter.unusedSimpArgs false
namespace Go.Proofs.Ytjbjmoghloabpaa
open Go.RowKit Go.Proofs
attribute [local irreducible] Ord.walk
noncomputable def mC5 : Code := mFrom 5 moreCode
set_option maxHeartbeats 40000000 in
set_option maxRecDepth 100000 in
theorem more_pre2 {u0 u1 u2 u3 u5 u6 u7 u8 u14 u15 u16 u17 u18 u19 u20 u21 u22 u23 u24 u25 u26 u27 u28 u29 u30 u31 u32 u33 u34 u35 u36 u37 u38 u39 u40 u41 u42 u43 u44 u45 u46 u47 u48 u49 u50 u51 u52 u53 u54 u55 u56 u57 u58 u59 u60 u61 u62 u63 u64 u65 u66 u67 u68 u69 u70 u71 u72 u73 u74 u75 u76 u77 u78 u79 u80 u81 u82 u83 u84 u85 u86 u87 u88 u89 u90 u91 u92 u93 u94 u95 u96 u97 u98 u99 u100 u101 u102 u103 u104 u105 u106 u107 u108 u109 u110 u111 u112 u113 u114 u115 u116 u117 u118 u119 u120 u121 u122 u123 u124 u125 u126 u127 u128 u129 u130 u131 u132 u133 u134 u135 u136 u137 u138 u139 u140 u141 u142 u143 u144 u145 u146 u147 u148 u149 u150 u151 u152 u153 u154 u155 u156 u157 u158 u159 u160 u161 u162 u163 u164 u165 u166 u167 u168 u169 u170 u171 u172 u173 u174 u175 u176 u177 u178 u179 u180 u181 u182 u183 u184 u185 u186 u187 u188 u189 u190 u191 u192 u193 u194 u195 u196 u197 u198 u199 u200 u201 u202 u203 u204 u205 u206 u207 u208 u209 u210 u211 u212 u213 u214 u215 u216 u217 u218 u219 u220 u221 u222 u223 u224 u225 u226 u227 u228 u229 u230 u231 u232 u233 u234 u235 u236 u237 u238 u239 u240 u241 u242 u243 u244 u245 u246 u247 u248 u249 u250 u251 u252 u253 u254 u255 u256 u257 u258 u259 u260 u261 u262 u263 u264 u265 u266 u267 u268 u269 u270 u271 u272 u273 u274 u275 u276 u277 u278 u279 u280 u281 u282 u283 u284 u285 u286 u287 u288 u289 u290 u291 u292 u293 u294 u295 u296 u297 u298 u299 u300 u301 u302 u303 u304 u305 u306 u307 u308 u309 u310 u311 u312 u313 u314 u315 u316 u317 u318 u319 u320 u321 u322 u323 u324 u325 u326 u327 u328 u329 u330 u331 u332 u333 u334 u335 u336 u337 u338 u339 u340 u341 u342 u343 u344 u345 u346 u347 u348 u349 u350 u351 u352 u353 u354 u355 u356 u357 u358 u359 u360 u361 u362 u363 u364 u365 u366 u367 u368 u369 u370 u371 u372 u373 u374 u375 u376 u377 u378 u379 u380 u381 u382 u383 u384 u385 u386 u387 u388 u389 u390 u391 u392 u393 u394 u395 u396 u397 u398 u399 u400 u401 u402 u403 u404 u405 u406 u407 u408 u409 u410 u411 u412 u413 u414 u415 u416 u417 u418 u419 u420 u421 u422 u423 u424 u425 u426 u427 u428 u429 u430 u431 u432 u433 u434 u435 u436 u437 u438 u439 u440 u441 u442 u443 u444 u445 u446 u447 u448 u449 u450 u451 u452 u453 u454 u455 u456 u457 u458 u459 u460 u461 u462 u463 u464 u465 u466 u467 u468 u469 u470 u471 u472 u473 u474 u475 u476 u477 u478 u479 u480 u481 u482 u483 u484 u485 u486 u487 u488 u489 u490 u491 u492 u493 u494 : Value} (Q : Exit → Act → World → Prop) {b q : Bn} {g : Int × Int × Int} {p : Int × Int × Bool} {ga pa : Option Addr} {gc pc : Nat} {w0 W : World} {p4 p9 p10 p11 p12 p13 z9 z10 z11 : Nat} {u9 u10 u11 : Value} (hv : valid b = true) (hne : p4 ≠ p12 ∧ p9 ≠ p12 ∧ p10 ≠ p12 ∧ p11 ≠ p12 ∧ p4 ≠ p13 ∧ p9 ≠ p13 ∧ p10 ≠ p13 ∧ p11 ≠ p13 ∧ p12 ≠ p13) (hz12 : w0.heap.size ≤ p12 ∧ w0.heap.size ≤ p13)
    (hB : Below w0.heap.size w0 W) (hm : BnAt w0 b ga pa) (bb : Blk W p4 #[.int .i64 b.V, .int .i64 b.nd, .int .i64 b.lo, .int .i64 b.hi, .slice ga b.gs.length gc, .slice pa b.ps.length pc] 27) (B9 : Blk W p9 #[.int .i64 b.V, .int .i64 b.nd, .int .i64 b.lo, .int .i64 b.hi, u9, .slice pa b.ps.length pc] 27) (o9 : OwnG W z9 u9 (b.gs ++ [g])) (B10 : Blk W p10 #[.int .i64 b.V, .int .i64 b.nd, .int .i64 b.lo, .int .i64 b.hi, .slice ga b.gs.length gc, u10] 27) (o10 : OwnP W z10 u10 (b.ps ++ [p]))
    (B11 : Blk W p11 #[.int .i64 b.V, .int .i64 b.nd, .int .i64 b.lo, .int .i64 b.hi, u11, .slice pa b.ps.length pc] 27) (o11 : CopyV W z11 49 3 gcell q.gs u11) (hq : Near b q) (B12 : Blk W p12 #[.int .i64 b.V, .int .i64 b.nd, .int .i64 b.lo, .int .i64 b.hi, .slice ga b.gs.length gc, .slice pa b.ps.length pc] 27) (B13 : Blk W p13 #[.int .i64 b.V, .int .i64 b.nd, .int .i64 b.lo, .int .i64 b.hi, .slice ga b.gs.length gc, .slice pa b.ps.length pc] 27)
    (hexit : ∀ (tm : Array Value) W', tm[8]? = some (.bool true) → Below w0.heap.size w0 W' → Q .ret ⟨tm, []⟩ W') :
    mC5.wp Try.prog Q ⟨(u0 :: u1 :: u2 :: u3 :: .pointer (some ⟨p4, 0, none⟩) :: u5 :: u6 :: u7 :: u8 :: .pointer (some ⟨p9, 0, none⟩) :: .pointer (some ⟨p10, 0, none⟩) :: .pointer (some ⟨p11, 0, none⟩) :: .pointer (some ⟨p12, 0, none⟩) :: .pointer (some ⟨p13, 0, none⟩) :: u14 :: u15 :: u16 :: u17 :: u18 :: u19 :: u20 :: u21 :: u22 :: u23 :: u24 :: u25 :: u26 :: u27 :: u28 :: u29 :: u30 :: u31 :: u32 :: u33 :: u34 :: u35 :: u36 :: u37 :: u38 :: u39 :: u40 :: u41 :: u42 :: u43 :: u44 :: u45 :: u46 :: u47 :: u48 :: u49 :: u50 :: u51 :: u52 :: u53 :: u54 :: u55 :: u56 :: u57 :: u58 :: u59 :: u60 :: u61 :: u62 :: u63 :: u64 :: u65 :: u66 :: u67 :: u68 :: u69 :: u70 :: u71 :: u72 :: u73 :: u74 :: u75 :: u76 :: u77 :: u78 :: u79 :: u80 :: u81 :: u82 :: u83 :: u84 :: u85 :: u86 :: u87 :: u88 :: u89 :: u90 :: u91 :: u92 :: u93 :: u94 :: u95 :: u96 :: u97 :: u98 :: u99 :: u100 :: u101 :: u102 :: u103 :: u104 :: u105 :: u106 :: u107 :: u108 :: u109 :: u110 :: u111 :: u112 :: u113 :: u114 :: u115 :: u116 :: u117 :: u118 :: u119 :: u120 :: u121 :: u122 :: u123 :: u124 :: u125 :: u126 :: u127 :: u128 :: u129 :: u130 :: u131 :: u132 :: u133 :: u134 :: u135 :: u136 :: u137 :: u138 :: u139 :: u140 :: u141 :: u142 :: u143 :: u144 :: u145 :: u146 :: u147 :: u148 :: u149 :: u150 :: u151 :: u152 :: u153 :: u154 :: u155 :: u156 :: u157 :: u158 :: u159 :: u160 :: u161 :: u162 :: u163 :: u164 :: u165 :: u166 :: u167 :: u168 :: u169 :: u170 :: u171 :: u172 :: u173 :: u174 :: u175 :: u176 :: u177 :: u178 :: u179 :: u180 :: u181 :: u182 :: u183 :: u184 :: u185 :: u186 :: u187 :: u188 :: u189 :: u190 :: u191 :: u192 :: u193 :: u194 :: u195 :: u196 :: u197 :: u198 :: u199 :: u200 :: u201 :: u202 :: u203 :: u204 :: u205 :: u206 :: u207 :: u208 :: u209 :: u210 :: u211 :: u212 :: u213 :: u214 :: u215 :: u216 :: u217 :: u218 :: u219 :: u220 :: u221 :: u222 :: u223 :: u224 :: u225 :: u226 :: u227 :: u228 :: u229 :: u230 :: u231 :: u232 :: u233 :: u234 :: u235 :: u236 :: u237 :: u238 :: u239 :: u240 :: u241 :: u242 :: u243 :: u244 :: u245 :: u246 :: u247 :: u248 :: u249 :: u250 :: u251 :: u252 :: u253 :: u254 :: u255 :: u256 :: u257 :: u258 :: u259 :: u260 :: u261 :: u262 :: u263 :: u264 :: u265 :: u266 :: u267 :: u268 :: u269 :: u270 :: u271 :: u272 :: u273 :: u274 :: u275 :: u276 :: u277 :: u278 :: u279 :: u280 :: u281 :: u282 :: u283 :: u284 :: u285 :: u286 :: u287 :: u288 :: u289 :: u290 :: u291 :: u292 :: u293 :: u294 :: u295 :: u296 :: u297 :: u298 :: u299 :: u300 :: u301 :: u302 :: u303 :: u304 :: u305 :: u306 :: u307 :: u308 :: u309 :: u310 :: u311 :: u312 :: u313 :: u314 :: u315 :: u316 :: u317 :: u318 :: u319 :: u320 :: u321 :: u322 :: u323 :: u324 :: u325 :: u326 :: u327 :: u328 :: u329 :: u330 :: u331 :: u332 :: u333 :: u334 :: u335 :: u336 :: u337 :: u338 :: u339 :: u340 :: u341 :: u342 :: u343 :: u344 :: u345 :: u346 :: u347 :: u348 :: u349 :: u350 :: u351 :: u352 :: u353 :: u354 :: u355 :: u356 :: u357 :: u358 :: u359 :: u360 :: u361 :: u362 :: u363 :: u364 :: u365 :: u366 :: u367 :: u368 :: u369 :: u370 :: u371 :: u372 :: u373 :: u374 :: u375 :: u376 :: u377 :: u378 :: u379 :: u380 :: u381 :: u382 :: u383 :: u384 :: u385 :: u386 :: u387 :: u388 :: u389 :: u390 :: u391 :: u392 :: u393 :: u394 :: u395 :: u396 :: u397 :: u398 :: u399 :: u400 :: u401 :: u402 :: u403 :: u404 :: u405 :: u406 :: u407 :: u408 :: u409 :: u410 :: u411 :: u412 :: u413 :: u414 :: u415 :: u416 :: u417 :: u418 :: u419 :: u420 :: u421 :: u422 :: u423 :: u424 :: u425 :: u426 :: u427 :: u428 :: u429 :: u430 :: u431 :: u432 :: u433 :: u434 :: u435 :: u436 :: u437 :: u438 :: u439 :: u440 :: u441 :: u442 :: u443 :: u444 :: u445 :: u446 :: u447 :: u448 :: u449 :: u450 :: u451 :: u452 :: u453 :: u454 :: u455 :: u456 :: u457 :: u458 :: u459 :: u460 :: u461 :: u462 :: u463 :: u464 :: u465 :: u466 :: u467 :: u468 :: u469 :: u470 :: u471 :: u472 :: u473 :: u474 :: u475 :: u476 :: u477 :: u478 :: u479 :: u480 :: u481 :: u482 :: u483 :: u484 :: u485 :: u486 :: u487 :: u488 :: u489 :: u490 :: u491 :: u492 :: u493 :: u494 :: []).toArray, []⟩ W := by
  have HE := Lib.hid hexit
  have HV := Lib.hid hv
  have HQN := Lib.hid hq
  have HM0 := Lib.hid hm
  have HSp := Lib.hid l_span
  obtain ⟨hV1, hV8⟩ := valid_V8 hv
  have hbd : (-8 ≤ b.lo ∧ b.lo ≤ 8) ∧ (-8 ≤ b.hi ∧ b.hi ≤ 8) := by
    unfold valid headOk spanB inB at hv
    simp only [Bool.and_eq_true, decide_eq_true_eq] at hv
    omega
  obtain ⟨⟨hb1, hb2⟩, hb3, hb4'⟩ := hbd
  clear hexit hv hm hq
  obtain ⟨we, hwe⟩ : ∃ we, W = we := ⟨_, rfl⟩
  rw [hwe] at bb B9 B10 B11 B12 B13 o9 o10 o11 hB ⊢
  clear hwe W
  have hl12 := B12.lt
  have hl13 := B13.lt
  have hBs := hB.size
  conv => arg 2; whnf
  refine wp_seq_hid fun K1 HK1 => ?_
  obtain ⟨w1, hw1⟩ : ∃ w1, (we.setCell ⟨p12, 4, none⟩ (.slice none 0 0)).setCell ⟨p12, 5, none⟩ (.slice none 0 0) = w1 := ⟨_, rfl⟩
  obtain ⟨w2, hw2⟩ : ∃ w2, w1.setCell ⟨p13, 4, none⟩ (.slice none 0 0) = w2 := ⟨_, rfl⟩
  have hO1 : Off [p12, p13] we.heap.size we w1 := by rw [← hw1]; exact ((Off.refl _ _ _).setCell (.inl (by simp)) _).setCell (.inl (by simp)) _
  have hO1' : Off [p12] we.heap.size we w1 := by rw [← hw1]; exact ((Off.refl _ _ _).setCell (.inl (by simp)) _).setCell (.inl (by simp)) _
  have C12 : Blk w1 p12 #[.int .i64 b.V, .int .i64 b.nd, .int .i64 b.lo, .int .i64 b.hi, .slice none 0 0, .slice none 0 0] 27 := by rw [← hw1]; exact (B12.set 4 _).set 5 _
  have C13 := hO1'.blk B13 hl13 (by simp; omega)
  have hs1 := hO1.size
  have hO2 : Off [p12, p13] we.heap.size we w2 := by rw [← hw2]; exact hO1.setCell (.inl (by simp)) _
  have hO2' : Off [p13] w1.heap.size w1 w2 := by rw [← hw2]; exact (Off.refl _ _ _).setCell (.inl (by simp)) _
  have D13 : Blk w2 p13 #[.int .i64 b.V, .int .i64 b.nd, .int .i64 b.lo, .int .i64 b.hi, .slice none 0 0, .slice pa b.ps.length pc] 27 := by rw [← hw2]; exact C13.set 4 _
  have D12 := hO2'.blk C12 C12.lt (by simp; omega)
  have f12 := B12.free
  have f12b := (B12.set 4 (.slice none 0 0)).free
  have f13 := C13.free
  have r13 := C13.cell
  have r12 := B12.cell
  have r12b := (B12.set 4 (.slice none 0 0)).cell
  have f13' : ∀ i, ((we.setCell ⟨p12, 4, none⟩ (.slice none 0 0)).setCell ⟨p12, 5, none⟩ (.slice none 0 0)).frozen? ⟨p13, i, none⟩ = false := by rw [hw1]; exact f13
  go_wp2_with fail
  (try rw [hw1])
  (try rw [hw2])
  refine HK1.out _ _ ?_
  have mvb : ∀ {x : Nat} {C : Array Value} {t : TypeId}, Blk we x C t → x ≠ p12 → x ≠ p13 → Blk w2 x C t := fun h h1 h2 => hO2.blk h (by have := h.lt; omega) (by simp; omega)
  have mvo : ∀ {z n s : Nat} {e : TypeId} {v : Value} {xs : List Value}, we.ownsRow z e s v n xs → e ≠ 27 → w2.ownsRow z e s v n xs := fun o he => own_move o (Nat.le_refl _) (fun gg hg => hO2.block gg (by have := (o.lt gg hg).2; omega) (by simp; exact ⟨fun e' => own_ne_blk o B12 he (by rw [hg, e']), fun e' => own_ne_blk o B13 he (by rw [hg, e'])⟩))
  replace bb := mvb bb (by omega) (by omega)
  replace B9 := mvb B9 (by omega) (by omega)
  replace B10 := mvb B10 (by omega) (by omega)
  replace B11 := mvb B11 (by omega) (by omega)
  replace o9 : OwnG w2 z9 u9 (b.gs ++ [g]) := mvo o9 (by decide)
  replace o10 : OwnP w2 z10 u10 (b.ps ++ [p]) := mvo o10 (by decide)
  replace o11 := o11.move (fun gg cur _ hb => mvb hb (blk_ne hb B12 (by decide)) (blk_ne hb B13 (by decide)))
  have hB2 : Below w0.heap.size w0 w2 := hB.trans (hO2.below (by omega) (by simp; omega))
  clear mvb mvo hO1 hO1' hO2 hO2' C12 C13 B12 B13 f12 f12b f13 r13 r12 r12b f13' hw1 hw2 hs1 hl12 hl13 hB hBs HK1
  refine wp_seq_hid fun K2 HK2 => ?_
  have rb := bb.cell
  go_wp2_with (first
    | (go_at_call 34; refine (HSp.out _ _ _).mono ?_; rintro e w4 ⟨rfl, hb4⟩; refine at_stop ?_))
  unfold Stop
  replace bb := bb.below hb4 bb.lt
  replace B9 := B9.below hb4 B9.lt
  replace B10 := B10.below hb4 B10.lt
  replace B11 := B11.below hb4 B11.lt
  replace D12 := D12.below hb4 D12.lt
  replace D13 := D13.below hb4 D13.lt
  replace o9 : OwnG w4 z9 u9 (b.gs ++ [g]) := ownsRow_below o9 hb4
  replace o10 : OwnP w4 z10 u10 (b.ps ++ [p]) := ownsRow_below o10 hb4
  replace o11 := o11.move (fun _ _ _ hb => hb.below hb4 hb.lt)
  have hB4 := hB2.trans (hb4.mono hB2.size)
  clear hB2 hb4 rb
  have f13 := D13.free
  have r13 := D13.cell
  have f13b := (D13.set 2 (.int .i64 (b.V - b.hi))).free
  obtain ⟨w5, hw5⟩ : ∃ w5, (w4.setCell ⟨p13, 2, none⟩ (.int .i64 (b.V - b.hi))).setCell ⟨p13, 3, none⟩ (.int .i64 (b.V - b.lo)) = w5 := ⟨_, rfl⟩
  have hO5 : Off [p13] w4.heap.size w4 w5 := by rw [← hw5]; exact ((Off.refl _ _ _).setCell (.inl (by simp)) _).setCell (.inl (by simp)) _
  have E13 : Blk w5 p13 #[.int .i64 b.V, .int .i64 b.nd, .int .i64 (b.V - b.hi), .int .i64 (b.V - b.lo), .slice none 0 0, .slice pa b.ps.length pc] 27 := by rw [← hw5]; exact (D13.set 2 _).set 3 _
  have E12 := hO5.blk D12 D12.lt (by simp; omega)
  go_wp2_with fail
  (try rw [hw5])
  refine HK2.out _ _ ?_
  have mvb : ∀ {x : Nat} {C : Array Value} {t : TypeId}, Blk w4 x C t → x ≠ p13 → Blk w5 x C t := fun h h1 => hO5.blk h h.lt (by simp; omega)
  have mvo : ∀ {z n s : Nat} {e : TypeId} {v : Value} {xs : List Value}, w4.ownsRow z e s v n xs → e ≠ 27 → w5.ownsRow z e s v n xs := fun o he => own_move o (Nat.le_refl _) (fun gg hg => hO5.block gg ((o.lt gg hg).2) (by simp; exact fun e' => own_ne_blk o D13 he (by rw [hg, e'])))
  replace bb := mvb bb (by omega)
  replace B9 := mvb B9 (by omega)
  replace B10 := mvb B10 (by omega)
  replace B11 := mvb B11 (by omega)
  replace o9 : OwnG w5 z9 u9 (b.gs ++ [g]) := mvo o9 (by decide)
  replace o10 : OwnP w5 z10 u10 (b.ps ++ [p]) := mvo o10 (by decide)
  replace o11 := o11.move (fun gg cur _ hb => mvb hb (blk_ne hb D13 (by decide)))
  have hB5 : Below w0.heap.size w0 w5 := hB4.trans (hO5.below (by have := hB4.size; omega) (by simp; omega))
  clear mvb mvo hO5 D12 D13 f13 f13b r13 hw5 hB4 HK2
  refine wp_seq_hid fun K3 HK3 => ?_
  go_wp2_with fail
  refine HK3.out _ _ ?_
  exact more_groups Q HV.out hne hz12 hB5 HM0.out bb B9 o9 B10 o10 B11 o11 HQN.out E12 E13 HE.out
noncomputable def mC4 : Code := mFrom 4 moreCode
theorem min2_runX (a b : Int) (W : World) : (Builtin.min2 (.int .i64 a) (.int .i64 b)).run Try.prog W = .ok (.int .i64 (min a b)) W := by
  by_cases h : b < a
  · have : min a b = b := by omega
    simp [Builtin.min2, go_sem, h, this]
  · have : min a b = a := by omega
    simp [Builtin.min2, go_sem, h, this]
theorem wpList_min2X {ops : Array Oper} {Q : Exit → Act → World → Prop} {o : Oper} {rest : List Oper} {a : Act} {w : World} (x y : Operand) (hgd : o.guard = none) (ho : o.op = .call { callee := .builtin .min, args := [x, y].toArray, argTypes := #[3, 3] }) {p q : Int} (hx : a.eval x = .int .i64 p) (hy : a.eval y = .int .i64 q)
    (hK : wpList Try.prog ops Q rest (a.put o.dst (.int .i64 (min p q))) w) : wpList Try.prog ops Q (o :: rest) a w := by
  refine wpList_plain hgd fun K' hK' => ?_
  have := hK' _ _ hK
  unfold Oper.wp
  generalize a.eval = ev at *
  simp [execOp, ho, hx, hy, Builtin.min_, go_sem, min2_runX, Result.andThen]
  exact this
theorem near_z {b : Bn} (hv : valid b = true) {i : Nat} (hi : i < b.gs.length) : Near b (zG b i) := ⟨rfl, rfl, rfl, rfl, rfl, by simp [zG], fun _ => zG_sub hv hi⟩
set_option maxHeartbeats 40000000 in
set_option maxRecDepth 100000 in
theorem more_pre {u0 u1 u2 u5 u6 u7 u8 u14 u15 u16 u17 u18 u19 u20 u21 u22 u23 u24 u25 u26 u27 u28 u29 u30 u31 u32 u33 u34 u35 u36 u37 u38 u39 u40 u41 u42 u43 u44 u45 u46 u47 u48 u49 u50 u51 u52 u53 u54 u55 u56 u57 u58 u59 u60 u61 u62 u63 u64 u65 u66 u67 u68 u69 u70 u71 u72 u73 u74 u75 u76 u77 u78 u79 u80 u81 u82 u83 u84 u85 u86 u87 u88 u89 u90 u91 u92 u93 u94 u95 u96 u97 u98 u99 u100 u101 u102 u103 u104 u105 u106 u107 u108 u109 u110 u111 u112 u113 u114 u115 u116 u117 u118 u119 u120 u121 u122 u123 u124 u125 u126 u127 u128 u129 u130 u131 u132 u133 u134 u135 u136 u137 u138 u139 u140 u141 u142 u143 u144 u145 u146 u147 u148 u149 u150 u151 u152 u153 u154 u155 u156 u157 u158 u159 u160 u161 u162 u163 u164 u165 u166 u167 u168 u169 u170 u171 u172 u173 u174 u175 u176 u177 u178 u179 u180 u181 u182 u183 u184 u185 u186 u187 u188 u189 u190 u191 u192 u193 u194 u195 u196 u197 u198 u199 u200 u201 u202 u203 u204 u205 u206 u207 u208 u209 u210 u211 u212 u213 u214 u215 u216 u217 u218 u219 u220 u221 u222 u223 u224 u225 u226 u227 u228 u229 u230 u231 u232 u233 u234 u235 u236 u237 u238 u239 u240 u241 u242 u243 u244 u245 u246 u247 u248 u249 u250 u251 u252 u253 u254 u255 u256 u257 u258 u259 u260 u261 u262 u263 u264 u265 u266 u267 u268 u269 u270 u271 u272 u273 u274 u275 u276 u277 u278 u279 u280 u281 u282 u283 u284 u285 u286 u287 u288 u289 u290 u291 u292 u293 u294 u295 u296 u297 u298 u299 u300 u301 u302 u303 u304 u305 u306 u307 u308 u309 u310 u311 u312 u313 u314 u315 u316 u317 u318 u319 u320 u321 u322 u323 u324 u325 u326 u327 u328 u329 u330 u331 u332 u333 u334 u335 u336 u337 u338 u339 u340 u341 u342 u343 u344 u345 u346 u347 u348 u349 u350 u351 u352 u353 u354 u355 u356 u357 u358 u359 u360 u361 u362 u363 u364 u365 u366 u367 u368 u369 u370 u371 u372 u373 u374 u375 u376 u377 u378 u379 u380 u381 u382 u383 u384 u385 u386 u387 u388 u389 u390 u391 u392 u393 u394 u395 u396 u397 u398 u399 u400 u401 u402 u403 u404 u405 u406 u407 u408 u409 u410 u411 u412 u413 u414 u415 u416 u417 u418 u419 u420 u421 u422 u423 u424 u425 u426 u427 u428 u429 u430 u431 u432 u433 u434 u435 u436 u437 u438 u439 u440 u441 u442 u443 u444 u445 u446 u447 u448 u449 u450 u451 u452 u453 u454 u455 u456 u457 u458 u459 u460 u461 u462 u463 u464 u465 u466 u467 u468 u469 u470 u471 u472 u473 u474 u475 u476 u477 u478 u479 u480 u481 u482 u483 u484 u485 u486 u487 u488 u489 u490 u491 u492 u493 u494 : Value} (Q : Exit → Act → World → Prop) {b : Bn} {g : Int × Int × Int} {p : Int × Int × Bool} {ga pa : Option Addr} {gc pc : Nat} {w0 W : World} {n1 p4 p9 p10 p11 p12 p13 z9 z10 z11 : Nat} {u9 u10 u11 : Value} (hn1 : n1 < 256) (hv : valid b = true) (hne : p4 ≠ p12 ∧ p9 ≠ p12 ∧ p10 ≠ p12 ∧ p11 ≠ p12 ∧ p4 ≠ p13 ∧ p9 ≠ p13 ∧ p10 ≠ p13 ∧ p11 ≠ p13 ∧ p12 ≠ p13) (hz12 : w0.heap.size ≤ p12 ∧ w0.heap.size ≤ p13) (hz11 : w0.heap.size ≤ z11)
    (hov : ∀ gg, u11.ownBlock = some gg → u9.ownBlock ≠ some gg)
    (hB : Below w0.heap.size w0 W) (hm : BnAt w0 b ga pa) (bb : Blk W p4 #[.int .i64 b.V, .int .i64 b.nd, .int .i64 b.lo, .int .i64 b.hi, .slice ga b.gs.length gc, .slice pa b.ps.length pc] 27) (B9 : Blk W p9 #[.int .i64 b.V, .int .i64 b.nd, .int .i64 b.lo, .int .i64 b.hi, u9, .slice pa b.ps.length pc] 27) (o9 : OwnG W z9 u9 (b.gs ++ [g])) (B10 : Blk W p10 #[.int .i64 b.V, .int .i64 b.nd, .int .i64 b.lo, .int .i64 b.hi, .slice ga b.gs.length gc, u10] 27) (o10 : OwnP W z10 u10 (b.ps ++ [p]))
    (B11 : Blk W p11 #[.int .i64 b.V, .int .i64 b.nd, .int .i64 b.lo, .int .i64 b.hi, u11, .slice pa b.ps.length pc] 27) (o11 : OwnG W z11 u11 b.gs) (B12 : Blk W p12 #[.int .i64 b.V, .int .i64 b.nd, .int .i64 b.lo, .int .i64 b.hi, .slice ga b.gs.length gc, .slice pa b.ps.length pc] 27) (B13 : Blk W p13 #[.int .i64 b.V, .int .i64 b.nd, .int .i64 b.lo, .int .i64 b.hi, .slice ga b.gs.length gc, .slice pa b.ps.length pc] 27)
    (hexit : ∀ (tm : Array Value) W', tm[8]? = some (.bool true) → Below w0.heap.size w0 W' → Q .ret ⟨tm, []⟩ W') :
    mC4.wp Try.prog Q ⟨(u0 :: u1 :: u2 :: .int .u8 (n1 : Int) :: .pointer (some ⟨p4, 0, none⟩) :: u5 :: u6 :: u7 :: u8 :: .pointer (some ⟨p9, 0, none⟩) :: .pointer (some ⟨p10, 0, none⟩) :: .pointer (some ⟨p11, 0, none⟩) :: .pointer (some ⟨p12, 0, none⟩) :: .pointer (some ⟨p13, 0, none⟩) :: u14 :: u15 :: u16 :: u17 :: u18 :: u19 :: u20 :: u21 :: u22 :: u23 :: u24 :: u25 :: u26 :: u27 :: u28 :: u29 :: u30 :: u31 :: u32 :: u33 :: u34 :: u35 :: u36 :: u37 :: u38 :: u39 :: u40 :: u41 :: u42 :: u43 :: u44 :: u45 :: u46 :: u47 :: u48 :: u49 :: u50 :: u51 :: u52 :: u53 :: u54 :: u55 :: u56 :: u57 :: u58 :: u59 :: u60 :: u61 :: u62 :: u63 :: u64 :: u65 :: u66 :: u67 :: u68 :: u69 :: u70 :: u71 :: u72 :: u73 :: u74 :: u75 :: u76 :: u77 :: u78 :: u79 :: u80 :: u81 :: u82 :: u83 :: u84 :: u85 :: u86 :: u87 :: u88 :: u89 :: u90 :: u91 :: u92 :: u93 :: u94 :: u95 :: u96 :: u97 :: u98 :: u99 :: u100 :: u101 :: u102 :: u103 :: u104 :: u105 :: u106 :: u107 :: u108 :: u109 :: u110 :: u111 :: u112 :: u113 :: u114 :: u115 :: u116 :: u117 :: u118 :: u119 :: u120 :: u121 :: u122 :: u123 :: u124 :: u125 :: u126 :: u127 :: u128 :: u129 :: u130 :: u131 :: u132 :: u133 :: u134 :: u135 :: u136 :: u137 :: u138 :: u139 :: u140 :: u141 :: u142 :: u143 :: u144 :: u145 :: u146 :: u147 :: u148 :: u149 :: u150 :: u151 :: u152 :: u153 :: u154 :: u155 :: u156 :: u157 :: u158 :: u159 :: u160 :: u161 :: u162 :: u163 :: u164 :: u165 :: u166 :: u167 :: u168 :: u169 :: u170 :: u171 :: u172 :: u173 :: u174 :: u175 :: u176 :: u177 :: u178 :: u179 :: u180 :: u181 :: u182 :: u183 :: u184 :: u185 :: u186 :: u187 :: u188 :: u189 :: u190 :: u191 :: u192 :: u193 :: u194 :: u195 :: u196 :: u197 :: u198 :: u199 :: u200 :: u201 :: u202 :: u203 :: u204 :: u205 :: u206 :: u207 :: u208 :: u209 :: u210 :: u211 :: u212 :: u213 :: u214 :: u215 :: u216 :: u217 :: u218 :: u219 :: u220 :: u221 :: u222 :: u223 :: u224 :: u225 :: u226 :: u227 :: u228 :: u229 :: u230 :: u231 :: u232 :: u233 :: u234 :: u235 :: u236 :: u237 :: u238 :: u239 :: u240 :: u241 :: u242 :: u243 :: u244 :: u245 :: u246 :: u247 :: u248 :: u249 :: u250 :: u251 :: u252 :: u253 :: u254 :: u255 :: u256 :: u257 :: u258 :: u259 :: u260 :: u261 :: u262 :: u263 :: u264 :: u265 :: u266 :: u267 :: u268 :: u269 :: u270 :: u271 :: u272 :: u273 :: u274 :: u275 :: u276 :: u277 :: u278 :: u279 :: u280 :: u281 :: u282 :: u283 :: u284 :: u285 :: u286 :: u287 :: u288 :: u289 :: u290 :: u291 :: u292 :: u293 :: u294 :: u295 :: u296 :: u297 :: u298 :: u299 :: u300 :: u301 :: u302 :: u303 :: u304 :: u305 :: u306 :: u307 :: u308 :: u309 :: u310 :: u311 :: u312 :: u313 :: u314 :: u315 :: u316 :: u317 :: u318 :: u319 :: u320 :: u321 :: u322 :: u323 :: u324 :: u325 :: u326 :: u327 :: u328 :: u329 :: u330 :: u331 :: u332 :: u333 :: u334 :: u335 :: u336 :: u337 :: u338 :: u339 :: u340 :: u341 :: u342 :: u343 :: u344 :: u345 :: u346 :: u347 :: u348 :: u349 :: u350 :: u351 :: u352 :: u353 :: u354 :: u355 :: u356 :: u357 :: u358 :: u359 :: u360 :: u361 :: u362 :: u363 :: u364 :: u365 :: u366 :: u367 :: u368 :: u369 :: u370 :: u371 :: u372 :: u373 :: u374 :: u375 :: u376 :: u377 :: u378 :: u379 :: u380 :: u381 :: u382 :: u383 :: u384 :: u385 :: u386 :: u387 :: u388 :: u389 :: u390 :: u391 :: u392 :: u393 :: u394 :: u395 :: u396 :: u397 :: u398 :: u399 :: u400 :: u401 :: u402 :: u403 :: u404 :: u405 :: u406 :: u407 :: u408 :: u409 :: u410 :: u411 :: u412 :: u413 :: u414 :: u415 :: u416 :: u417 :: u418 :: u419 :: u420 :: u421 :: u422 :: u423 :: u424 :: u425 :: u426 :: u427 :: u428 :: u429 :: u430 :: u431 :: u432 :: u433 :: u434 :: u435 :: u436 :: u437 :: u438 :: u439 :: u440 :: u441 :: u442 :: u443 :: u444 :: u445 :: u446 :: u447 :: u448 :: u449 :: u450 :: u451 :: u452 :: u453 :: u454 :: u455 :: u456 :: u457 :: u458 :: u459 :: u460 :: u461 :: u462 :: u463 :: u464 :: u465 :: u466 :: u467 :: u468 :: u469 :: u470 :: u471 :: u472 :: u473 :: u474 :: u475 :: u476 :: u477 :: u478 :: u479 :: u480 :: u481 :: u482 :: u483 :: u484 :: u485 :: u486 :: u487 :: u488 :: u489 :: u490 :: u491 :: u492 :: u493 :: u494 :: []).toArray, []⟩ W := by
  have HE := Lib.hid hexit
  have HV := Lib.hid hv
  have HM0 := Lib.hid hm
  have hl4 : (b.gs.length : Int) ≤ 4 := by
    unfold valid headOk at hv
    simp only [Bool.and_eq_true, decide_eq_true_eq] at hv
    have := hv.1.1.1.2
    omega
  clear hexit hm
  conv => arg 2; whnf
  refine wp_seq_hid fun K1 HK1 => ?_
  have r11 := B11.cell
  by_cases hpos : 0 < b.gs.length
  · have hposi : (b.gs.length : Int) > 0 := by omega
    have hlz : ¬ (b.gs.length : Int) = 0 := by omega
    have hlzb : ((b.gs.length : Int) == 0) = false := by rw [beq_eq_false_iff_ne]; omega
    obtain ⟨gz, cz, rfl, hgz, RZ⟩ := (CopyV.of_own o11).blk hpos
    obtain ⟨i, hi'⟩ : ∃ i, n1 % b.gs.length = i := ⟨_, rfl⟩
    have hi : i < b.gs.length := by rw [← hi']; exact Nat.mod_lt _ (by omega)
    have hr : (n1 : Int).tmod (b.gs.length : Int) = (i : Int) := by rw [← hi', Int.tmod_eq_emod_of_nonneg (by omega)]; rfl
    have hii : (i : Int) < (b.gs.length : Int) := Int.ofNat_lt.2 hi
    clear hi'
    have hzt : Near b (zG b i) := near_z hv hi
    have hgb : 0 ≤ b.gs[i].2.1 ∧ b.gs[i].2.1 ≤ 8 := by
      obtain ⟨hV1, hV8⟩ := valid_V8 hv
      unfold valid at hv
      simp only [Bool.and_eq_true] at hv
      have h2 := List.all_eq_true.1 hv.1.2 _ (List.getElem_mem hi)
      have h3 := gOk_parts hV8 h2
      unfold gOk inB spanB at h2
      simp only [Bool.and_eq_true, decide_eq_true_eq] at h2
      omega
    have o9z : u9.ownBlock ≠ some gz := hov gz rfl
    have hmove := fun (x : Nat) (C : Array Value) (t : TypeId) (h : Blk W x C t) (e : t ≠ 49) => (RZ.elim fun _ hh => blk_ne h hh.1 e : x ≠ gz)
    have n4 := hmove _ _ _ bb (by decide)
    have n9 := hmove _ _ _ B9 (by decide)
    have n10 := hmove _ _ _ B10 (by decide)
    have n11 := hmove _ _ _ B11 (by decide)
    have n12 := hmove _ _ _ B12 (by decide)
    have n13 := hmove _ _ _ B13 (by decide)
    have n10' : u10.ownBlock ≠ some gz := RZ.elim fun _ hh => own_ne_blk o10 hh.1 (by decide)
    clear hmove hv o11 hov
    have hgl := RZ.lt
    obtain ⟨h1, h2, h3, hje⟩ : ∃ (h1 h2 h3 : Int), b.gs[i] = (h1, h2, h3) := ⟨_, _, _, rfl⟩
    have hset : RB (W.setCell ⟨gz, i * 3 + 1, none⟩ (.int .i64 (min h3 (h2 + 1)))) gz 49 3 gcell (zG b i).gs := by
      have hg : b.gs.getD i (0, 0, 0) = b.gs[i] := by rw [List.getD_eq_getElem?_getD, List.getElem?_eq_getElem hi]; rfl
      unfold zG
      rw [hg]
      exact RB.set (n := 3) (f := gcell) (fun _ => rfl) RZ hi (j := 1) (x := narG b.gs[i]) (v := .int .i64 (min h3 (h2 + 1))) (q := i * 3 + 1) (by omega) (by rw [hje]; rfl) (by omega)
    obtain ⟨gb, go, e, c1, c2, c3⟩ := gs_rows (RB.rows (n := 3) (f := gcell) (fun _ => rfl) RZ) i hi
    cases e
    rw [hje] at c1 c2 c3 hgb
    simp only [Nat.zero_add] at c1 c2 c3
    simp only at hgb
    obtain ⟨hgb1, hgb2⟩ := hgb
    have c3' : W.cell? ⟨gz, i * 3 + 1 + 1, none⟩ = some (.int .i64 h3) := c3
    have fz := RZ.free (i * 3 + 1)
    go_upto_region 6 with fail
    refine Ord.wp_regionN [(0, 0), (1, 0), (2, 0), (3, 0), (4, 0), (5, 0), (6, 0), (7, 0), (8, 0), (9, 0), (10, 0)] (fun _ => True) (by kernel_rfl) (by kernel_rfl) trivial ?_
    go_upto_region 7 with (first
      | (with_reducible refine Ord.at_nm ?_)
      | ((with_reducible refine Ord.at_calm ?_); refine Ord.calm_skip rfl ?_ (fun K hK => ?_); (focus (simp [Region.wanted, yielded]; done))) | with_reducible refine Ord.walk_calm rfl rfl (fun K hK => ?_) | ((with_reducible refine Ord.at_wild ?_); refine Ord.wild_fieldAddr rfl rfl (fun W => by simp [go_sem]; rfl) (fun K hK => ?_)) | ((with_reducible refine Ord.at_wild ?_); refine Ord.wild_move rfl rfl (fun K hK => ?_)) | ((with_reducible refine Ord.at_wild ?_); refine Ord.wild_nilCheck rfl rfl (fun K hK => ?_)) | with_reducible refine Ord.walk_eff rfl (by first | (simp; done) | assumption | (go_simp; done) | (repeat (first | assumption | exact Below.refl _ _ | refine Below.drew ?_ | refine Below.alloc ?_ (by first | omega | (simp; done) | (simp; omega)) _ | refine Below.setCell ?_ (by first | omega | (simp; done) | (simp; omega)) _ | refine Below.trans ?_ (Below.mono (by assumption) (by first | omega | (simp; done) | (simp; omega)))))) (fun K hK => ?_) | with_reducible refine Ord.at_fork ?_ ?_ | with_reducible refine Ord.walk_nil ?_ | (with_reducible refine Ord.next_of (by first | (simp; done) | (go_simp; done) | (repeat (first | assumption | exact Below.refl _ _ | refine Below.drew ?_ | refine Below.alloc ?_ (by first | omega | (simp; done) | (simp; omega)) _ | refine Below.setCell ?_ (by first | omega | (simp; done) | (simp; omega)) _ | refine Below.trans ?_ (Below.mono (by assumption) (by first | omega | (simp; done) | (simp; omega)))))) (fun _ => ?_)))
    refine Ord.wp_regionN [(0, 0), (1, 0), (2, 0), (3, 0), (4, 0), (5, 0), (6, 0), (7, 0), (8, 0), (9, 0), (10, 0), (11, 1), (12, 1), (13, 2)] (fun _ => True) (by kernel_rfl) (by kernel_rfl) trivial ?_
    go_wp2_with (first
      | (refine wpList_min2X (.tmp 104) (.tmp 109) rfl rfl rfl rfl ?_)
      | (with_reducible refine Ord.at_nm ?_)
      | ((with_reducible refine Ord.at_calm ?_); refine Ord.calm_skip rfl ?_ (fun K hK => ?_); (focus (simp [Region.wanted, yielded]; done))) | with_reducible refine Ord.walk_calm rfl rfl (fun K hK => ?_) | ((with_reducible refine Ord.at_wild ?_); refine Ord.wild_fieldAddr rfl rfl (fun W => by simp [go_sem]; rfl) (fun K hK => ?_)) | ((with_reducible refine Ord.at_wild ?_); refine Ord.wild_move rfl rfl (fun K hK => ?_)) | ((with_reducible refine Ord.at_wild ?_); refine Ord.wild_nilCheck rfl rfl (fun K hK => ?_)) | with_reducible refine Ord.walk_eff rfl (by first | (simp; done) | assumption | (go_simp; done) | (repeat (first | assumption | exact Below.refl _ _ | refine Below.drew ?_ | refine Below.alloc ?_ (by first | omega | (simp; done) | (simp; omega)) _ | refine Below.setCell ?_ (by first | omega | (simp; done) | (simp; omega)) _ | refine Below.trans ?_ (Below.mono (by assumption) (by first | omega | (simp; done) | (simp; omega)))))) (fun K hK => ?_) | with_reducible refine Ord.at_fork ?_ ?_ | with_reducible refine Ord.walk_nil ?_ | (with_reducible refine Ord.next_of (by first | (simp; done) | (go_simp; done) | (repeat (first | assumption | exact Below.refl _ _ | refine Below.drew ?_ | refine Below.alloc ?_ (by first | omega | (simp; done) | (simp; omega)) _ | refine Below.setCell ?_ (by first | omega | (simp; done) | (simp; omega)) _ | refine Below.trans ?_ (Below.mono (by assumption) (by first | omega | (simp; done) | (simp; omega)))))) (fun _ => ?_)))
    refine HK1.out _ _ ?_
    obtain ⟨wy, hwy⟩ : ∃ wy, (W.setCell ⟨gz, i * 3 + 1, none⟩ (.int .i64 (min h3 (h2 + 1)))).drew.drew = wy := ⟨_, rfl⟩
    have hO : Off [gz] W.heap.size W wy := by rw [← hwy]; exact ((Off.refl _ _ _).setCell (.inl (by simp)) _).drew.drew
    have RY : RB wy gz 49 3 gcell (zG b i).gs := by rw [← hwy]; exact hset
    (try rw [hwy])
    clear hwy
    have mvb : ∀ {x : Nat} {C : Array Value} {t : TypeId}, Blk W x C t → x ≠ gz → Blk wy x C t := fun h h1 => hO.blk h h.lt (by simp; omega)
    have mvo : ∀ {z n s : Nat} {e : TypeId} {v : Value} {xs : List Value}, W.ownsRow z e s v n xs → v.ownBlock ≠ some gz → wy.ownsRow z e s v n xs := fun o he => own_move o (Nat.le_refl _) (fun gg hg => hO.block gg ((o.lt gg hg).2) (by simp; exact fun e' => he (by rw [hg, e'])))
    have hlz : (zG b i).gs.length = b.gs.length := hzt.len
    refine more_pre2 Q (q := zG b i) (z9 := z9) (z10 := z10) (z11 := z11) HV.out hne hz12 (hB.trans (hO.below hB.size (by simp; omega))) HM0.out (mvb bb n4) (mvb B9 n9) (mvo o9 o9z) (mvb B10 n10) (mvo o10 n10') (mvb B11 n11) ⟨_, cz, by rw [hlz], .inr ⟨gz, rfl, hgz, RY⟩⟩ hzt (mvb B12 n12) (mvb B13 n13) HE.out
  · have hposi : ¬ (b.gs.length : Int) > 0 := by omega
    have hnr : Near b b := ⟨rfl, rfl, rfl, rfl, rfl, rfl, fun _ _ h => h⟩
    have oc := CopyV.of_own o11
    obtain ⟨a11, c11, rfl, g11⟩ := o11.at
    go_wp2_with fail
    refine HK1.out _ _ ?_
    exact more_pre2 Q HV.out hne hz12 hB HM0.out bb B9 o9 B10 o10 B11 oc hnr B12 B13 HE.out
end Go.Proofs.Ytjbjmoghloabpaa
