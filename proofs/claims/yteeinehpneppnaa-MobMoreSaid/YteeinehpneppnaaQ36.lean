/- Parts of a proof: MvD, MxH. -/
import Derived.Test.YteeinehpneppnaaQ28
import Derived.Test.YteeinehpneppnaaQ35
import Derived.Test.YteeinehpneppnaaQ30
import Derived.Test.YteeinehpneppnaaQ32
import Derived.IntWalk
set_option linter.unusedVariables false
set_option linter.unusedSimpArgs false
namespace Go.Proofs.Yteeinehpneppnaa
open Go.RowKit Go.Proofs
attribute [local irreducible] Ord.walk
/-- A way that is valid has no long list. -/
theorem longB_okV {m : Mb} (hv : validM m = true) : longB m = false := by
  have := validM_len hv
  unfold longB
  simp only [decide_eq_false_iff_not]
  omega
/-- How many entries a range has had. -/
def seenLenI (w : World) (r : Nat) : Nat := match w.heap[r]? with
  | some (.mapIter _ _ seen _) => seen.size
  | _ => 0
theorem IterI.len {w : World} {r m n : Nat} {seen : List Nat} (h : IterI w r m n seen) : seenLenI w r = seen.length := by
  obtain ⟨c, _, h⟩ := h
  unfold seenLenI
  rw [h]
  simp
theorem IterI.off {w w' : World} {r m n z : Nat} {seen : List Nat} {T : List Nat} (h : IterI w r m n seen) (ho : Off T z w w') (hr : r < z) (ht : r ∉ T) : IterI w' r m n seen := by
  obtain ⟨c, hc, h⟩ := h
  exact ⟨c, hc, (ho.block r hr ht).trans h⟩
theorem MapII.off {w w' : World} {m z : Nat} {l : List (Int × Int)} {T : List Nat} (h : MapII w m l) (ho : Off T z w w') (hr : m < z) (ht : m ∉ T) : MapII w' m l := (ho.block m hr ht).trans h
theorem wpList_max2 {ops : Array Oper} {Q : Exit → Act → World → Prop} {o : Oper} {rest : List Oper} {a : Act} {w : World} (x y : Operand) (hgd : o.guard = none) (ho : o.op = .call { callee := .builtin .max, args := [x, y].toArray, argTypes := #[3, 3] }) {p q : Int} (hx : a.eval x = .int .i64 p) (hy : a.eval y = .int .i64 q)
    (hK : wpList Try.prog ops Q rest (a.put o.dst (.int .i64 (max p q))) w) : wpList Try.prog ops Q (o :: rest) a w := by
  refine wpList_plain hgd fun K' hK' => ?_
  have := hK' _ _ hK
  unfold Oper.wp
  generalize a.eval = ev at *
  simp [execOp, ho, hx, hy, Builtin.max_, go_sem, max2_run, Result.andThen]
  exact this
theorem ownsRow_offN {w w' : World} {base : Nat} {e : TypeId} {size : Nat} {v : Value} {n : Nat} {xs : List Value} {T : List Nat} (h : w.ownsRow base e size v n xs) (ho : Off T w.heap.size w w') (hT : ∀ g, v.ownBlock = some g → g ∉ T) : w'.ownsRow base e size v n xs := by
  obtain ⟨h1, h2⟩ := h
  refine ⟨h1, h2.imp id ?_⟩
  rintro ⟨g, cap, cur, rfl, hg, hh, r⟩
  exact ⟨g, cap, cur, rfl, hg, (ho.block g (Array.getElem?_eq_some_iff.1 hh).1 (hT g rfl)).trans hh, r⟩
end Go.Proofs.Yteeinehpneppnaa
set_option linter.unusedVariables false
set_option linter.unusedSimpArgs false
namespace Go.Proofs.Yteeinehpneppnaa
open Go.RowKit Go.Proofs
attribute [local irreducible] Ord.walk
theorem wp_seq_hid {P : Program} {x y : Code} {Q : Exit → Act → World → Prop} {a : Act} {w : World} (h : ∀ K : Act → World → Prop, Hid (∀ b v, y.wp P Q b v → K b v) → x.wp P (Exit.then K Q) a w) : (Code.seq x y).wp P Q a w :=
  wp_seq_k fun K hK => h K hK
noncomputable def mC24 : Code := mFrom 24 moreCode

theorem rb_ne {α : Type} {n : Nat} {f : α → List Value} {l : List α} {w : World} {b b' : Nat} {A : Array Value} {t t' : TypeId} (h : RB w b t n f l) (h' : Blk w b' A t') (hne : t ≠ t') : b ≠ b' := by
  obtain ⟨cur, h1, _⟩ := h
  rintro rfl
  have h2 : w.heap[b]? = _ := h1
  have h3 : w.heap[b]? = _ := h'
  rw [h2] at h3
  simp at h3
  exact hne h3.2
/-- Four rows that were copied. -/
structure Olds (W : World) (z : Nat) (m : Mb) (v23 v24 v25 v26 : Value) : Prop where
  o0 : W.ownsRow z 70 2 v23 m.places.length (m.places.flatMap plc)
  o1 : W.ownsRow z 39 2 v24 m.legs.length (m.legs.flatMap spc)
  o2 : W.ownsRow z 56 4 v25 m.herds.length (m.herds.flatMap i4c)
  o3 : W.ownsRow z 64 4 v26 m.seen.length (m.seen.flatMap i4c)
theorem Olds.below {W W' : World} {z : Nat} {m : Mb} {v23 v24 v25 v26 : Value} (h : Olds W z m v23 v24 v25 v26) (hb : Below W.heap.size W W') : Olds W' z m v23 v24 v25 v26 :=
  ⟨ownsRow_below h.o0 hb, ownsRow_below h.o1 hb, ownsRow_below h.o2 hb, ownsRow_below h.o3 hb⟩
theorem Olds.off {W W' : World} {z : Nat} {m : Mb} {v23 v24 v25 v26 : Value} (h : Olds W z m v23 v24 v25 v26) {g : Nat} (hg : g < z) (ho : Off [g] W.heap.size W W') : Olds W' z m v23 v24 v25 v26 :=
  ⟨ownsRow_offN h.o0 ho (fun k e => by have := (h.o0.lt k e).1; simp; omega), ownsRow_offN h.o1 ho (fun k e => by have := (h.o1.lt k e).1; simp; omega), ownsRow_offN h.o2 ho (fun k e => by have := (h.o2.lt k e).1; simp; omega), ownsRow_offN h.o3 ho (fun k e => by have := (h.o3.lt k e).1; simp; omega)⟩
theorem late_row {w : World} {gt i : Nat} {m : Mb} (hi : i < m.herds.length) {h1 h2 h3 h4 : Int} (e : m.herds[i] = (h1, h2, h3, h4)) (h30 : h3 < 30) (h : RB w gt 56 4 i4c m.herds) : RB ((w.setCell ⟨gt, i * 4 + 1, none⟩ (.int .i64 (h2 + 1))).setCell ⟨gt, i * 4 + 1 + 1, none⟩ (.int .i64 (h3 + 1))) gt 56 4 i4c (lateM m i).herds := by
  have h5 : m.herds.getD i (0, 0, 0, 0) = (h1, h2, h3, h4) := by rw [← e, List.getD_eq_getElem?_getD, List.getElem?_eq_getElem hi]; rfl
  have a := RB.set (n := 4) (f := i4c) (fun _ => rfl) h hi (j := 1) (x := (h1, h2 + 1, h3, h4)) (v := .int .i64 (h2 + 1)) (q := i * 4 + 1) (by omega) (by rw [e]; rfl) (by omega)
  have hl : i < (m.herds.set i (h1, h2 + 1, h3, h4)).length := by simpa using hi
  have b := RB.set (n := 4) (f := i4c) (fun _ => rfl) a hl (j := 2) (x := (h1, h2 + 1, h3 + 1, h4)) (v := .int .i64 (h3 + 1)) (q := i * 4 + 1 + 1) (by omega) (by simp [i4c]) (by omega)
  rw [List.set_set] at b
  have hm : (lateM m i).herds = m.herds.set i (h1, h2 + 1, h3 + 1, h4) := by show lateL m i 1 = _; unfold lateL; rw [h5, if_pos (show h3 + 1 ≤ 30 by omega)]
  rw [hm]
  exact b
set_option maxHeartbeats 40000000 in
set_option maxRecDepth 100000 in
theorem more_late_end {u0 u1 u2 u3 u4 u6 u7 u8 u9 u10 u11 u13 u15 u16 u17 u19 u20 u21 u22 u27 u28 u29 u30 u31 u32 u33 u34 u35 u36 u37 u38 u39 u40 u41 u42 u43 u44 u45 u46 u47 u48 u49 u50 u51 u52 u53 u54 u55 u56 u57 u58 u59 u60 u61 u62 u63 u64 u65 u66 u67 u68 u69 u70 u71 u72 u73 u74 u75 u76 u77 u78 u79 u80 u81 u82 u83 u84 u85 u86 u87 u88 u89 u90 u91 u92 u93 u94 u95 u96 u97 u98 u99 u100 u101 u102 u103 u104 u105 u106 u107 u108 u109 u110 u111 u112 u113 u114 u115 u116 u117 u118 u119 u120 u121 u122 u123 u124 u125 u126 u127 u128 u129 u130 u131 u132 u133 u134 u135 u136 u137 u138 u139 u140 u141 u142 u143 u144 u145 u146 u147 u148 u149 u150 u151 u152 u153 u154 u155 u156 u157 u158 u159 u160 u161 u162 u163 u164 u165 u166 u167 u168 u169 u170 u171 u172 u173 u174 u175 u176 u177 u178 u179 u180 u181 u182 u183 u184 u185 u186 u187 u188 u189 u190 u191 u192 u193 u194 u195 u196 u197 u198 u199 u200 u201 u202 u203 u204 u205 u206 u207 u208 u209 u210 u211 u212 u213 u214 u215 u216 u217 u218 u219 u220 u221 u222 u223 u224 u225 u226 u227 u228 u229 u230 u231 u232 u233 u234 u235 u236 u237 u238 u239 u240 u241 u242 u243 u244 u245 u246 u247 u248 u249 u250 u251 u252 u253 u254 u255 u256 u257 u258 u259 u260 u261 u262 u263 u264 u265 u266 u267 u268 u269 u270 u271 u272 u273 u274 u275 u276 u277 u278 u279 u280 u281 u282 u283 u284 u285 u286 u287 u288 u289 u290 u291 u292 u293 u294 u295 u296 u297 u298 u299 u300 u301 u302 u303 u304 u305 u306 u307 u308 u309 u310 u311 u312 u313 u314 u315 u316 u317 u318 u319 u320 u321 u322 u323 u324 u325 u326 u327 u328 u329 u330 u331 u332 u333 u334 u335 u336 u337 u338 u339 u340 u341 u342 u343 u344 u345 u346 u347 u348 u349 u350 u351 u352 u353 u354 u355 u356 u357 u358 u359 u360 u361 u362 u363 u364 u365 u366 u367 u368 u369 u370 u371 u372 u373 u374 u375 u376 u377 u378 u379 u380 u381 u382 u383 u384 u385 u386 u387 u388 u389 u390 u391 u392 u393 u394 u395 u396 u397 u398 u399 u400 u401 u402 u403 u404 u405 u406 u407 u408 u409 u410 u411 u412 u413 u414 u415 u416 u417 u418 u419 u420 u421 u422 u423 u424 u425 u426 u427 u428 u429 u430 u431 u432 u433 u434 u435 u436 u437 u438 u439 u440 u441 u442 u443 u444 u445 u446 u447 u448 u449 u450 u451 u452 u453 u454 u455 u456 u457 u458 u459 u460 u461 u462 u463 u464 u465 u466 u467 u468 u469 u470 u471 u472 u473 u474 u475 u476 u477 u478 u479 u480 u481 u482 u483 u484 u485 u486 u487 u488 u489 u490 u491 u492 u493 u494 u495 u496 u497 u498 u499 u500 u501 u502 u503 u504 u505 u506 u507 u508 u509 u510 u511 u512 u513 u514 u515 u516 u517 u518 u519 u520 u521 u522 u523 u524 u525 u526 u527 u528 u529 u530 u531 u532 u533 u534 u535 u536 u537 u538 u539 u540 u541 u542 u543 u544 : Value} (Q : Exit → Act → World → Prop) {m : Mb} {A : Ma} {w0 W : World} {p5 p18 gt ct z i sh : Nat} {v23 v24 v25 v26 x0 x1 x3 : Value} {a b : Int} (hl : m.places.length ≤ 40 ∧ m.legs.length ≤ 40 ∧ m.herds.length ≤ 40 ∧ m.seen.length ≤ 40) (hi : i < m.herds.length)
    (hbd : -1000 ≤ (m.herds[i]).2.1 ∧ (m.herds[i]).2.1 ≤ 1000 ∧ -1000 ≤ (m.herds[i]).2.2.1 ∧ (m.herds[i]).2.2.1 ≤ 1000) (hab : -10000 ≤ a ∧ a ≤ 10000 ∧ -10000 ≤ b ∧ b ≤ 10000)
    (hB : Below w0.heap.size w0 W) (hm : MbAt w0 m A) (bb : Blk W p5 (mcells m A) 27) (B18 : Blk W p18 #[x0, x1, .slice (some ⟨gt, 0, none⟩) m.herds.length ct, x3] 27) (RT : RB W gt 56 4 i4c m.herds) (hgt : w0.heap.size ≤ gt) (hgz : gt < z) (hold : Olds W z m v23 v24 v25 v26)
    (hT1 : ∀ W', Below W.heap.size W W' → Calls Try.prog 22 #[.agg #[x0, x1, .slice (some ⟨gt, 0, none⟩) m.herds.length ct, x3], .int .i64 (i : Int), .int .i64 (sh : Int)] W' (Gives2 (.agg #[.int .i64 a, .int .i64 b]) (.int .i64 0) W'))
    (hT2 : (m.herds[i]).2.2.1 < 30 → ∀ W', Below w0.heap.size w0 W' → RB W' gt 56 4 i4c (lateM m i).herds → Calls Try.prog 22 #[.agg #[x0, x1, .slice (some ⟨gt, 0, none⟩) m.herds.length ct, x3], .int .i64 (i : Int), .int .i64 (sh : Int)] W' (Gives2 (.agg #[.int .i64 (a + 1), .int .i64 (b + 1)]) (.int .i64 0) W'))
    (hexit : ∀ (tm : Array Value) W', tm[10]? = some (.bool true) → Below w0.heap.size w0 W' → Q .ret ⟨tm, []⟩ W') :
    mC24.wp Try.prog Q ⟨(u0 :: u1 :: u2 :: u3 :: u4 :: .pointer (some ⟨p5, 0, none⟩) :: u6 :: u7 :: u8 :: u9 :: u10 :: u11 :: .int .i64 (i : Int) :: u13 :: .int .i64 (sh : Int) :: u15 :: u16 :: u17 :: .pointer (some ⟨p18, 0, none⟩) :: u19 :: u20 :: u21 :: u22 :: v23 :: v24 :: v25 :: v26 :: u27 :: u28 :: u29 :: u30 :: u31 :: u32 :: u33 :: u34 :: u35 :: u36 :: u37 :: u38 :: u39 :: u40 :: u41 :: u42 :: u43 :: u44 :: u45 :: u46 :: u47 :: u48 :: u49 :: u50 :: u51 :: u52 :: u53 :: u54 :: u55 :: u56 :: u57 :: u58 :: u59 :: u60 :: u61 :: u62 :: u63 :: u64 :: u65 :: u66 :: u67 :: u68 :: u69 :: u70 :: u71 :: u72 :: u73 :: u74 :: u75 :: u76 :: u77 :: u78 :: u79 :: u80 :: u81 :: u82 :: u83 :: u84 :: u85 :: u86 :: u87 :: u88 :: u89 :: u90 :: u91 :: u92 :: u93 :: u94 :: u95 :: u96 :: u97 :: u98 :: u99 :: u100 :: u101 :: u102 :: u103 :: u104 :: u105 :: u106 :: u107 :: u108 :: u109 :: u110 :: u111 :: u112 :: u113 :: u114 :: u115 :: u116 :: u117 :: u118 :: u119 :: u120 :: u121 :: u122 :: u123 :: u124 :: u125 :: u126 :: u127 :: u128 :: u129 :: u130 :: u131 :: u132 :: u133 :: u134 :: u135 :: u136 :: u137 :: u138 :: u139 :: u140 :: u141 :: u142 :: u143 :: u144 :: u145 :: u146 :: u147 :: u148 :: u149 :: u150 :: u151 :: u152 :: u153 :: u154 :: u155 :: u156 :: u157 :: u158 :: u159 :: u160 :: u161 :: u162 :: u163 :: u164 :: u165 :: u166 :: u167 :: u168 :: u169 :: u170 :: u171 :: u172 :: u173 :: u174 :: u175 :: u176 :: u177 :: u178 :: u179 :: u180 :: u181 :: u182 :: u183 :: u184 :: u185 :: u186 :: u187 :: u188 :: u189 :: u190 :: u191 :: u192 :: u193 :: u194 :: u195 :: u196 :: u197 :: u198 :: u199 :: u200 :: u201 :: u202 :: u203 :: u204 :: u205 :: u206 :: u207 :: u208 :: u209 :: u210 :: u211 :: u212 :: u213 :: u214 :: u215 :: u216 :: u217 :: u218 :: u219 :: u220 :: u221 :: u222 :: u223 :: u224 :: u225 :: u226 :: u227 :: u228 :: u229 :: u230 :: u231 :: u232 :: u233 :: u234 :: u235 :: u236 :: u237 :: u238 :: u239 :: u240 :: u241 :: u242 :: u243 :: u244 :: u245 :: u246 :: u247 :: u248 :: u249 :: u250 :: u251 :: u252 :: u253 :: u254 :: u255 :: u256 :: u257 :: u258 :: u259 :: u260 :: u261 :: u262 :: u263 :: u264 :: u265 :: u266 :: u267 :: u268 :: u269 :: u270 :: u271 :: u272 :: u273 :: u274 :: u275 :: u276 :: u277 :: u278 :: u279 :: u280 :: u281 :: u282 :: u283 :: u284 :: u285 :: u286 :: u287 :: u288 :: u289 :: u290 :: u291 :: u292 :: u293 :: u294 :: u295 :: u296 :: u297 :: u298 :: u299 :: u300 :: u301 :: u302 :: u303 :: u304 :: u305 :: u306 :: u307 :: u308 :: u309 :: u310 :: u311 :: u312 :: u313 :: u314 :: u315 :: u316 :: u317 :: u318 :: u319 :: u320 :: u321 :: u322 :: u323 :: u324 :: u325 :: u326 :: u327 :: u328 :: u329 :: u330 :: u331 :: u332 :: u333 :: u334 :: u335 :: u336 :: u337 :: u338 :: u339 :: u340 :: u341 :: u342 :: u343 :: u344 :: u345 :: u346 :: u347 :: u348 :: u349 :: u350 :: u351 :: u352 :: u353 :: u354 :: u355 :: u356 :: u357 :: u358 :: u359 :: u360 :: u361 :: u362 :: u363 :: u364 :: u365 :: u366 :: u367 :: u368 :: u369 :: u370 :: u371 :: u372 :: u373 :: u374 :: u375 :: u376 :: u377 :: u378 :: u379 :: u380 :: u381 :: u382 :: u383 :: u384 :: u385 :: u386 :: u387 :: u388 :: u389 :: u390 :: u391 :: u392 :: u393 :: u394 :: u395 :: u396 :: u397 :: u398 :: u399 :: u400 :: u401 :: u402 :: u403 :: u404 :: u405 :: u406 :: u407 :: u408 :: u409 :: u410 :: u411 :: u412 :: u413 :: u414 :: u415 :: u416 :: u417 :: u418 :: u419 :: u420 :: u421 :: u422 :: u423 :: u424 :: u425 :: u426 :: u427 :: u428 :: u429 :: u430 :: u431 :: u432 :: u433 :: u434 :: u435 :: u436 :: u437 :: u438 :: u439 :: u440 :: u441 :: u442 :: u443 :: u444 :: u445 :: u446 :: u447 :: u448 :: u449 :: u450 :: u451 :: u452 :: u453 :: u454 :: u455 :: u456 :: u457 :: u458 :: u459 :: u460 :: u461 :: u462 :: u463 :: u464 :: u465 :: u466 :: u467 :: u468 :: u469 :: u470 :: u471 :: u472 :: u473 :: u474 :: u475 :: u476 :: u477 :: u478 :: u479 :: u480 :: u481 :: u482 :: u483 :: u484 :: u485 :: u486 :: u487 :: u488 :: u489 :: u490 :: u491 :: u492 :: u493 :: u494 :: u495 :: u496 :: u497 :: u498 :: u499 :: u500 :: u501 :: u502 :: u503 :: u504 :: u505 :: u506 :: u507 :: u508 :: u509 :: u510 :: u511 :: u512 :: u513 :: u514 :: u515 :: u516 :: u517 :: u518 :: u519 :: u520 :: u521 :: u522 :: u523 :: u524 :: u525 :: u526 :: u527 :: u528 :: u529 :: u530 :: u531 :: u532 :: u533 :: u534 :: u535 :: u536 :: u537 :: u538 :: u539 :: u540 :: u541 :: u542 :: u543 :: u544 :: []).toArray, []⟩ W := by
  have HE : Hid (∀ z W, Below w0.heap.size w0 W → z = W.heap.size → ∀ (tm : Array Value) W', tm[10]? = some (.bool true) → Below W.heap.size W W' → Q .ret ⟨tm, []⟩ W') := fun z W hb hz tm W' h1 h2 => hexit tm W' h1 (hb.trans (h2.mono hb.size))
  have HM : Hid (∀ W, Below w0.heap.size w0 W → MbAt W m A) := fun W h => hm.below h
  have J1 := Lib.hid hT1
  have J2 := Lib.hid hT2
  have HS := Lib.hid l_span
  clear hexit hm hT1 hT2
  obtain ⟨h1, h2, h3, h4, hje⟩ : ∃ h1 h2 h3 h4 : Int, m.herds[i] = (h1, h2, h3, h4) := ⟨_, _, _, _, rfl⟩
  have HJ := Lib.hid hje
  rw [hje] at hbd J2
  simp only at hbd J2
  clear hje
  obtain ⟨d1, d2, d3, d4⟩ := hbd
  obtain ⟨e1, e2, e3, e4⟩ := hab
  have hll : (m.herds.length : Int) ≤ 40 := by omega
  have hil : (i : Int) < (m.herds.length : Int) := Int.ofNat_lt.2 hi
  have hbbl := bb.lt
  have hB1 : Below W.heap.size W W := Below.refl _ _
  conv => arg 2; whnf
  refine wp_seq_hid fun K1 HK1 => ?_
  go_wp2_with (first
    | (refine wpList_load_blk 27 (.tmp 18) agg_mob rfl rfl rfl B18 rfl ?_)
    | (go_at_call 22; refine (J1.out _ hB1).mono ?_; rintro e w5 ⟨rfl, hb5⟩; replace bb := bb.below hb5 bb.lt; replace B18 := B18.below hb5 B18.lt; replace RT := RT.move (fun _ hb => hb.below hb5 hb.lt); replace hold := hold.below hb5; replace hB1 := hB1.trans (hb5.mono hB1.size); clear hb5; refine at_stop ?_))
  unfold Stop
  go_wp2_with (first
    | (refine wpList_store_blk 39 (.tmp 54) (.tmp 428) agg_span rfl rfl rfl rfl (Blk.new _ _ _) rfl rfl (by simp [Value.oneCell']) ?_; intro w6 h; refine at_stop ?_))
  unfold Stop
  have hold' := hold.below (h.below ((Below.refl _ _).alloc (Nat.le_refl _) _) (Nat.le_refl _))
  clear hold
  have B54 := h.blk
  replace bb := h.other (bb.alloc _) (by have := bb.lt; (try simp only [World.size_drew]); omega)
  replace B18 := h.other (B18.alloc _) (by have := B18.lt; (try simp only [World.size_drew]); omega)
  replace RT := RT.move (fun _ hb => h.other (hb.alloc _) (by have := hb.lt; (try simp only [World.size_drew]); omega))
  replace hB1 := h.below (hB1.alloc hB1.size _) hB1.size
  generalize hp54 : w5.heap.size = p54 at *
  clear h
  clear J1
  go_wp2_with fail
  refine HK1.out _ _ ?_
  refine wp_seq_hid fun K2 HK2 => ?_
  obtain ⟨_, _, e', c0, c1, c2, c3⟩ := (RB.rows (n := 4) (f := i4c) (fun _ => rfl) RT).get4 hi
  cases e'
  rw [HJ.out] at c1 c2
  simp only [Nat.zero_add] at c1 c2
  clear c0 c3
  have r18 := B18.cell
  have f1 := RT.free (i * 4 + 1)
  have f2 := RT.free (i * 4 + 1 + 1)
  have hlast : ∀ W2, Below W.heap.size W W2 ∨ True → True := fun _ _ => trivial
  clear hlast
  by_cases hlt : h3 < 30
  · skip
    go_upto_region 53 with fail
    have hw1 : IntKind.i64.wrap (h3 + 1) = h3 + 1 := IntWalk.i64_in _ (by omega)
    refine Ord.wp_regionN [(0, 0), (1, 1), (2, 0), (3, 0), (4, 0), (5, 0), (6, 0), (7, 0), (8, 0), (9, 0), (10, 0), (11, 1), (12, 0), (13, 0), (14, 2), (15, 1), (16, 1), (17, 2)] (fun _ => True) (by kernel_rfl) (by kernel_rfl) trivial ?_
    go_upto_region 54 with (first
      | ((with_reducible refine Ord.at_wild ?_); refine Ord.wild_binOp (.int .i64 (h3 + 1)) rfl (fun W => by simp [go_sem, hw1]; done) (fun K hK => ?_))
      | (with_reducible refine Ord.at_nm ?_)
      | ((with_reducible refine Ord.at_calm ?_); refine Ord.calm_skip rfl ?_ (fun K hK => ?_); (focus (simp [Region.wanted, yielded]; done))) | with_reducible refine Ord.walk_calm rfl rfl (fun K hK => ?_) | ((with_reducible refine Ord.at_wild ?_); refine Ord.wild_fieldAddr rfl rfl (fun W => by simp [go_sem]; rfl) (fun K hK => ?_)) | ((with_reducible refine Ord.at_wild ?_); refine Ord.wild_move rfl rfl (fun K hK => ?_)) | ((with_reducible refine Ord.at_wild ?_); refine Ord.wild_nilCheck rfl rfl (fun K hK => ?_)) | with_reducible refine Ord.walk_eff rfl (by first | (simp; done) | assumption | (go_simp; done) | (repeat (first | assumption | exact Below.refl _ _ | refine Below.drew ?_ | refine Below.alloc ?_ (by first | omega | (simp; done) | (simp; omega)) _ | refine Below.setCell ?_ (by first | omega | (simp; done) | (simp; omega)) _ | refine Below.trans ?_ (Below.mono (by assumption) (by first | omega | (simp; done) | (simp; omega)))))) (fun K hK => ?_) | with_reducible refine Ord.at_fork ?_ ?_ | with_reducible refine Ord.walk_nil ?_ | (with_reducible refine Ord.next_of (by first | (simp; done) | (go_simp; done) | (repeat (first | assumption | exact Below.refl _ _ | refine Below.drew ?_ | refine Below.alloc ?_ (by first | omega | (simp; done) | (simp; omega)) _ | refine Below.setCell ?_ (by first | omega | (simp; done) | (simp; omega)) _ | refine Below.trans ?_ (Below.mono (by assumption) (by first | omega | (simp; done) | (simp; omega)))))) (fun _ => ?_)))
    clear hw1
    have hgp := rb_ne RT bb (by decide)
    have hgp18 := rb_ne RT B18 (by decide)
    have hgp54 := rb_ne RT B54 (by decide)
    have hB06 := hB.trans (hB1.mono hB.size)
    obtain ⟨Wz, hWz⟩ : ∃ Wz, ((w6.setCell ⟨gt, i * 4 + 1, none⟩ (.int .i64 (h2 + 1))).setCell ⟨gt, i * 4 + 1 + 1, none⟩ (.int .i64 (h3 + 1))).drew = Wz := ⟨_, rfl⟩
    rw [hWz]
    have hOz : Off [gt] w6.heap.size w6 Wz := by rw [← hWz]; exact (((Off.refl _ _ _).setCell (.inl (by simp)) _).setCell (.inl (by simp)) _).drew
    have RTz : RB Wz gt 56 4 i4c (lateM m i).herds := by rw [← hWz]; exact (late_row hi HJ.out hlt RT).move (fun _ h => h.drew)
    clear hWz r18 f1 f2 c1 c2
    have hBz := hB06.trans (hOz.below (by have := hB06.size; omega) (by simp; omega))
    replace bb := hOz.blk bb bb.lt (by simp; omega)
    replace B18 := hOz.blk B18 B18.lt (by simp; omega)
    replace B54 := hOz.blk B54 B54.lt (by simp; omega)
    replace hold' := hold'.off hgz hOz
    have hold := hold'
    clear hold' hOz RT hB06 hB1 hB
    go_wp2_with (first
      | (refine wpList_load_blk 27 (.tmp 18) agg_mob rfl rfl rfl B18 rfl ?_)
      | (go_at_call 22; refine (J2.out hlt _ hBz RTz).mono ?_; rintro e w7 ⟨rfl, hb5⟩; replace bb := bb.below hb5 bb.lt; replace B18 := B18.below hb5 B18.lt; replace B54 := B54.below hb5 B54.lt; replace RTz := RTz.move (fun _ hb => hb.below hb5 hb.lt); replace hold := hold.below hb5; replace hBz := hBz.trans (hb5.mono hBz.size); clear hb5; refine at_stop ?_))
    unfold Stop
    go_wp2_with (first
      | (refine wpList_store_blk 39 (.tmp 57) (.tmp 461) agg_span rfl rfl rfl rfl (Blk.new _ _ _) rfl rfl (by simp [Value.oneCell']) ?_; intro w8 h; refine at_stop ?_))
    unfold Stop
    have hold' := hold.below (h.below ((Below.refl _ _).alloc (Nat.le_refl _) _) (Nat.le_refl _))
    clear hold
    have B57 := h.blk
    replace bb := h.other (bb.alloc _) (by have := bb.lt; (try simp only [World.size_drew]); omega)
    replace B54 := h.other (B54.alloc _) (by have := B54.lt; (try simp only [World.size_drew]); omega)
    replace hBz := h.below (hBz.alloc hBz.size _) hBz.size
    generalize hp57 : w7.heap.size = p57 at *
    clear h
    clear J2 B18 RTz
    have r54 := B54.cell
    have l57 := B57.lt
    go_upto_region 55 with fail
    refine Ord.wp_regionN [(0, 0), (1, 0), (2, 0), (3, 0), (4, 0), (5, 0), (6, 0), (7, 1), (8, 0), (9, 0), (10, 0), (11, 0), (12, 0), (13, 0), (14, 2), (15, 0), (16, 0)] (fun W' => Below w8.heap.size w8 W') (by kernel_rfl) (by kernel_rfl) (Below.refl _ _).drew ?_
    go_wp2_with (first
      | ((with_reducible refine Ord.at_wild ?_); refine Ord.wild_load (ad := ⟨p57, 0, none⟩) (.agg #[.int .i64 (a + 1), .int .i64 (b + 1)]) rfl rfl ?_ ?_; (focus (intro W hW; exact loadVar_blk agg_span (B57.below hW (by omega)) rfl)); intro K hK)
      | (with_reducible refine Ord.at_nm ?_)
      | (go_at_call 20; refine (HS.out _ _ _).mono ?_; rintro e w9 ⟨rfl, hb9⟩; refine at_stop ?_)
      | ((with_reducible refine Ord.at_calm ?_); refine Ord.calm_skip rfl ?_ (fun K hK => ?_); (focus (simp [Region.wanted, yielded]; done))) | with_reducible refine Ord.walk_calm rfl rfl (fun K hK => ?_) | ((with_reducible refine Ord.at_wild ?_); refine Ord.wild_fieldAddr rfl rfl (fun W => by simp [go_sem]; rfl) (fun K hK => ?_)) | ((with_reducible refine Ord.at_wild ?_); refine Ord.wild_move rfl rfl (fun K hK => ?_)) | ((with_reducible refine Ord.at_wild ?_); refine Ord.wild_nilCheck rfl rfl (fun K hK => ?_)) | with_reducible refine Ord.walk_eff rfl (by first | (simp; done) | assumption | (go_simp; done) | (repeat (first | assumption | exact Below.refl _ _ | refine Below.drew ?_ | refine Below.alloc ?_ (by first | omega | (simp; done) | (simp; omega)) _ | refine Below.setCell ?_ (by first | omega | (simp; done) | (simp; omega)) _ | refine Below.trans ?_ (Below.mono (by assumption) (by first | omega | (simp; done) | (simp; omega)))))) (fun K hK => ?_) | with_reducible refine Ord.at_fork ?_ ?_ | with_reducible refine Ord.walk_nil ?_ | (with_reducible refine Ord.next_of (by first | (simp; done) | (go_simp; done) | (repeat (first | assumption | exact Below.refl _ _ | refine Below.drew ?_ | refine Below.alloc ?_ (by first | omega | (simp; done) | (simp; omega)) _ | refine Below.setCell ?_ (by first | omega | (simp; done) | (simp; omega)) _ | refine Below.trans ?_ (Below.mono (by assumption) (by first | omega | (simp; done) | (simp; omega)))))) (fun _ => ?_)))
    unfold Stop
    have hb89 : Below w8.heap.size w8 w9 := (Below.refl _ _).drew.trans hb9
    clear hb9
    go_wp2_with (first
      | (with_reducible refine Ord.at_nm ?_)
      | ((with_reducible refine Ord.at_calm ?_); refine Ord.calm_skip rfl ?_ (fun K hK => ?_); (focus (simp [Region.wanted, yielded]; done))) | with_reducible refine Ord.walk_calm rfl rfl (fun K hK => ?_) | ((with_reducible refine Ord.at_wild ?_); refine Ord.wild_fieldAddr rfl rfl (fun W => by simp [go_sem]; rfl) (fun K hK => ?_)) | ((with_reducible refine Ord.at_wild ?_); refine Ord.wild_move rfl rfl (fun K hK => ?_)) | ((with_reducible refine Ord.at_wild ?_); refine Ord.wild_nilCheck rfl rfl (fun K hK => ?_)) | with_reducible refine Ord.walk_eff rfl (by first | (simp; done) | assumption | (go_simp; done) | (repeat (first | assumption | exact Below.refl _ _ | refine Below.drew ?_ | refine Below.alloc ?_ (by first | omega | (simp; done) | (simp; omega)) _ | refine Below.setCell ?_ (by first | omega | (simp; done) | (simp; omega)) _ | refine Below.trans ?_ (Below.mono (by assumption) (by first | omega | (simp; done) | (simp; omega)))))) (fun K hK => ?_) | with_reducible refine Ord.at_fork ?_ ?_ | with_reducible refine Ord.walk_nil ?_ | (with_reducible refine Ord.next_of (by first | (simp; done) | (go_simp; done) | (repeat (first | assumption | exact Below.refl _ _ | refine Below.drew ?_ | refine Below.alloc ?_ (by first | omega | (simp; done) | (simp; omega)) _ | refine Below.setCell ?_ (by first | omega | (simp; done) | (simp; omega)) _ | refine Below.trans ?_ (Below.mono (by assumption) (by first | omega | (simp; done) | (simp; omega)))))) (fun _ => ?_)))
    replace hBz := hBz.trans (hb89.mono hBz.size)
    replace bb := bb.below hb89 bb.lt
    have hold := hold'.below hb89
    clear hold' r54 B54 B57 hb89
    refine HK2.out _ _ ?_
    obtain ⟨a0, c0, rfl, q0⟩ := own_rows (f := plc) (n := 2) (fun _ => rfl) hold.o0
    obtain ⟨a1, c1, rfl, q1⟩ := own_rows (f := spc) (n := 2) (fun _ => rfl) hold.o1
    obtain ⟨a2, c2, rfl, q2⟩ := own_rows (f := i4c) (n := 4) (fun _ => rfl) hold.o2
    obtain ⟨a3, c3, rfl, q3⟩ := own_rows (f := i4c) (n := 4) (fun _ => rfl) hold.o3
    exact more_last Q hl bb (HM.out _ hBz) q0 q1 q2 q3 (HE.out _ _ hBz rfl)
  · skip
    go_wp2_with fail
    have hBz := hB.trans (hB1.mono hB.size)
    refine HK2.out _ _ ?_
    have hold := hold'
    obtain ⟨a0, c0, rfl, q0⟩ := own_rows (f := plc) (n := 2) (fun _ => rfl) hold.o0
    obtain ⟨a1, c1, rfl, q1⟩ := own_rows (f := spc) (n := 2) (fun _ => rfl) hold.o1
    obtain ⟨a2, c2, rfl, q2⟩ := own_rows (f := i4c) (n := 4) (fun _ => rfl) hold.o2
    obtain ⟨a3, c3, rfl, q3⟩ := own_rows (f := i4c) (n := 4) (fun _ => rfl) hold.o3
    exact more_last Q hl bb (HM.out _ hBz) q0 q1 q2 q3 (HE.out _ _ hBz rfl)
end Go.Proofs.Yteeinehpneppnaa
