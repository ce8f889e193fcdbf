/- Parts of a proof: MxJ. -/
import Derived.Test.YteeinehpneppnaaQ37
set_option linter.unusedVariables false
set_option linter.unusedSimpArgs false
namespace Go.Proofs.Yteeinehpneppnaa
open Go.RowKit Go.Proofs
attribute [local irreducible] Ord.walk
theorem Fr_fast {lo : List Oper} {so : Nat → Option Nat} {n : Nat} (h : ((List.range n).all fun j => Ord.soL lo j == so j) = true) {tm : Array Value} (hs : tm.size = n) (vals : Nat → Value) : Ord.Fr lo tm vals = (Ord.frL so vals 0 tm.toList).toArray := by
  refine Array.ext_getElem? fun k => ?_
  have e : ((Ord.frL so vals 0 tm.toList).toArray)[k]? = (tm[k]?).map fun x => match so k with | some i => vals i | none => x := by rw [List.getElem?_toArray, Ord.frL_get, Nat.zero_add, Array.getElem?_toList]; rfl
  rw [e, Ord.Fr_get]
  by_cases hk : k < tm.size
  · have := List.all_eq_true.1 h k (List.mem_range.2 (by omega))
    rw [eq_of_beq this]
    rfl
  · rw [Array.getElem?_eq_none (by omega)]
    rfl
def so26 (j : Nat) : Option Nat := bif Nat.blt j 210 then (bif Nat.blt j 23 then none else bif Nat.blt j 27 then some (j - 7) else none) else bif Nat.blt j 226 then some (j - 210) else none
theorem so26_ok : ((List.range 545).all fun j => Ord.soL m26 j == so26 j) = true := by kernel_rfl
/-- What is known of a way that is like m, but told better. -/
structure Better (m q : Mb) : Prop where
  sub : validM q = true → Like m q ∧ ∀ t ∈ TM q, t ∈ TM m
  len : Mlen q
  places : q.places = m.places
  seen : q.seen = m.seen
set_option maxHeartbeats 40000000 in
set_option maxRecDepth 100000 in
theorem more_mid {u0 u1 u2 u3 u4 u6 u7 u8 u9 u10 u19 u20 u21 u22 u23 u24 u25 u26 u27 u28 u29 u30 u31 u32 u33 u34 u35 u36 u37 u38 u39 u40 u41 u42 u43 u44 u45 u46 u47 u48 u49 u50 u51 u52 u53 u54 u55 u56 u57 u58 u59 u60 u61 u62 u63 u64 u65 u66 u67 u68 u69 u70 u71 u72 u73 u74 u75 u76 u77 u78 u79 u80 u81 u82 u83 u84 u85 u86 u87 u88 u89 u90 u91 u92 u93 u94 u95 u96 u97 u98 u99 u100 u101 u102 u103 u104 u105 u106 u107 u108 u109 u110 u111 u112 u113 u114 u115 u116 u117 u118 u119 u120 u121 u122 u123 u124 u125 u126 u127 u128 u129 u130 u131 u132 u133 u134 u135 u136 u137 u138 u139 u140 u141 u142 u143 u144 u145 u146 u147 u148 u149 u150 u151 u152 u153 u154 u155 u156 u157 u158 u159 u160 u161 u162 u163 u164 u165 u166 u167 u168 u169 u170 u171 u172 u173 u174 u175 u176 u177 u178 u179 u180 u181 u182 u183 u184 u185 u186 u187 u188 u189 u190 u191 u192 u193 u194 u195 u196 u197 u198 u199 u200 u201 u202 u203 u204 u205 u206 u207 u208 u209 u210 u211 u212 u213 u214 u215 u216 u217 u218 u219 u220 u221 u222 u223 u224 u225 u226 u227 u228 u229 u230 u231 u232 u233 u234 u235 u236 u237 u238 u239 u240 u241 u242 u243 u244 u245 u246 u247 u248 u249 u250 u251 u252 u253 u254 u255 u256 u257 u258 u259 u260 u261 u262 u263 u264 u265 u266 u267 u268 u269 u270 u271 u272 u273 u274 u275 u276 u277 u278 u279 u280 u281 u282 u283 u284 u285 u286 u287 u288 u289 u290 u291 u292 u293 u294 u295 u296 u297 u298 u299 u300 u301 u302 u303 u304 u305 u306 u307 u308 u309 u310 u311 u312 u313 u314 u315 u316 u317 u318 u319 u320 u321 u322 u323 u324 u325 u326 u327 u328 u329 u330 u331 u332 u333 u334 u335 u336 u337 u338 u339 u340 u341 u342 u343 u344 u345 u346 u347 u348 u349 u350 u351 u352 u353 u354 u355 u356 u357 u358 u359 u360 u361 u362 u363 u364 u365 u366 u367 u368 u369 u370 u371 u372 u373 u374 u375 u376 u377 u378 u379 u380 u381 u382 u383 u384 u385 u386 u387 u388 u389 u390 u391 u392 u393 u394 u395 u396 u397 u398 u399 u400 u401 u402 u403 u404 u405 u406 u407 u408 u409 u410 u411 u412 u413 u414 u415 u416 u417 u418 u419 u420 u421 u422 u423 u424 u425 u426 u427 u428 u429 u430 u431 u432 u433 u434 u435 u436 u437 u438 u439 u440 u441 u442 u443 u444 u445 u446 u447 u448 u449 u450 u451 u452 u453 u454 u455 u456 u457 u458 u459 u460 u461 u462 u463 u464 u465 u466 u467 u468 u469 u470 u471 u472 u473 u474 u475 u476 u477 u478 u479 u480 u481 u482 u483 u484 u485 u486 u487 u488 u489 u490 u491 u492 u493 u494 u495 u496 u497 u498 u499 u500 u501 u502 u503 u504 u505 u506 u507 u508 u509 u510 u511 u512 u513 u514 u515 u516 u517 u518 u519 u520 u521 u522 u523 u524 u525 u526 u527 u528 u529 u530 u531 u532 u533 u534 u535 u536 u537 u538 u539 u540 u541 u542 u543 u544 : Value} (Q : Exit → Act → World → Prop) {m q : Mb} {A : Ma} {s : Int × Int × Int × Int} {w0 W : World} {p5 p15 p16 p17 p18 g c gu cu gv cv gt ct gz cz zd i day sh : Nat} {vz : Value} (hv : validM m = true) (hi : i < m.herds.length) (hd : day ≤ 100) (hsh : (m.places.length : Int) - 1 = (sh : Int))
    (hB : Below w0.heap.size w0 W) (hm : MbAt w0 m A) (bb : Blk W p5 #[.slice A.pa m.places.length A.pc, .slice A.la m.legs.length A.lc, .slice A.ha m.herds.length A.hc, .slice A.sa m.seen.length A.sc] 27) (B15 : Blk W p15 (mcells (withM m s) (xMa A g c)) 27) (RG : RB W g 64 4 i4c (m.seen ++ [s]))
    (B16 : Blk W p16 #[.slice A.pa m.places.length A.pc, .slice (some ⟨gu, 0, none⟩) m.legs.length cu, .slice (some ⟨gv, 0, none⟩) m.herds.length cv, .slice A.sa m.seen.length A.sc] 27) (RU : RB W gu 39 2 spc q.legs) (RV : RB W gv 56 4 i4c q.herds) (hq : Better m q) (hql : q.legs.length = m.legs.length) (hqh : q.herds.length = m.herds.length)
    (B17 : Blk W p17 #[.slice A.pa m.places.length A.pc, .slice A.la m.legs.length A.lc, .slice (some ⟨gz, 0, none⟩) m.herds.length cz, vz] 27) (RZ : RB W gz 56 4 i4c m.herds.reverse) (own : W.ownsRow zd 64 4 vz (flipM m).seen.length ((flipM m).seen.flatMap i4c))
    (B18 : Blk W p18 #[.slice A.pa m.places.length A.pc, .slice A.la m.legs.length A.lc, .slice (some ⟨gt, 0, none⟩) m.herds.length ct, .slice none 0 0] 27) (RT : RB W gt 56 4 i4c m.herds) (hgt : w0.heap.size ≤ gt)
    (hexit : ∀ (tm : Array Value) W', tm[10]? = some (.bool true) → Below w0.heap.size w0 W' → Q .ret ⟨tm, []⟩ W')
    (K : Act → World → Prop) (hK : ∀ b v, mC13.wp Try.prog Q b v → K b v) :
    (Code.region 26 m26.toArray true).wp Try.prog (Exit.then K Q) ⟨(u0 :: u1 :: u2 :: u3 :: u4 :: .pointer (some ⟨p5, 0, none⟩) :: u6 :: u7 :: u8 :: u9 :: u10 :: .int .i64 (m.herds.length : Int) :: .int .i64 (i : Int) :: .int .i64 (day : Int) :: .int .i64 (sh : Int) :: .pointer (some ⟨p15, 0, none⟩) :: .pointer (some ⟨p16, 0, none⟩) :: .pointer (some ⟨p17, 0, none⟩) :: .pointer (some ⟨p18, 0, none⟩) :: u19 :: u20 :: u21 :: u22 :: u23 :: u24 :: u25 :: u26 :: u27 :: u28 :: u29 :: u30 :: u31 :: u32 :: u33 :: u34 :: u35 :: u36 :: u37 :: u38 :: u39 :: u40 :: u41 :: u42 :: u43 :: u44 :: u45 :: u46 :: u47 :: u48 :: u49 :: u50 :: u51 :: u52 :: u53 :: u54 :: u55 :: u56 :: u57 :: u58 :: u59 :: u60 :: u61 :: u62 :: u63 :: u64 :: u65 :: u66 :: u67 :: u68 :: u69 :: u70 :: u71 :: u72 :: u73 :: u74 :: u75 :: u76 :: u77 :: u78 :: u79 :: u80 :: u81 :: u82 :: u83 :: u84 :: u85 :: u86 :: u87 :: u88 :: u89 :: u90 :: u91 :: u92 :: u93 :: u94 :: u95 :: u96 :: u97 :: u98 :: u99 :: u100 :: u101 :: u102 :: u103 :: u104 :: u105 :: u106 :: u107 :: u108 :: u109 :: u110 :: u111 :: u112 :: u113 :: u114 :: u115 :: u116 :: u117 :: u118 :: u119 :: u120 :: u121 :: u122 :: u123 :: u124 :: u125 :: u126 :: u127 :: u128 :: u129 :: u130 :: u131 :: u132 :: u133 :: u134 :: u135 :: u136 :: u137 :: u138 :: u139 :: u140 :: u141 :: u142 :: u143 :: u144 :: u145 :: u146 :: u147 :: u148 :: u149 :: u150 :: u151 :: u152 :: u153 :: u154 :: u155 :: u156 :: u157 :: u158 :: u159 :: u160 :: u161 :: u162 :: u163 :: u164 :: u165 :: u166 :: u167 :: u168 :: u169 :: u170 :: u171 :: u172 :: u173 :: u174 :: u175 :: u176 :: u177 :: u178 :: u179 :: u180 :: u181 :: u182 :: u183 :: u184 :: u185 :: u186 :: u187 :: u188 :: u189 :: u190 :: u191 :: u192 :: u193 :: u194 :: u195 :: u196 :: u197 :: u198 :: u199 :: u200 :: u201 :: u202 :: u203 :: u204 :: u205 :: u206 :: u207 :: u208 :: u209 :: u210 :: u211 :: u212 :: u213 :: u214 :: u215 :: u216 :: u217 :: u218 :: u219 :: u220 :: u221 :: u222 :: u223 :: u224 :: u225 :: u226 :: u227 :: u228 :: u229 :: u230 :: u231 :: u232 :: u233 :: u234 :: u235 :: u236 :: u237 :: u238 :: u239 :: u240 :: u241 :: u242 :: u243 :: u244 :: u245 :: u246 :: u247 :: u248 :: u249 :: u250 :: u251 :: u252 :: u253 :: u254 :: u255 :: u256 :: u257 :: u258 :: u259 :: u260 :: u261 :: u262 :: u263 :: u264 :: u265 :: u266 :: u267 :: u268 :: u269 :: u270 :: u271 :: u272 :: u273 :: u274 :: u275 :: u276 :: u277 :: u278 :: u279 :: u280 :: u281 :: u282 :: u283 :: u284 :: u285 :: u286 :: u287 :: u288 :: u289 :: u290 :: u291 :: u292 :: u293 :: u294 :: u295 :: u296 :: u297 :: u298 :: u299 :: u300 :: u301 :: u302 :: u303 :: u304 :: u305 :: u306 :: u307 :: u308 :: u309 :: u310 :: u311 :: u312 :: u313 :: u314 :: u315 :: u316 :: u317 :: u318 :: u319 :: u320 :: u321 :: u322 :: u323 :: u324 :: u325 :: u326 :: u327 :: u328 :: u329 :: u330 :: u331 :: u332 :: u333 :: u334 :: u335 :: u336 :: u337 :: u338 :: u339 :: u340 :: u341 :: u342 :: u343 :: u344 :: u345 :: u346 :: u347 :: u348 :: u349 :: u350 :: u351 :: u352 :: u353 :: u354 :: u355 :: u356 :: u357 :: u358 :: u359 :: u360 :: u361 :: u362 :: u363 :: u364 :: u365 :: u366 :: u367 :: u368 :: u369 :: u370 :: u371 :: u372 :: u373 :: u374 :: u375 :: u376 :: u377 :: u378 :: u379 :: u380 :: u381 :: u382 :: u383 :: u384 :: u385 :: u386 :: u387 :: u388 :: u389 :: u390 :: u391 :: u392 :: u393 :: u394 :: u395 :: u396 :: u397 :: u398 :: u399 :: u400 :: u401 :: u402 :: u403 :: u404 :: u405 :: u406 :: u407 :: u408 :: u409 :: u410 :: u411 :: u412 :: u413 :: u414 :: u415 :: u416 :: u417 :: u418 :: u419 :: u420 :: u421 :: u422 :: u423 :: u424 :: u425 :: u426 :: u427 :: u428 :: u429 :: u430 :: u431 :: u432 :: u433 :: u434 :: u435 :: u436 :: u437 :: u438 :: u439 :: u440 :: u441 :: u442 :: u443 :: u444 :: u445 :: u446 :: u447 :: u448 :: u449 :: u450 :: u451 :: u452 :: u453 :: u454 :: u455 :: u456 :: u457 :: u458 :: u459 :: u460 :: u461 :: u462 :: u463 :: u464 :: u465 :: u466 :: u467 :: u468 :: u469 :: u470 :: u471 :: u472 :: u473 :: u474 :: u475 :: u476 :: u477 :: u478 :: u479 :: u480 :: u481 :: u482 :: u483 :: u484 :: u485 :: u486 :: u487 :: u488 :: u489 :: u490 :: u491 :: u492 :: u493 :: u494 :: u495 :: u496 :: u497 :: u498 :: u499 :: u500 :: u501 :: u502 :: u503 :: u504 :: u505 :: u506 :: u507 :: u508 :: u509 :: u510 :: u511 :: u512 :: u513 :: u514 :: u515 :: u516 :: u517 :: u518 :: u519 :: u520 :: u521 :: u522 :: u523 :: u524 :: u525 :: u526 :: u527 :: u528 :: u529 :: u530 :: u531 :: u532 :: u533 :: u534 :: u535 :: u536 :: u537 :: u538 :: u539 :: u540 :: u541 :: u542 :: u543 :: u544 :: []).toArray, []⟩ W := by
  have hlen := validM_len hv
  have hM := validM_Mlen hv
  have hgl := RT.lt
  have hW := hm.below hB
  obtain ⟨az, cz2, rfl, RSz⟩ := own_rows (f := i4c) (n := 4) (fun _ => rfl) own
  have hX : MbAt W (withM m s) (xMa A g c) := ⟨hW.places, hW.legs, hW.herds, RB.rows (n := 4) (f := i4c) (fun _ => rfl) RG⟩
  have hY : MbAt W q ⟨A.pa, A.pc, some ⟨gu, 0, none⟩, cu, some ⟨gv, 0, none⟩, cv, A.sa, A.sc⟩ := ⟨by rw [hq.places]; exact hW.places, RB.rows (n := 2) (f := spc) (fun _ => rfl) RU, RB.rows (n := 4) (f := i4c) (fun _ => rfl) RV, by rw [hq.seen]; exact hW.seen⟩
  have hZ : MbAt W (flipM m) ⟨A.pa, A.pc, A.la, A.lc, some ⟨gz, 0, none⟩, cz, az, cz2⟩ := ⟨hW.places, hW.legs, RB.rows (n := 4) (f := i4c) (fun _ => rfl) RZ, RSz⟩
  have hT : MbAt W (bareM m) ⟨A.pa, A.pc, A.la, A.lc, some ⟨gt, 0, none⟩, ct, none, 0⟩ := ⟨hW.places, hW.legs, RB.rows (n := 4) (f := i4c) (fun _ => rfl) RT, rows_nil _⟩
  obtain ⟨lo, hi', slo, shi, e, set, su, pe, a, b, T, he, hs1, hs2, hs3, ⟨su2, pe2, TZ⟩, ha1, ha2, hb1, hb2, hbare, hlate⟩ := more_c hv hi hd
  have hshm : shedN m = sh := by unfold shedN; omega
  have hMx : Mlen (withM m s) := ⟨hM.places, hM.legs, hM.herds, by simp [withM]; omega⟩
  have hlz : (flipM m).herds.length = m.herds.length := by simp [flipM]
  have hlzs : (flipM m).seen.length = m.seen.length := by simp [flipM]
  have hMz : Mlen (flipM m) := ⟨hM.places, hM.legs, by rw [hlz]; exact hM.herds, by rw [hlzs]; exact hM.seen⟩
  have hh1 := (vparts hv).hd _ (List.getElem_mem hi)
  refine more_r26 (m := m) (A := A) (p5 := p5) rfl rfl bb hW hM ?_
  intro vals W1 hB1 o0 o1 o2 o3
  rw [Fr_fast so26_ok rfl]
  show K _ _
  refine hK _ _ ?_
  have hB01 := hB.trans (hB1.mono hB.size)
  have mv1 : mv q ⟨A.pa, A.pc, some ⟨gu, 0, none⟩, cu, some ⟨gv, 0, none⟩, cv, A.sa, A.sc⟩ = .agg #[.slice A.pa m.places.length A.pc, .slice (some ⟨gu, 0, none⟩) m.legs.length cu, .slice (some ⟨gv, 0, none⟩) m.herds.length cv, .slice A.sa m.seen.length A.sc] := by
    unfold mv mcells
    simp only [hq.places, hq.seen, hql, hqh]
  have mv2 : mv (flipM m) ⟨A.pa, A.pc, A.la, A.lc, some ⟨gz, 0, none⟩, cz, az, cz2⟩ = .agg #[.slice A.pa m.places.length A.pc, .slice A.la m.legs.length A.lc, .slice (some ⟨gz, 0, none⟩) m.herds.length cz, .slice az (flipM m).seen.length cz2] := by
    unfold mv mcells
    rw [hlz]
    rfl
  have hF := four hM (hW.below hB1) hshm T
  have hQX := q_c (q := withM m s) (Aq := xMa A g c) hMx (hX.below hB1) (fun h => ⟨with_like m s, with_sub hv h⟩) hi hd T
  have hQY := q_c (q := q) hq.len (hY.below hB1) hq.sub hi hd T
  have hFZ := four (i := m.herds.length - 1 - i) hMz (hZ.below hB1) (show shedN (flipM m) = sh from hshm) TZ
  rw [hshm] at hQX hQY
  rw [mv1] at hQY
  rw [mv2] at hFZ
  have hlt : ∀ k, k < W.heap.size → k < W1.heap.size := fun k h => by have := hB1.size; omega
  refine more_tail Q (m := m) (A := A) (w0 := w0) (z := W.heap.size) (gt := gt) (ct := ct) (a := a) (b := b) (lo := lo) (hi' := hi') (slo := slo) (shi := shi) (e := e) (set := set) (su := su) (pe := pe) (su2 := su2) (pe2 := pe2) ⟨by omega, by omega, by omega, by omega⟩ hi ⟨by omega, by omega, by omega, by omega⟩ ⟨ha1, ha2, hb1, hb2⟩ hB01 hm (bb.below hB1 bb.lt) (B15.below hB1 B15.lt) (B16.below hB1 B16.lt) (B17.below hB1 B17.lt) (B18.below hB1 B18.lt) (RT.move (fun _ h => h.below hB1 h.lt)) hgt hgl ⟨o0, o1, o2, o3⟩ he hF hQX hQY (by simp [Value.oneCell']) hFZ ?_ ?_ hexit
  · intro W' hW'
    have := m_Comes (m := bareM m) (i : Int) (shedN m : Int) W' ⟨hM.places, hM.legs, hM.herds, by simp [bareM]⟩ ((hT.below hB1).below hW')
    rw [hbare, hshm] at this
    exact this
  · intro h30 W' hW' hR
    have hg : m.herds.getD i (0, 0, 0, 0) = m.herds[i] := by rw [List.getD_eq_getElem?_getD, List.getElem?_eq_getElem hi]; rfl
    have hll : (lateM m i).herds.length = m.herds.length := by show (lateL m i 1).length = _; unfold lateL; split <;> simp
    have hWm := hm.below hW'
    have := m_Comes (m := lateM m i) (A := ⟨A.pa, A.pc, A.la, A.lc, some ⟨gt, 0, none⟩, ct, none, 0⟩) (i : Int) (shedN m : Int) W' ⟨hM.places, hM.legs, by rw [hll]; exact hM.herds, by simp [lateM]⟩ ⟨hWm.places, hWm.legs, RB.rows (n := 4) (f := i4c) (fun _ => rfl) hR, rows_nil _⟩
    rw [hlate (by rw [hg]; exact h30), hshm] at this
    have e1 : mv (lateM m i) ⟨A.pa, A.pc, A.la, A.lc, some ⟨gt, 0, none⟩, ct, none, 0⟩ = .agg #[.slice A.pa m.places.length A.pc, .slice A.la m.legs.length A.lc, .slice (some ⟨gt, 0, none⟩) m.herds.length ct, .slice none 0 0] := by
      unfold mv mcells
      rw [hll]
      rfl
    rw [e1] at this
    exact this
end Go.Proofs.Yteeinehpneppnaa
