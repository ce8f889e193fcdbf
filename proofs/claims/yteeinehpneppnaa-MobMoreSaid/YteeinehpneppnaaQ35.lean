/- Parts of a proof: MxK, MxF, MapI, MapIB. -/
import Derived.Test.YteeinehpneppnaaQ34
import Derived.Test.YteeinehpneppnaaQ27
import Derived.Test.YteeinehpneppnaaQ28
import Derived.Test.YteeinehpneppnaaQ32
import Derived.Test.YteeinehpneppnaaQ30
import Derived.Test.YteeinehpneppnaaQ02
import Derived.Test.YteeinehpneppnaaQ14
import Derived.Test.YteeinehpneppnaaQ10
import Derived.Maps.RangeRun
import Derived.Maps.Keyed
set_option linter.unusedVariables false
set_option linter.unusedSimpArgs false
namespace Go.Proofs.Yteeinehpneppnaa
open Go.RowKit Go.Proofs
attribute [local irreducible] Ord.walk
/-- What the program tells of one way, in letters. -/
structure Four (mq : Value) (w0 : World) (i day sh : Nat) (lo hi slo shi e : Int) (set su pe : Nat) : Prop where
  comes : ∀ W, Below w0.heap.size w0 W → Calls Try.prog 22 #[mq, .int .i64 (i : Int), .int .i64 (sh : Int)] W (Gives2 (.agg #[.int .i64 lo, .int .i64 hi]) (.int .i64 e) W)
  wher : ∀ W, Below w0.heap.size w0 W → Calls Try.prog 23 #[mq, .int .i64 (i : Int), .int .i64 (day : Int)] W (Gives2 (.int .i64 (set : Int)) (.int .i64 e) W)
  str : ∀ W, Below w0.heap.size w0 W → Calls Try.prog 24 #[mq, .int .i64 (i : Int)] W (Gives2 (.agg #[.int .i64 slo, .int .i64 shi]) (.int .i64 e) W)
  there : ∀ W, Below w0.heap.size w0 W → Calls Try.prog 15 #[mq, .int .i64 (day : Int)] W (Gives3 (.int .i64 (su : Int)) (.int .i64 (pe : Int)) (.int .i64 e) W)
theorem four {m : Mb} {A : Ma} {w0 : World} (hM : Mlen m) (hm : MbAt w0 m A) {i day sh : Nat} (hsh : shedN m = sh) {lo hi slo shi e : Int} {set su pe : Nat} (T : Tells m i day lo hi slo shi e set su pe) : Four (mv m A) w0 i day sh lo hi slo shi e set su pe := by
  subst hsh
  refine ⟨fun W hb => ?_, fun W hb => ?_, fun W hb => ?_, fun W hb => ?_⟩
  · have := m_Comes (i : Int) (shedN m : Int) W hM (hm.below hb)
    rw [T.comes] at this
    exact this
  · have := m_Where (i : Int) (day : Int) W hM (hm.below hb)
    rw [T.wher] at this
    exact this
  · have := m_Stretch (i : Int) W hM (hm.below hb)
    rw [T.str] at this
    exact this
  · have := m_There (day : Int) W hM (hm.below hb)
    rw [T.there] at this
    exact this
/-- What the law asks of a way of which more is known. -/
def QC (mq : Value) (w0 : World) (i day sh : Nat) (lo hi slo shi e : Int) (set su pe : Nat) : Prop :=
  ∃ vq, (∀ W, Below w0.heap.size w0 W → Calls Try.prog 28 #[mq] W (Gives (.bool vq) W)) ∧ (vq = true → ∃ (lo' hi' slo' shi' k : Int) (set' su' pe' : Nat), Four mq w0 i day sh lo' hi' slo' shi' k set' su' pe' ∧
    (k = 10 ∨ (k = 0 ∧ e = 0 ∧ lo ≤ lo' ∧ hi' ≤ hi ∧ bits .andNot .i64 (set' : Int) (set : Int) = 0 ∧ slo ≤ slo' ∧ shi' ≤ shi ∧ bits .andNot .i64 (su : Int) (su' : Int) = 0 ∧ bits .andNot .i64 (pe' : Int) (pe : Int) = 0)))
theorem q_c {m q : Mb} {Aq : Ma} {w0 : World} (hMq : Mlen q) (hm : MbAt w0 q Aq) (hsub : validM q = true → Like m q ∧ ∀ t ∈ TM q, t ∈ TM m) {i day : Nat} (hi : i < m.herds.length) (hd : day ≤ 100) {lo hi' slo shi e : Int} {set su pe : Nat} (T : Tells m i day lo hi' slo shi e set su pe) : QC (mv q Aq) w0 i day (shedN m) lo hi' slo shi e set su pe := by
  refine ⟨validM q, fun W hb => r_mob q Aq hMq W (hm.below hb), fun hv => ?_⟩
  obtain ⟨hl, hs⟩ := hsub hv
  obtain ⟨lo', hi2, slo', shi', k, set', su', pe', T'⟩ := tells hv (i := i) (day := day) (by rw [hl.len]; exact hi) hd
  exact ⟨lo', hi2, slo', shi', k, set', su', pe', four hMq hm (shed_pl hl.places) T', more_sub hl hs T T'⟩
/-- All that the law MobMore asks, in letters: of m, of it renumbered, of it with nothing seen. -/
theorem more_c {m : Mb} (hv : validM m = true) {i day : Nat} (hi : i < m.herds.length) (hd : day ≤ 100) : ∃ (lo hi' slo shi e : Int) (set su pe : Nat) (a b : Int), Tells m i day lo hi' slo shi e set su pe ∧ (e = 10 ∨ e = 0) ∧ set < 64 ∧ su < 16 ∧ pe < 16 ∧
    (∃ su2 pe2 : Nat, Tells (flipM m) (m.herds.length - 1 - i) day lo hi' slo shi e set su2 pe2) ∧ -10000 ≤ a ∧ a ≤ 10000 ∧ -10000 ≤ b ∧ b ≤ 10000 ∧ comesR (bareM m) i (shedN m) = ((a, b), 0) ∧ ((m.herds.getD i (0, 0, 0, 0)).2.2.1 < 30 → comesR (lateM m i) i (shedN m) = ((a + 1, b + 1), 0)) := by
  obtain ⟨lo, hi', slo, shi, e, set, su, pe, T⟩ := tells hv hi hd
  have hz := flip_valid hv
  have hlz : (flipM m).herds.length = m.herds.length := by simp [flipM]
  obtain ⟨lo2, hi2, slo2, shi2, k, set2, su2, pe2, T2⟩ := tells hz (i := m.herds.length - 1 - i) (day := day) (by rw [hlz]; omega) hd
  obtain ⟨rfl, rfl, rfl, rfl, rfl, rfl⟩ := more_flip hv hi T T2
  obtain ⟨a, b, h1, h2, h3, h4, h5, h6⟩ := more_late hv hi
  have hlt := T.lt
  refine ⟨_, _, _, _, _, _, su, pe, a, b, T, ?_, hlt.1, hlt.2.1, hlt.2.2, ⟨su2, pe2, T2⟩, h1, h2, h3, h4, h5, h6⟩
  rcases T.case with h | h
  · exact .inl h.2.1
  · exact .inr h.2.1
end Go.Proofs.Yteeinehpneppnaa
set_option linter.unusedVariables false
set_option linter.unusedSimpArgs false
namespace Go.Proofs.Yteeinehpneppnaa
open Go.RowKit Go.Proofs
attribute [local irreducible] Ord.walk
noncomputable def mFrom : Nat → Code → Code
  | 0, c => c
  | n + 1, c => mFrom n (sR c)
noncomputable def mC26 : Code := mFrom 26 moreCode
set_option maxHeartbeats 40000000 in
set_option maxRecDepth 100000 in
theorem more_last {u0 u1 u2 u3 u4 u6 u7 u8 u9 u10 u11 u12 u13 u14 u15 u16 u17 u18 u19 u20 u21 u22 u27 u28 u29 u30 u31 u32 u33 u34 u35 u36 u37 u38 u39 u40 u41 u42 u43 u44 u45 u46 u47 u48 u49 u50 u51 u52 u53 u54 u55 u56 u57 u58 u59 u60 u61 u62 u63 u64 u65 u66 u67 u68 u69 u70 u71 u72 u73 u74 u75 u76 u77 u78 u79 u80 u81 u82 u83 u84 u85 u86 u87 u88 u89 u90 u91 u92 u93 u94 u95 u96 u97 u98 u99 u100 u101 u102 u103 u104 u105 u106 u107 u108 u109 u110 u111 u112 u113 u114 u115 u116 u117 u118 u119 u120 u121 u122 u123 u124 u125 u126 u127 u128 u129 u130 u131 u132 u133 u134 u135 u136 u137 u138 u139 u140 u141 u142 u143 u144 u145 u146 u147 u148 u149 u150 u151 u152 u153 u154 u155 u156 u157 u158 u159 u160 u161 u162 u163 u164 u165 u166 u167 u168 u169 u170 u171 u172 u173 u174 u175 u176 u177 u178 u179 u180 u181 u182 u183 u184 u185 u186 u187 u188 u189 u190 u191 u192 u193 u194 u195 u196 u197 u198 u199 u200 u201 u202 u203 u204 u205 u206 u207 u208 u209 u210 u211 u212 u213 u214 u215 u216 u217 u218 u219 u220 u221 u222 u223 u224 u225 u226 u227 u228 u229 u230 u231 u232 u233 u234 u235 u236 u237 u238 u239 u240 u241 u242 u243 u244 u245 u246 u247 u248 u249 u250 u251 u252 u253 u254 u255 u256 u257 u258 u259 u260 u261 u262 u263 u264 u265 u266 u267 u268 u269 u270 u271 u272 u273 u274 u275 u276 u277 u278 u279 u280 u281 u282 u283 u284 u285 u286 u287 u288 u289 u290 u291 u292 u293 u294 u295 u296 u297 u298 u299 u300 u301 u302 u303 u304 u305 u306 u307 u308 u309 u310 u311 u312 u313 u314 u315 u316 u317 u318 u319 u320 u321 u322 u323 u324 u325 u326 u327 u328 u329 u330 u331 u332 u333 u334 u335 u336 u337 u338 u339 u340 u341 u342 u343 u344 u345 u346 u347 u348 u349 u350 u351 u352 u353 u354 u355 u356 u357 u358 u359 u360 u361 u362 u363 u364 u365 u366 u367 u368 u369 u370 u371 u372 u373 u374 u375 u376 u377 u378 u379 u380 u381 u382 u383 u384 u385 u386 u387 u388 u389 u390 u391 u392 u393 u394 u395 u396 u397 u398 u399 u400 u401 u402 u403 u404 u405 u406 u407 u408 u409 u410 u411 u412 u413 u414 u415 u416 u417 u418 u419 u420 u421 u422 u423 u424 u425 u426 u427 u428 u429 u430 u431 u432 u433 u434 u435 u436 u437 u438 u439 u440 u441 u442 u443 u444 u445 u446 u447 u448 u449 u450 u451 u452 u453 u454 u455 u456 u457 u458 u459 u460 u461 u462 u463 u464 u465 u466 u467 u468 u469 u470 u471 u472 u473 u474 u475 u476 u477 u478 u479 u480 u481 u482 u483 u484 u485 u486 u487 u488 u489 u490 u491 u492 u493 u494 u495 u496 u497 u498 u499 u500 u501 u502 u503 u504 u505 u506 u507 u508 u509 u510 u511 u512 u513 u514 u515 u516 u517 u518 u519 u520 u521 u522 u523 u524 u525 u526 u527 u528 u529 u530 u531 u532 u533 u534 u535 u536 u537 u538 u539 u540 u541 u542 u543 u544 : Value} (Q : Exit → Act → World → Prop) {m : Mb} {A : Ma} {W : World} {p5 : Nat} {a0 a1 a2 a3 : Option Addr} {c0 c1 c2 c3 : Nat} (hl : m.places.length ≤ 40 ∧ m.legs.length ≤ 40 ∧ m.herds.length ≤ 40 ∧ m.seen.length ≤ 40) (bb : Blk W p5 (mcells m A) 27) (hm : MbAt W m A)
    (h0 : RowsAt W a0 2 plc m.places) (h1 : RowsAt W a1 2 spc m.legs) (h2 : RowsAt W a2 4 i4c m.herds) (h3 : RowsAt W a3 4 i4c m.seen)
    (hexit : ∀ (tm : Array Value) W', tm[10]? = some (.bool true) → Below W.heap.size W W' → Q .ret ⟨tm, []⟩ W') :
    mC26.wp Try.prog Q ⟨(u0 :: u1 :: u2 :: u3 :: u4 :: .pointer (some ⟨p5, 0, none⟩) :: u6 :: u7 :: u8 :: u9 :: u10 :: u11 :: u12 :: u13 :: u14 :: u15 :: u16 :: u17 :: u18 :: u19 :: u20 :: u21 :: u22 :: .slice a0 m.places.length c0 :: .slice a1 m.legs.length c1 :: .slice a2 m.herds.length c2 :: .slice a3 m.seen.length c3 :: u27 :: u28 :: u29 :: u30 :: u31 :: u32 :: u33 :: u34 :: u35 :: u36 :: u37 :: u38 :: u39 :: u40 :: u41 :: u42 :: u43 :: u44 :: u45 :: u46 :: u47 :: u48 :: u49 :: u50 :: u51 :: u52 :: u53 :: u54 :: u55 :: u56 :: u57 :: u58 :: u59 :: u60 :: u61 :: u62 :: u63 :: u64 :: u65 :: u66 :: u67 :: u68 :: u69 :: u70 :: u71 :: u72 :: u73 :: u74 :: u75 :: u76 :: u77 :: u78 :: u79 :: u80 :: u81 :: u82 :: u83 :: u84 :: u85 :: u86 :: u87 :: u88 :: u89 :: u90 :: u91 :: u92 :: u93 :: u94 :: u95 :: u96 :: u97 :: u98 :: u99 :: u100 :: u101 :: u102 :: u103 :: u104 :: u105 :: u106 :: u107 :: u108 :: u109 :: u110 :: u111 :: u112 :: u113 :: u114 :: u115 :: u116 :: u117 :: u118 :: u119 :: u120 :: u121 :: u122 :: u123 :: u124 :: u125 :: u126 :: u127 :: u128 :: u129 :: u130 :: u131 :: u132 :: u133 :: u134 :: u135 :: u136 :: u137 :: u138 :: u139 :: u140 :: u141 :: u142 :: u143 :: u144 :: u145 :: u146 :: u147 :: u148 :: u149 :: u150 :: u151 :: u152 :: u153 :: u154 :: u155 :: u156 :: u157 :: u158 :: u159 :: u160 :: u161 :: u162 :: u163 :: u164 :: u165 :: u166 :: u167 :: u168 :: u169 :: u170 :: u171 :: u172 :: u173 :: u174 :: u175 :: u176 :: u177 :: u178 :: u179 :: u180 :: u181 :: u182 :: u183 :: u184 :: u185 :: u186 :: u187 :: u188 :: u189 :: u190 :: u191 :: u192 :: u193 :: u194 :: u195 :: u196 :: u197 :: u198 :: u199 :: u200 :: u201 :: u202 :: u203 :: u204 :: u205 :: u206 :: u207 :: u208 :: u209 :: u210 :: u211 :: u212 :: u213 :: u214 :: u215 :: u216 :: u217 :: u218 :: u219 :: u220 :: u221 :: u222 :: u223 :: u224 :: u225 :: u226 :: u227 :: u228 :: u229 :: u230 :: u231 :: u232 :: u233 :: u234 :: u235 :: u236 :: u237 :: u238 :: u239 :: u240 :: u241 :: u242 :: u243 :: u244 :: u245 :: u246 :: u247 :: u248 :: u249 :: u250 :: u251 :: u252 :: u253 :: u254 :: u255 :: u256 :: u257 :: u258 :: u259 :: u260 :: u261 :: u262 :: u263 :: u264 :: u265 :: u266 :: u267 :: u268 :: u269 :: u270 :: u271 :: u272 :: u273 :: u274 :: u275 :: u276 :: u277 :: u278 :: u279 :: u280 :: u281 :: u282 :: u283 :: u284 :: u285 :: u286 :: u287 :: u288 :: u289 :: u290 :: u291 :: u292 :: u293 :: u294 :: u295 :: u296 :: u297 :: u298 :: u299 :: u300 :: u301 :: u302 :: u303 :: u304 :: u305 :: u306 :: u307 :: u308 :: u309 :: u310 :: u311 :: u312 :: u313 :: u314 :: u315 :: u316 :: u317 :: u318 :: u319 :: u320 :: u321 :: u322 :: u323 :: u324 :: u325 :: u326 :: u327 :: u328 :: u329 :: u330 :: u331 :: u332 :: u333 :: u334 :: u335 :: u336 :: u337 :: u338 :: u339 :: u340 :: u341 :: u342 :: u343 :: u344 :: u345 :: u346 :: u347 :: u348 :: u349 :: u350 :: u351 :: u352 :: u353 :: u354 :: u355 :: u356 :: u357 :: u358 :: u359 :: u360 :: u361 :: u362 :: u363 :: u364 :: u365 :: u366 :: u367 :: u368 :: u369 :: u370 :: u371 :: u372 :: u373 :: u374 :: u375 :: u376 :: u377 :: u378 :: u379 :: u380 :: u381 :: u382 :: u383 :: u384 :: u385 :: u386 :: u387 :: u388 :: u389 :: u390 :: u391 :: u392 :: u393 :: u394 :: u395 :: u396 :: u397 :: u398 :: u399 :: u400 :: u401 :: u402 :: u403 :: u404 :: u405 :: u406 :: u407 :: u408 :: u409 :: u410 :: u411 :: u412 :: u413 :: u414 :: u415 :: u416 :: u417 :: u418 :: u419 :: u420 :: u421 :: u422 :: u423 :: u424 :: u425 :: u426 :: u427 :: u428 :: u429 :: u430 :: u431 :: u432 :: u433 :: u434 :: u435 :: u436 :: u437 :: u438 :: u439 :: u440 :: u441 :: u442 :: u443 :: u444 :: u445 :: u446 :: u447 :: u448 :: u449 :: u450 :: u451 :: u452 :: u453 :: u454 :: u455 :: u456 :: u457 :: u458 :: u459 :: u460 :: u461 :: u462 :: u463 :: u464 :: u465 :: u466 :: u467 :: u468 :: u469 :: u470 :: u471 :: u472 :: u473 :: u474 :: u475 :: u476 :: u477 :: u478 :: u479 :: u480 :: u481 :: u482 :: u483 :: u484 :: u485 :: u486 :: u487 :: u488 :: u489 :: u490 :: u491 :: u492 :: u493 :: u494 :: u495 :: u496 :: u497 :: u498 :: u499 :: u500 :: u501 :: u502 :: u503 :: u504 :: u505 :: u506 :: u507 :: u508 :: u509 :: u510 :: u511 :: u512 :: u513 :: u514 :: u515 :: u516 :: u517 :: u518 :: u519 :: u520 :: u521 :: u522 :: u523 :: u524 :: u525 :: u526 :: u527 :: u528 :: u529 :: u530 :: u531 :: u532 :: u533 :: u534 :: u535 :: u536 :: u537 :: u538 :: u539 :: u540 :: u541 :: u542 :: u543 :: u544 :: []).toArray, []⟩ W := by
  have HE := Lib.hid hexit
  clear hexit
  have HA := Lib.hid l_alive
  obtain ⟨l0, l1, l2, l3⟩ := hl
  have HRows : Hid (∀ W', Below W.heap.size W W' → MbAt W' m A ∧ RowsAt W' a0 2 plc m.places ∧ RowsAt W' a1 2 spc m.legs ∧ RowsAt W' a2 4 i4c m.herds ∧ RowsAt W' a3 4 i4c m.seen) := fun W' hb => ⟨hm.below hb, h0.below hb, h1.below hb, h2.below hb, h3.below hb⟩
  clear h0 h1 h2 h3 hm
  rcases A with ⟨pa, pc, la, lc, ha, hc, sa, sc⟩
  unfold mcells at bb
  simp only at bb
  have hB : Below W.heap.size W W := Below.refl _ _
  obtain ⟨w, hw⟩ : ∃ w, w = W := ⟨_, rfl⟩
  rw [← hw] at bb ⊢
  have hB : Below W.heap.size W w := by rw [hw]; exact Below.refl _ _
  clear hw
  conv => arg 2; whnf
  have li0 : (m.places.length : Int) ≤ 40 := by omega
  go_wp2_with fail
  go_loopw [482] (fun x wr => ∃ k : Nat, k ≤ m.places.length ∧ x = .int .i64 (k : Int) ∧ Below w.heap.size w wr) (fun x _ => (m.places.length - (intOf x).toNat))
  case atStart => exact ⟨0, Nat.zero_le _, rfl, Below.refl _ _⟩
  case round =>
    as_aux_lemma =>
      obtain ⟨k, hk, rfl, hBr⟩ := hrel
      have hBw := hB.trans (hBr.mono hB.size)
      have bbr := bb.below hBr bb.lt
      have rb := bbr.cell
      by_cases hlt : k < m.places.length
      · have hlti : (k : Int) < (m.places.length : Int) := by omega
        obtain ⟨hmr, q0, q1, q2, q3⟩ := HRows.out _ hBw
        obtain ⟨gb, go, rfl, e0, e1⟩ := q0.getP hlt
        obtain ⟨gd, go2, hgd, d0, d1⟩ := hmr.places.getP hlt
        simp only at hgd
        subst hgd
        clear hmr q0 q1 q2 q3
        generalize m.places[k] = x at *
        obtain ⟨x0, x1⟩ := x
        simp only at e0 e1 d0 d1
        go_upto_region 60 with fail
        refine Ord.wp_regionN [(0, 0), (1, 0), (2, 0), (3, 0), (4, 0), (5, 0), (6, 0), (7, 0), (8, 0), (9, 0)] (fun _ => True) (by kernel_rfl) (by kernel_rfl) trivial ?_
        go_wp2_with (first
          | (with_reducible refine Ord.at_nm ?_)
          | ((with_reducible refine Ord.at_calm ?_); refine Ord.calm_skip rfl ?_ (fun K hK => ?_); (focus (simp [Region.wanted, yielded]; done))) | with_reducible refine Ord.walk_calm rfl rfl (fun K hK => ?_) | ((with_reducible refine Ord.at_wild ?_); refine Ord.wild_fieldAddr rfl rfl (fun W => by simp [go_sem]; rfl) (fun K hK => ?_)) | ((with_reducible refine Ord.at_wild ?_); refine Ord.wild_move rfl rfl (fun K hK => ?_)) | ((with_reducible refine Ord.at_wild ?_); refine Ord.wild_nilCheck rfl rfl (fun K hK => ?_)) | with_reducible refine Ord.walk_eff rfl (by first | (simp; done) | assumption | (go_simp; done) | (repeat (first | assumption | exact Below.refl _ _ | refine Below.drew ?_ | refine Below.alloc ?_ (by first | omega | (simp; done) | (simp; omega)) _ | refine Below.setCell ?_ (by first | omega | (simp; done) | (simp; omega)) _ | refine Below.trans ?_ (Below.mono (by assumption) (by first | omega | (simp; done) | (simp; omega)))))) (fun K hK => ?_) | with_reducible refine Ord.at_fork ?_ ?_ | with_reducible refine Ord.walk_nil ?_ | (with_reducible refine Ord.next_of (by first | (simp; done) | (go_simp; done) | (repeat (first | assumption | exact Below.refl _ _ | refine Below.drew ?_ | refine Below.alloc ?_ (by first | omega | (simp; done) | (simp; omega)) _ | refine Below.setCell ?_ (by first | omega | (simp; done) | (simp; omega)) _ | refine Below.trans ?_ (Below.mono (by assumption) (by first | omega | (simp; done) | (simp; omega)))))) (fun _ => ?_)))
        exact ⟨⟨k + 1, by omega, by go_num, hBr.drew⟩, by simp [intOf]; omega⟩
      · have hlti : ¬ (k : Int) < (m.places.length : Int) := by omega
        clear hBr rb hk hlt hB bb
        have hB := hBw
        have bb := bbr
        clear hBw bbr
        generalize wr = wq0 at *
        clear wr
        have li1 : (m.legs.length : Int) ≤ 40 := by omega
        go_wp2_with fail
        go_loopw [498] (fun x wr => ∃ k : Nat, k ≤ m.legs.length ∧ x = .int .i64 (k : Int) ∧ Below wq0.heap.size wq0 wr) (fun x _ => (m.legs.length - (intOf x).toNat))
        case atStart => exact ⟨0, Nat.zero_le _, rfl, Below.refl _ _⟩
        case round =>
          as_aux_lemma =>
            obtain ⟨k, hk, rfl, hBr⟩ := hrel
            have hBw := hB.trans (hBr.mono hB.size)
            have bbr := bb.below hBr bb.lt
            have rb := bbr.cell
            by_cases hlt : k < m.legs.length
            · have hlti : (k : Int) < (m.legs.length : Int) := by omega
              obtain ⟨hmr, q0, q1, q2, q3⟩ := HRows.out _ hBw
              obtain ⟨gb, go, rfl, e0, e1⟩ := q1.get2 hlt
              obtain ⟨gd, go2, hgd, d0, d1⟩ := hmr.legs.get2 hlt
              simp only at hgd
              subst hgd
              clear hmr q0 q1 q2 q3
              generalize m.legs[k] = x at *
              obtain ⟨x0, x1⟩ := x
              simp only at e0 e1 d0 d1
              go_upto_region 66 with fail
              refine Ord.wp_regionN [(0, 0), (1, 0), (2, 0), (3, 0), (4, 0), (5, 0), (6, 0), (7, 0), (8, 0), (9, 0)] (fun _ => True) (by kernel_rfl) (by kernel_rfl) trivial ?_
              go_wp2_with (first
                | (with_reducible refine Ord.at_nm ?_)
                | ((with_reducible refine Ord.at_calm ?_); refine Ord.calm_skip rfl ?_ (fun K hK => ?_); (focus (simp [Region.wanted, yielded]; done))) | with_reducible refine Ord.walk_calm rfl rfl (fun K hK => ?_) | ((with_reducible refine Ord.at_wild ?_); refine Ord.wild_fieldAddr rfl rfl (fun W => by simp [go_sem]; rfl) (fun K hK => ?_)) | ((with_reducible refine Ord.at_wild ?_); refine Ord.wild_move rfl rfl (fun K hK => ?_)) | ((with_reducible refine Ord.at_wild ?_); refine Ord.wild_nilCheck rfl rfl (fun K hK => ?_)) | with_reducible refine Ord.walk_eff rfl (by first | (simp; done) | assumption | (go_simp; done) | (repeat (first | assumption | exact Below.refl _ _ | refine Below.drew ?_ | refine Below.alloc ?_ (by first | omega | (simp; done) | (simp; omega)) _ | refine Below.setCell ?_ (by first | omega | (simp; done) | (simp; omega)) _ | refine Below.trans ?_ (Below.mono (by assumption) (by first | omega | (simp; done) | (simp; omega)))))) (fun K hK => ?_) | with_reducible refine Ord.at_fork ?_ ?_ | with_reducible refine Ord.walk_nil ?_ | (with_reducible refine Ord.next_of (by first | (simp; done) | (go_simp; done) | (repeat (first | assumption | exact Below.refl _ _ | refine Below.drew ?_ | refine Below.alloc ?_ (by first | omega | (simp; done) | (simp; omega)) _ | refine Below.setCell ?_ (by first | omega | (simp; done) | (simp; omega)) _ | refine Below.trans ?_ (Below.mono (by assumption) (by first | omega | (simp; done) | (simp; omega)))))) (fun _ => ?_)))
              exact ⟨⟨k + 1, by omega, by go_num, hBr.drew⟩, by simp [intOf]; omega⟩
            · have hlti : ¬ (k : Int) < (m.legs.length : Int) := by omega
              clear hBr rb hk hlt hB bb
              have hB := hBw
              have bb := bbr
              clear hBw bbr
              generalize wr = wq1 at *
              clear wr
              have li2 : (m.herds.length : Int) ≤ 40 := by omega
              go_wp2_with fail
              go_loopw [514] (fun x wr => ∃ k : Nat, k ≤ m.herds.length ∧ x = .int .i64 (k : Int) ∧ Below wq1.heap.size wq1 wr) (fun x _ => (m.herds.length - (intOf x).toNat))
              case atStart => exact ⟨0, Nat.zero_le _, rfl, Below.refl _ _⟩
              case round =>
                as_aux_lemma =>
                  obtain ⟨k, hk, rfl, hBr⟩ := hrel
                  have hBw := hB.trans (hBr.mono hB.size)
                  have bbr := bb.below hBr bb.lt
                  have rb := bbr.cell
                  by_cases hlt : k < m.herds.length
                  · have hlti : (k : Int) < (m.herds.length : Int) := by omega
                    obtain ⟨hmr, q0, q1, q2, q3⟩ := HRows.out _ hBw
                    obtain ⟨gb, go, rfl, e0, e1, e2, e3⟩ := q2.get4 hlt
                    obtain ⟨gd, go2, hgd, d0, d1, d2, d3⟩ := hmr.herds.get4 hlt
                    simp only at hgd
                    subst hgd
                    clear hmr q0 q1 q2 q3
                    generalize m.herds[k] = x at *
                    obtain ⟨x0, x1, x2, x3⟩ := x
                    simp only at e0 e1 e2 e3 d0 d1 d2 d3
                    go_upto_region 72 with fail
                    refine Ord.wp_regionN [(0, 0), (1, 0), (2, 0), (3, 0), (4, 0), (5, 0), (6, 0), (7, 0), (8, 0), (9, 0)] (fun _ => True) (by kernel_rfl) (by kernel_rfl) trivial ?_
                    go_wp2_with (first
                      | (with_reducible refine Ord.at_nm ?_)
                      | ((with_reducible refine Ord.at_calm ?_); refine Ord.calm_skip rfl ?_ (fun K hK => ?_); (focus (simp [Region.wanted, yielded]; done))) | with_reducible refine Ord.walk_calm rfl rfl (fun K hK => ?_) | ((with_reducible refine Ord.at_wild ?_); refine Ord.wild_fieldAddr rfl rfl (fun W => by simp [go_sem]; rfl) (fun K hK => ?_)) | ((with_reducible refine Ord.at_wild ?_); refine Ord.wild_move rfl rfl (fun K hK => ?_)) | ((with_reducible refine Ord.at_wild ?_); refine Ord.wild_nilCheck rfl rfl (fun K hK => ?_)) | with_reducible refine Ord.walk_eff rfl (by first | (simp; done) | assumption | (go_simp; done) | (repeat (first | assumption | exact Below.refl _ _ | refine Below.drew ?_ | refine Below.alloc ?_ (by first | omega | (simp; done) | (simp; omega)) _ | refine Below.setCell ?_ (by first | omega | (simp; done) | (simp; omega)) _ | refine Below.trans ?_ (Below.mono (by assumption) (by first | omega | (simp; done) | (simp; omega)))))) (fun K hK => ?_) | with_reducible refine Ord.at_fork ?_ ?_ | with_reducible refine Ord.walk_nil ?_ | (with_reducible refine Ord.next_of (by first | (simp; done) | (go_simp; done) | (repeat (first | assumption | exact Below.refl _ _ | refine Below.drew ?_ | refine Below.alloc ?_ (by first | omega | (simp; done) | (simp; omega)) _ | refine Below.setCell ?_ (by first | omega | (simp; done) | (simp; omega)) _ | refine Below.trans ?_ (Below.mono (by assumption) (by first | omega | (simp; done) | (simp; omega)))))) (fun _ => ?_)))
                    exact ⟨⟨k + 1, by omega, by go_num, hBr.drew⟩, by simp [intOf]; omega⟩
                  · have hlti : ¬ (k : Int) < (m.herds.length : Int) := by omega
                    clear hBr rb hk hlt hB bb
                    have hB := hBw
                    have bb := bbr
                    clear hBw bbr
                    generalize wr = wq2 at *
                    clear wr
                    have li3 : (m.seen.length : Int) ≤ 40 := by omega
                    go_wp2_with fail
                    go_loopw [530] (fun x wr => ∃ k : Nat, k ≤ m.seen.length ∧ x = .int .i64 (k : Int) ∧ Below wq2.heap.size wq2 wr) (fun x _ => (m.seen.length - (intOf x).toNat))
                    case atStart => exact ⟨0, Nat.zero_le _, rfl, Below.refl _ _⟩
                    case round =>
                      as_aux_lemma =>
                        obtain ⟨k, hk, rfl, hBr⟩ := hrel
                        have hBw := hB.trans (hBr.mono hB.size)
                        have bbr := bb.below hBr bb.lt
                        have rb := bbr.cell
                        by_cases hlt : k < m.seen.length
                        · have hlti : (k : Int) < (m.seen.length : Int) := by omega
                          obtain ⟨hmr, q0, q1, q2, q3⟩ := HRows.out _ hBw
                          obtain ⟨gb, go, rfl, e0, e1, e2, e3⟩ := q3.get4 hlt
                          obtain ⟨gd, go2, hgd, d0, d1, d2, d3⟩ := hmr.seen.get4 hlt
                          simp only at hgd
                          subst hgd
                          clear hmr q0 q1 q2 q3
                          generalize m.seen[k] = x at *
                          obtain ⟨x0, x1, x2, x3⟩ := x
                          simp only at e0 e1 e2 e3 d0 d1 d2 d3
                          go_upto_region 78 with fail
                          refine Ord.wp_regionN [(0, 0), (1, 0), (2, 0), (3, 0), (4, 0), (5, 0), (6, 0), (7, 0), (8, 0), (9, 0)] (fun _ => True) (by kernel_rfl) (by kernel_rfl) trivial ?_
                          go_wp2_with (first
                            | (with_reducible refine Ord.at_nm ?_)
                            | ((with_reducible refine Ord.at_calm ?_); refine Ord.calm_skip rfl ?_ (fun K hK => ?_); (focus (simp [Region.wanted, yielded]; done))) | with_reducible refine Ord.walk_calm rfl rfl (fun K hK => ?_) | ((with_reducible refine Ord.at_wild ?_); refine Ord.wild_fieldAddr rfl rfl (fun W => by simp [go_sem]; rfl) (fun K hK => ?_)) | ((with_reducible refine Ord.at_wild ?_); refine Ord.wild_move rfl rfl (fun K hK => ?_)) | ((with_reducible refine Ord.at_wild ?_); refine Ord.wild_nilCheck rfl rfl (fun K hK => ?_)) | with_reducible refine Ord.walk_eff rfl (by first | (simp; done) | assumption | (go_simp; done) | (repeat (first | assumption | exact Below.refl _ _ | refine Below.drew ?_ | refine Below.alloc ?_ (by first | omega | (simp; done) | (simp; omega)) _ | refine Below.setCell ?_ (by first | omega | (simp; done) | (simp; omega)) _ | refine Below.trans ?_ (Below.mono (by assumption) (by first | omega | (simp; done) | (simp; omega)))))) (fun K hK => ?_) | with_reducible refine Ord.at_fork ?_ ?_ | with_reducible refine Ord.walk_nil ?_ | (with_reducible refine Ord.next_of (by first | (simp; done) | (go_simp; done) | (repeat (first | assumption | exact Below.refl _ _ | refine Below.drew ?_ | refine Below.alloc ?_ (by first | omega | (simp; done) | (simp; omega)) _ | refine Below.setCell ?_ (by first | omega | (simp; done) | (simp; omega)) _ | refine Below.trans ?_ (Below.mono (by assumption) (by first | omega | (simp; done) | (simp; omega)))))) (fun _ => ?_)))
                          exact ⟨⟨k + 1, by omega, by go_num, hBr.drew⟩, by simp [intOf]; omega⟩
                        · have hlti : ¬ (k : Int) < (m.seen.length : Int) := by omega
                          clear hBr rb hk hlt hB bb
                          have hB := hBw
                          have bb := bbr
                          clear hBw bbr
                          generalize wr = wq3 at *
                          clear wr
                          go_wp2_with (first
                            | (go_at_call 12; refine (HA.out _).mono ?_; rintro e w2 ⟨rfl, hb2⟩))
                          exact HE.out _ _ rfl (hB.trans (hb2.mono hB.size))
end Go.Proofs.Yteeinehpneppnaa
set_option linter.unusedVariables false
set_option linter.unusedSimpArgs false
namespace Go.Proofs.Yteeinehpneppnaa
open Go.RowKit Go.Proofs
/-- A key that can be. -/
def Ik (x : Int) : Prop := -1000000 ≤ x ∧ x ≤ 1000000
theorem int_key {x : Int} (h : Ik x) : ∃ l, keyOf Try.prog 3 (.int .i64 x) = some l := by
  obtain ⟨h1, h2⟩ := h
  have hk : Try.prog.keyType 3 = true := by kernel_rfl
  have : (Lit.int .i64 x).wf = true := by have : IntKind.i64.min = -9223372036854775808 := rfl; have : IntKind.i64.max = 9223372036854775807 := rfl; simp [Lit.wf, *]; omega
  refine ⟨.int .i64 x, ?_⟩
  unfold keyOf
  rw [Try.underlying3]
  simp [mapKey, Try.underlying3, this, hk]
/-- A map's entries. -/
def entsFromI : Nat → List (Int × Int) → List MapEntry
  | _, [] => []
  | i, p :: l => { key := .int .i64 p.1, val := .int .i64 p.2, born := i } :: entsFromI (i + 1) l
def entsI (l : List (Int × Int)) : Array MapEntry := (entsFromI 0 l).toArray
def MapII (w : World) (m : Nat) (l : List (Int × Int)) : Prop := w.heap[m]? = some (.map (entsI l) l.length)
def OkI (l : List (Int × Int)) : Prop := (∀ p ∈ l, Ik p.1) ∧ (l.map (·.1)).Nodup
def putI (l : List (Int × Int)) (x : Int) (v : Int) : List (Int × Int) := if x ∈ l.map (·.1) then l.map (fun p => if p.1 = x then (x, v) else p) else l ++ [(x, v)]
theorem entsFromI_mem {i : Nat} {l : List (Int × Int)} {e : MapEntry} (h : e ∈ entsFromI i l) : ∃ p ∈ l, e.key = .int .i64 p.1 ∧ e.val = .int .i64 p.2 := by
  induction l generalizing i with
  | nil => simp [entsFromI] at h
  | cons p l ih =>
    simp only [entsFromI, List.mem_cons] at h
    rcases h with rfl | h
    · exact ⟨p, by simp, rfl, rfl⟩
    · obtain ⟨q, h1, h2, h3⟩ := ih h
      exact ⟨q, by simp [h1], h2, h3⟩
theorem OkI.keyed {l : List (Int × Int)} (h : OkI l) : ∀ e ∈ (entsI l).toList, ∃ k, keyOf Try.prog 3 e.key = some k := by
  intro e he
  obtain ⟨p, hp, hk, -⟩ := entsFromI_mem (show e ∈ entsFromI 0 l by simpa [entsI] using he)
  rw [hk]
  exact int_key (h.1 p hp)

theorem OkI.put {l : List (Int × Int)} (h : OkI l) {x : Int} (hx : Ik x) (v : Int) : OkI (putI l x v) := by
  unfold putI
  split
  · rename_i hin
    refine ⟨fun p hp => ?_, ?_⟩
    · obtain ⟨q, hq, rfl⟩ := List.mem_map.1 hp
      split
      · exact hx
      · exact h.1 q hq
    · have : (l.map (fun p => if p.1 = x then (x, v) else p)).map (·.1) = l.map (·.1) := by
        rw [List.map_map]
        apply List.map_congr_left
        intro p _
        by_cases he : p.1 = x
        · simp [he]
        · simp [he]
      rw [this]
      exact h.2
  · rename_i hni
    refine ⟨fun p hp => ?_, ?_⟩
    · rcases List.mem_append.1 hp with hp | hp
      · exact h.1 p hp
      · simp at hp; subst hp; exact hx
    · rw [List.map_append, List.nodup_append]
      refine ⟨h.2, by simp, fun a ha b hb => ?_⟩
      simp at hb
      subst hb
      exact fun e => hni (e ▸ ha)

end Go.Proofs.Yteeinehpneppnaa
set_option linter.unusedVariables false
set_option linter.unusedSimpArgs false
namespace Go.Proofs.Yteeinehpneppnaa
open Go.RowKit Go.Proofs

theorem MapII.lt {w : World} {m : Nat} {l : List (Int × Int)} (h : MapII w m l) : m < w.heap.size := lt_of_block h
theorem MapII.turn {w w' : World} {m b : Nat} {l : List (Int × Int)} (h : MapII w m l) (ht : Turn1 w b w') (hm : m ≠ b) : MapII w' m l := (ht.other hm).trans h
theorem MapII.alloc {w : World} {m : Nat} {l : List (Int × Int)} (h : MapII w m l) (o : Obj) : MapII (w.alloc o) m l := (Below.heap_alloc w o m h.lt).trans h
theorem MapII.setCell {w : World} {m : Nat} {l : List (Int × Int)} (h : MapII w m l) {p : Addr} (hp : m ≠ p.block) (v : Value) : MapII (w.setCell p v) m l := (Below.heap_setCell w p v m hp).trans h
theorem MapII.drew {w : World} {m : Nat} {l : List (Int × Int)} (h : MapII w m l) : MapII w.drew m l := h
theorem MapII.below {w w' : World} {m n : Nat} {l : List (Int × Int)} (h : MapII w m l) (hb : Below n w w') (hn : m < n) : MapII w' m l := (hb.block m hn).trans h
theorem MapII.new (w : World) : MapII (w.alloc (.map #[] 0)) w.heap.size [] := by
  show (w.heap.push _)[w.heap.size]? = _
  simp [entsI, entsFromI]
theorem OkI.nil : OkI [] := ⟨(by intro p hp; cases hp), (by simp)⟩
/-- A range over a map: the entries that have been, by their places. -/
def IterI (w : World) (r m : Nat) (n : Nat) (seen : List Nat) : Prop := ∃ c, n ≤ c ∧ w.heap[r]? = some (.mapIter (some m) n seen.toArray c)
theorem IterI.lt {w : World} {r m n : Nat} {seen : List Nat} (h : IterI w r m n seen) : r < w.heap.size := by
  obtain ⟨c, -, h⟩ := h
  exact lt_of_block h
theorem IterI.turn {w w' : World} {r m n b : Nat} {seen : List Nat} (h : IterI w r m n seen) (ht : Turn1 w b w') (hm : r ≠ b) : IterI w' r m n seen := by
  obtain ⟨c, hc, h⟩ := h
  exact ⟨c, hc, (ht.other hm).trans h⟩
theorem IterI.alloc {w : World} {r m n : Nat} {seen : List Nat} (h : IterI w r m n seen) (o : Obj) : IterI (w.alloc o) r m n seen := by
  have hl := h.lt
  obtain ⟨c, hc, h⟩ := h
  exact ⟨c, hc, (Below.heap_alloc w o r hl).trans h⟩
theorem IterI.setCell {w : World} {r m n : Nat} {seen : List Nat} (h : IterI w r m n seen) {p : Addr} (hp : r ≠ p.block) (v : Value) : IterI (w.setCell p v) r m n seen := by
  obtain ⟨c, hc, h⟩ := h
  exact ⟨c, hc, (Below.heap_setCell w p v r hp).trans h⟩
theorem IterI.drew {w : World} {r m n : Nat} {seen : List Nat} (h : IterI w r m n seen) : IterI w.drew r m n seen := h
theorem IterI.below {w w' : World} {r m n k : Nat} {seen : List Nat} (h : IterI w r m n seen) (hb : Below k w w') (hn : r < k) : IterI w' r m n seen := by
  obtain ⟨c, hc, h⟩ := h
  exact ⟨c, hc, (hb.block r hn).trans h⟩

section
variable {ops : Array Oper} {rest : List Oper} {o : Oper} {a : Act} {w : World} {Q : Exit → Act → World → Prop}
end
end Go.Proofs.Yteeinehpneppnaa
