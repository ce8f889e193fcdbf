/- Parts of a proof: BnAT, TrueA, MoreJ, MoreL. -/
import Derived.Test.YtjbjmoghloabpaaP28
import Derived.OpenShut
import Derived.Test.YtjbjmoghloabpaaP29
import Derived.Test.YtjbjmoghloabpaaP30
set_option linter.unusedVariables false
set_option linter.unusedSimpArgs false
namespace Go.Proofs.Ytjbjmoghloabpaa
open Go.RowKit Go.Proofs
attribute [local irreducible] Ord.walk
def longB (b : Bn) : Bool := decide (40 < (max b.gs.length b.ps.length : Nat))
theorem l_long (b : Bn) (ga : Option Addr) (gc : Nat) (pa : Option Addr) (pc : Nat) (w : World) (hgl : b.gs.length ≤ maxLen) (hpl : b.ps.length ≤ maxLen) :
    Calls Try.prog 12 #[bv b ga gc pa pc] w (Gives (.bool (longB b)) w) := by
  unfold bv longB
  generalize b.gs.length = n at *
  generalize b.ps.length = m at *
  go_enter Try.func12, Try.ntmps12
  go_wp2
  all_goals go_ret
  all_goals (refine ⟨ret_bool ?_, (Below.refl _ _).alloc (Nat.le_refl _) _⟩; rw [Bool.eq_iff_iff]; simp only [decide_eq_true_eq]; omega)
end Go.Proofs.Ytjbjmoghloabpaa
set_option linter.unusedVariables false
set_option linter.unusedSimpArgs false
namespace Go.Proofs.Ytjbjmoghloabpaa
open Go.RowKit Go.Proofs
attribute [local irreducible] Ord.walk
theorem r_bean {b : Bn} {ga : Option Addr} {gc : Nat} {pa : Option Addr} {pc : Nat} {w : World} (hg : GsAt w ga b.gs) (hp : PsAt w pa b.ps) (hgl : b.gs.length ≤ 40) (hpl : b.ps.length ≤ 40) :
    Calls Try.prog 36 #[bv b ga gc pa pc] w (Gives (.bool (valid b)) w) := by
  cases h : headOk b
  · rw [headOk_no h]; exact r_bean_no b ga gc pa pc w (by omega) (by omega) h
  · exact r_bean_yes b ga gc pa pc w hg hp h
end Go.Proofs.Ytjbjmoghloabpaa
set_option linter.unusedVariables false
set_option linter.unusedSimpArgs false
namespace Go.Proofs.Ytjbjmoghloabpaa
open Go.RowKit Go.Proofs
attribute [local irreducible] Ord.walk
def so27 (j : Nat) : Option Nat := bif Nat.blt j 211 then (bif Nat.blt j 21 then none else bif Nat.blt j 23 then some (j - 13) else none) else bif Nat.blt j 219 then some (j - 211) else none
theorem so27_ok : ((List.range 495).all fun j => Ord.soL m27 j == so27 j) = true := by kernel_rfl
theorem q_c {b q : Bn} {w0 : World} {a1 a2 : Option Addr} {c1 c2 : Nat} (hv : valid b = true) (h : BnAt w0 q a1 a2) (hg : q.gs.length ≤ 40) (hp : q.ps.length ≤ 40) (hV : q.V = b.V) (hs : valid q = true → ∀ x, holdsB q x = true → holdsB b x = true) {lo hi wh bl n s : Nat} {e : Int} (T : Told b lo hi wh bl n s e) : QC (bv q a1 c1 a2 c2) w0 lo hi wh bl n e := by
  refine ⟨valid q, fun W hb => r_bean (h.below hb).gs (h.below hb).ps hg hp, fun hq => ?_⟩
  obtain ⟨lo', hi', wh', bl', n', s', k, U⟩ := told hq
  obtain ⟨h1, h2⟩ := more_sub hv hq hV (hs hq) T U
  exact ⟨lo', hi', wh', bl', n', s', k, four h hg hp U, h1, h2⟩
/-- A vote of which a group is known better, or none. -/
structure Near (b q : Bn) : Prop where
  V : q.V = b.V
  nd : q.nd = b.nd
  lo : q.lo = b.lo
  hi : q.hi = b.hi
  ps : q.ps = b.ps
  len : q.gs.length = b.gs.length
  sub : valid q = true → ∀ x, holdsB q x = true → holdsB b x = true
set_option maxHeartbeats 40000000 in
set_option maxRecDepth 100000 in
theorem more_mid {u0 u1 u2 u3 u5 u6 u7 u8 u14 u16 u17 u18 u19 u20 u21 u22 u23 u24 u25 u26 u27 u28 u29 u30 u31 u32 u33 u34 u35 u36 u37 u38 u39 u40 u41 u42 u43 u44 u45 u46 u47 u48 u49 u50 u51 u52 u53 u54 u55 u56 u57 u58 u59 u60 u61 u62 u63 u64 u65 u66 u67 u68 u69 u70 u71 u72 u73 u74 u75 u76 u77 u78 u79 u80 u81 u82 u83 u84 u85 u86 u87 u88 u89 u90 u91 u92 u93 u94 u95 u96 u97 u98 u99 u100 u101 u102 u103 u104 u105 u106 u107 u108 u109 u110 u111 u112 u113 u114 u115 u116 u117 u118 u119 u120 u121 u122 u123 u124 u125 u126 u127 u128 u129 u130 u131 u132 u133 u134 u135 u136 u137 u138 u139 u140 u141 u142 u143 u144 u145 u146 u147 u148 u149 u150 u151 u152 u153 u154 u155 u156 u157 u158 u159 u160 u161 u162 u163 u164 u165 u166 u167 u168 u169 u170 u171 u172 u173 u174 u175 u176 u177 u178 u179 u180 u181 u182 u183 u184 u185 u186 u187 u188 u189 u190 u191 u192 u193 u194 u195 u196 u197 u198 u199 u200 u201 u202 u203 u204 u205 u206 u207 u208 u209 u210 u211 u212 u213 u214 u215 u216 u217 u218 u219 u220 u221 u222 u223 u224 u225 u226 u227 u228 u229 u230 u231 u232 u233 u234 u235 u236 u237 u238 u239 u240 u241 u242 u243 u244 u245 u246 u247 u248 u249 u250 u251 u252 u253 u254 u255 u256 u257 u258 u259 u260 u261 u262 u263 u264 u265 u266 u267 u268 u269 u270 u271 u272 u273 u274 u275 u276 u277 u278 u279 u280 u281 u282 u283 u284 u285 u286 u287 u288 u289 u290 u291 u292 u293 u294 u295 u296 u297 u298 u299 u300 u301 u302 u303 u304 u305 u306 u307 u308 u309 u310 u311 u312 u313 u314 u315 u316 u317 u318 u319 u320 u321 u322 u323 u324 u325 u326 u327 u328 u329 u330 u331 u332 u333 u334 u335 u336 u337 u338 u339 u340 u341 u342 u343 u344 u345 u346 u347 u348 u349 u350 u351 u352 u353 u354 u355 u356 u357 u358 u359 u360 u361 u362 u363 u364 u365 u366 u367 u368 u369 u370 u371 u372 u373 u374 u375 u376 u377 u378 u379 u380 u381 u382 u383 u384 u385 u386 u387 u388 u389 u390 u391 u392 u393 u394 u395 u396 u397 u398 u399 u400 u401 u402 u403 u404 u405 u406 u407 u408 u409 u410 u411 u412 u413 u414 u415 u416 u417 u418 u419 u420 u421 u422 u423 u424 u425 u426 u427 u428 u429 u430 u431 u432 u433 u434 u435 u436 u437 u438 u439 u440 u441 u442 u443 u444 u445 u446 u447 u448 u449 u450 u451 u452 u453 u454 u455 u456 u457 u458 u459 u460 u461 u462 u463 u464 u465 u466 u467 u468 u469 u470 u471 u472 u473 u474 u475 u476 u477 u478 u479 u480 u481 u482 u483 u484 u485 u486 u487 u488 u489 u490 u491 u492 u493 u494 : Value} (Q : Exit → Act → World → Prop) {b q : Bn} {g : Int × Int × Int} {p : Int × Int × Bool} {ga pa a11 : Option Addr} {gc pc c11 : Nat} {w0 W : World} {p4 p9 p10 p11 p12 p13 z9 z10 z12 z14 z13 : Nat} {u9 u10 u12 s14 u13 : Value} (hv : valid b = true)
    (hB : Below w0.heap.size w0 W) (hm : BnAt w0 b ga pa) (bb : Blk W p4 #[.int .i64 b.V, .int .i64 b.nd, .int .i64 b.lo, .int .i64 b.hi, .slice ga b.gs.length gc, .slice pa b.ps.length pc] 27) (B9 : Blk W p9 #[.int .i64 b.V, .int .i64 b.nd, .int .i64 b.lo, .int .i64 b.hi, u9, .slice pa b.ps.length pc] 27) (o9 : OwnG W z9 u9 (b.gs ++ [g])) (B10 : Blk W p10 #[.int .i64 b.V, .int .i64 b.nd, .int .i64 b.lo, .int .i64 b.hi, .slice ga b.gs.length gc, u10] 27) (o10 : OwnP W z10 u10 (b.ps ++ [p]))
    (B11 : Blk W p11 #[.int .i64 b.V, .int .i64 b.nd, .int .i64 b.lo, .int .i64 b.hi, .slice a11 b.gs.length c11, .slice pa b.ps.length pc] 27) (g11 : GsAt W a11 q.gs) (hq : Near b q)
    (B12 : Blk W p12 #[.int .i64 b.V, .int .i64 b.nd, .int .i64 b.lo, .int .i64 b.hi, u12, s14] 27) (o12 : OwnG W z12 u12 (turnB b).gs) (o14 : OwnP W z14 s14 (turnB b).ps)
    (B13 : Blk W p13 #[.int .i64 b.V, .int .i64 b.nd, .int .i64 (b.V - b.hi), .int .i64 (b.V - b.lo), u13, .slice pa b.ps.length pc] 27) (o13 : OwnG W z13 u13 (otherB b).gs)
    (hexit : ∀ (tm : Array Value) W', tm[8]? = some (.bool true) → Below w0.heap.size w0 W' → Q .ret ⟨tm, []⟩ W')
    (K : Act → World → Prop) (hK : ∀ b v, mC11.wp Try.prog Q b v → K b v) :
    (Code.region 27 m27.toArray true).wp Try.prog (Exit.then K Q) ⟨(u0 :: u1 :: u2 :: u3 :: .pointer (some ⟨p4, 0, none⟩) :: u5 :: u6 :: u7 :: u8 :: .pointer (some ⟨p9, 0, none⟩) :: .pointer (some ⟨p10, 0, none⟩) :: .pointer (some ⟨p11, 0, none⟩) :: .pointer (some ⟨p12, 0, none⟩) :: .pointer (some ⟨p13, 0, none⟩) :: u14 :: .bool (allO b) :: u16 :: u17 :: u18 :: u19 :: u20 :: u21 :: u22 :: u23 :: u24 :: u25 :: u26 :: u27 :: u28 :: u29 :: u30 :: u31 :: u32 :: u33 :: u34 :: u35 :: u36 :: u37 :: u38 :: u39 :: u40 :: u41 :: u42 :: u43 :: u44 :: u45 :: u46 :: u47 :: u48 :: u49 :: u50 :: u51 :: u52 :: u53 :: u54 :: u55 :: u56 :: u57 :: u58 :: u59 :: u60 :: u61 :: u62 :: u63 :: u64 :: u65 :: u66 :: u67 :: u68 :: u69 :: u70 :: u71 :: u72 :: u73 :: u74 :: u75 :: u76 :: u77 :: u78 :: u79 :: u80 :: u81 :: u82 :: u83 :: u84 :: u85 :: u86 :: u87 :: u88 :: u89 :: u90 :: u91 :: u92 :: u93 :: u94 :: u95 :: u96 :: u97 :: u98 :: u99 :: u100 :: u101 :: u102 :: u103 :: u104 :: u105 :: u106 :: u107 :: u108 :: u109 :: u110 :: u111 :: u112 :: u113 :: u114 :: u115 :: u116 :: u117 :: u118 :: u119 :: u120 :: u121 :: u122 :: u123 :: u124 :: u125 :: u126 :: u127 :: u128 :: u129 :: u130 :: u131 :: u132 :: u133 :: u134 :: u135 :: u136 :: u137 :: u138 :: u139 :: u140 :: u141 :: u142 :: u143 :: u144 :: u145 :: u146 :: u147 :: u148 :: u149 :: u150 :: u151 :: u152 :: u153 :: u154 :: u155 :: u156 :: u157 :: u158 :: u159 :: u160 :: u161 :: u162 :: u163 :: u164 :: u165 :: u166 :: u167 :: u168 :: u169 :: u170 :: u171 :: u172 :: u173 :: u174 :: u175 :: u176 :: u177 :: u178 :: u179 :: u180 :: u181 :: u182 :: u183 :: u184 :: u185 :: u186 :: u187 :: u188 :: u189 :: u190 :: u191 :: u192 :: u193 :: u194 :: u195 :: u196 :: u197 :: u198 :: u199 :: u200 :: u201 :: u202 :: u203 :: u204 :: u205 :: u206 :: u207 :: u208 :: u209 :: u210 :: u211 :: u212 :: u213 :: u214 :: u215 :: u216 :: u217 :: u218 :: u219 :: u220 :: u221 :: u222 :: u223 :: u224 :: u225 :: u226 :: u227 :: u228 :: u229 :: u230 :: u231 :: u232 :: u233 :: u234 :: u235 :: u236 :: u237 :: u238 :: u239 :: u240 :: u241 :: u242 :: u243 :: u244 :: u245 :: u246 :: u247 :: u248 :: u249 :: u250 :: u251 :: u252 :: u253 :: u254 :: u255 :: u256 :: u257 :: u258 :: u259 :: u260 :: u261 :: u262 :: u263 :: u264 :: u265 :: u266 :: u267 :: u268 :: u269 :: u270 :: u271 :: u272 :: u273 :: u274 :: u275 :: u276 :: u277 :: u278 :: u279 :: u280 :: u281 :: u282 :: u283 :: u284 :: u285 :: u286 :: u287 :: u288 :: u289 :: u290 :: u291 :: u292 :: u293 :: u294 :: u295 :: u296 :: u297 :: u298 :: u299 :: u300 :: u301 :: u302 :: u303 :: u304 :: u305 :: u306 :: u307 :: u308 :: u309 :: u310 :: u311 :: u312 :: u313 :: u314 :: u315 :: u316 :: u317 :: u318 :: u319 :: u320 :: u321 :: u322 :: u323 :: u324 :: u325 :: u326 :: u327 :: u328 :: u329 :: u330 :: u331 :: u332 :: u333 :: u334 :: u335 :: u336 :: u337 :: u338 :: u339 :: u340 :: u341 :: u342 :: u343 :: u344 :: u345 :: u346 :: u347 :: u348 :: u349 :: u350 :: u351 :: u352 :: u353 :: u354 :: u355 :: u356 :: u357 :: u358 :: u359 :: u360 :: u361 :: u362 :: u363 :: u364 :: u365 :: u366 :: u367 :: u368 :: u369 :: u370 :: u371 :: u372 :: u373 :: u374 :: u375 :: u376 :: u377 :: u378 :: u379 :: u380 :: u381 :: u382 :: u383 :: u384 :: u385 :: u386 :: u387 :: u388 :: u389 :: u390 :: u391 :: u392 :: u393 :: u394 :: u395 :: u396 :: u397 :: u398 :: u399 :: u400 :: u401 :: u402 :: u403 :: u404 :: u405 :: u406 :: u407 :: u408 :: u409 :: u410 :: u411 :: u412 :: u413 :: u414 :: u415 :: u416 :: u417 :: u418 :: u419 :: u420 :: u421 :: u422 :: u423 :: u424 :: u425 :: u426 :: u427 :: u428 :: u429 :: u430 :: u431 :: u432 :: u433 :: u434 :: u435 :: u436 :: u437 :: u438 :: u439 :: u440 :: u441 :: u442 :: u443 :: u444 :: u445 :: u446 :: u447 :: u448 :: u449 :: u450 :: u451 :: u452 :: u453 :: u454 :: u455 :: u456 :: u457 :: u458 :: u459 :: u460 :: u461 :: u462 :: u463 :: u464 :: u465 :: u466 :: u467 :: u468 :: u469 :: u470 :: u471 :: u472 :: u473 :: u474 :: u475 :: u476 :: u477 :: u478 :: u479 :: u480 :: u481 :: u482 :: u483 :: u484 :: u485 :: u486 :: u487 :: u488 :: u489 :: u490 :: u491 :: u492 :: u493 :: u494 :: []).toArray, []⟩ W := by
  obtain ⟨hV1, hV8⟩ := valid_V8 hv
  have hlen : b.gs.length ≤ 4 ∧ b.ps.length ≤ 4 := by
    unfold valid headOk at hv
    simp only [Bool.and_eq_true, decide_eq_true_eq] at hv
    exact ⟨hv.1.1.1.2, hv.1.1.2⟩
  have hW := hm.below hB
  obtain ⟨lo, hi, wh, bl, n, s, e, T⟩ := told hv
  refine more_r27 (b := b) (ga := ga) (pa := pa) (gc := gc) (pc := pc) (p4 := p4) rfl rfl bb hW ⟨by omega, by omega⟩ ?_
  intro vals W1 hB1 r0 r1
  rw [Fr_fast so27_ok rfl]
  show K _ _
  refine hK _ _ ?_
  have hB01 := hB.trans (hB1.mono hB.size)
  obtain ⟨a9, c9, rfl, g9⟩ := o9.at
  obtain ⟨a10, c10, rfl, g10⟩ := o10.at
  obtain ⟨a12, c12, rfl, g12⟩ := o12.at
  obtain ⟨a14, c14, rfl, g14⟩ := o14.at
  obtain ⟨a13, c13, rfl, g13⟩ := o13.at
  have hF := four (gc := gc) (pc := pc) (hW.below hB1) (by omega) (by omega) T
  have hX : BnAt W (addG b g) a9 pa := ⟨g9, hW.ps⟩
  have hY : BnAt W (addP b p) ga a10 := ⟨hW.gs, g10⟩
  have hZ : BnAt W q a11 pa := ⟨g11, by rw [hq.ps]; exact hW.ps⟩
  have hT : BnAt W (turnB b) a12 a14 := ⟨g12, g14⟩
  have hU : BnAt W (otherB b) a13 pa := ⟨g13, hW.ps⟩
  have hQX := q_c (c1 := c9) (c2 := pc) hv (hX.below hB1) (by show (b.gs ++ [g]).length ≤ 40; simp; omega) (by show b.ps.length ≤ 40; omega) rfl (fun _ => addG_sub b g) T
  have hQY := q_c (c1 := gc) (c2 := c10) hv (hY.below hB1) (by show b.gs.length ≤ 40; omega) (by show (b.ps ++ [p]).length ≤ 40; simp; omega) rfl (fun _ => addP_sub b p) T
  have hQZ := q_c (c1 := c11) (c2 := pc) hv (hZ.below hB1) (by rw [hq.len]; omega) (by rw [hq.ps]; omega) hq.V hq.sub T
  obtain ⟨lo2, hi2, wh2, bl2, n2, s2, e2, T2⟩ := told (turn_valid hv)
  obtain ⟨rfl, rfl, rfl, rfl, rfl, rfl, rfl⟩ := more_same hv (turn_valid hv) rfl (turn_holds b) T T2
  have ltg : (turnB b).gs.length = b.gs.length := by simp [turnB]
  have ltp : (turnB b).ps.length = b.ps.length := by simp [turnB]
  have hFT := four (gc := c12) (pc := c14) (hT.below hB1) (by rw [ltg]; omega) (by rw [ltp]; omega) T2
  have log : (otherB b).gs.length = b.gs.length := by simp [otherB]
  obtain ⟨loU, hiU, qU, hbU, hFU⟩ : ∃ loU hiU qU : Nat, (loU ≤ 8 ∧ hiU ≤ 8) ∧ (allO b = true → Four (bv (otherB b) a13 c13 pa pc) W1 loU hiU bl2 wh2 n2 qU e2 ∧ (e2 = 0 → (loU : Int) = b.V - hi2 ∧ (hiU : Int) = b.V - lo2)) := by
    cases ho : allO b
    · exact ⟨0, 0, 0, by omega, fun h => by cases h⟩
    · obtain ⟨lo3, hi3, wh3, bl3, n3, s3, e3, T3⟩ := told (other_valid hv ho)
      obtain ⟨rfl, rfl, rfl, rfl, h5⟩ := more_other hv ho T T3
      exact ⟨lo3, hi3, s3, ⟨T3.lt.1, T3.lt.2.1⟩, fun _ => ⟨four (gc := c13) (pc := pc) (hU.below hB1) (by rw [log]; omega) (by show b.ps.length ≤ 40; omega) T3, h5⟩⟩
  have mvZ : bv q a11 c11 pa pc = .agg #[.int .i64 b.V, .int .i64 b.nd, .int .i64 b.lo, .int .i64 b.hi, .slice a11 b.gs.length c11, .slice pa b.ps.length pc] := by unfold bv; rw [hq.V, hq.nd, hq.lo, hq.hi, hq.len, hq.ps]
  rw [mvZ] at hQZ
  refine more_tail Q (b := b) (w0 := w0) (zr := W.heap.size) (lo := lo2) (hi := hi2) (wh := wh2) (bl := bl2) (n := n2) (q := s2) (e := e2) (loU := loU) (hiU := hiU) (qU := qU) (ot := allO b) ⟨by omega, by omega⟩ ⟨hV1, hV8⟩ ⟨T.lt.1, T.lt.2.1, hbU.1, hbU.2⟩ ?_ hB01 hm (bb.below hB1 bb.lt) (B9.below hB1 B9.lt) (B10.below hB1 B10.lt) (B11.below hB1 B11.lt) (B12.below hB1 B12.lt) (B13.below hB1 B13.lt) ⟨r0, r1⟩ (by simp [Value.oneCell']) hF hQX hQY hQZ hFT hFU hexit
  rcases T.case with ⟨_, h, _⟩ | ⟨_, h, _⟩
  · exact .inl h
  · exact .inr h
end Go.Proofs.Ytjbjmoghloabpaa
set_option linter.unusedVariables false
set_option linter.unusedSimpArgs false
namespace Go.Proofs.Ytjbjmoghloabpaa
open Go.RowKit Go.Proofs
attribute [local irreducible] Ord.walk
noncomputable def mC9 : Code := mFrom 9 moreCode
set_option maxHeartbeats 40000000 in
set_option maxRecDepth 100000 in
theorem more_pairs {u0 u1 u2 u3 u5 u6 u7 u8 u14 u16 u17 u18 u19 u20 u21 u22 u23 u24 u25 u26 u27 u28 u29 u30 u31 u32 u33 u34 u35 u36 u37 u38 u39 u40 u41 u42 u43 u44 u45 u46 u47 u48 u49 u50 u51 u52 u53 u54 u55 u56 u57 u58 u59 u60 u61 u62 u63 u64 u65 u66 u67 u68 u69 u70 u71 u72 u73 u74 u75 u76 u77 u78 u79 u80 u81 u82 u83 u84 u85 u86 u87 u88 u89 u90 u91 u92 u93 u94 u95 u96 u97 u98 u99 u100 u101 u102 u103 u104 u105 u106 u107 u108 u109 u110 u111 u112 u113 u114 u115 u116 u117 u118 u119 u120 u121 u122 u123 u124 u125 u126 u127 u128 u129 u130 u131 u132 u133 u134 u135 u136 u137 u138 u139 u140 u141 u142 u143 u144 u145 u146 u147 u148 u149 u150 u151 u152 u153 u154 u155 u156 u157 u158 u159 u160 u161 u162 u163 u164 u165 u166 u167 u168 u169 u170 u171 u172 u173 u174 u175 u176 u177 u178 u179 u180 u181 u182 u183 u184 u185 u186 u187 u188 u189 u190 u191 u192 u193 u194 u195 u196 u197 u198 u199 u200 u201 u202 u203 u204 u205 u206 u207 u208 u209 u210 u211 u212 u213 u214 u215 u216 u217 u218 u219 u220 u221 u222 u223 u224 u225 u226 u227 u228 u229 u230 u231 u232 u233 u234 u235 u236 u237 u238 u239 u240 u241 u242 u243 u244 u245 u246 u247 u248 u249 u250 u251 u252 u253 u254 u255 u256 u257 u258 u259 u260 u261 u262 u263 u264 u265 u266 u267 u268 u269 u270 u271 u272 u273 u274 u275 u276 u277 u278 u279 u280 u281 u282 u283 u284 u285 u286 u287 u288 u289 u290 u291 u292 u293 u294 u295 u296 u297 u298 u299 u300 u301 u302 u303 u304 u305 u306 u307 u308 u309 u310 u311 u312 u313 u314 u315 u316 u317 u318 u319 u320 u321 u322 u323 u324 u325 u326 u327 u328 u329 u330 u331 u332 u333 u334 u335 u336 u337 u338 u339 u340 u341 u342 u343 u344 u345 u346 u347 u348 u349 u350 u351 u352 u353 u354 u355 u356 u357 u358 u359 u360 u361 u362 u363 u364 u365 u366 u367 u368 u369 u370 u371 u372 u373 u374 u375 u376 u377 u378 u379 u380 u381 u382 u383 u384 u385 u386 u387 u388 u389 u390 u391 u392 u393 u394 u395 u396 u397 u398 u399 u400 u401 u402 u403 u404 u405 u406 u407 u408 u409 u410 u411 u412 u413 u414 u415 u416 u417 u418 u419 u420 u421 u422 u423 u424 u425 u426 u427 u428 u429 u430 u431 u432 u433 u434 u435 u436 u437 u438 u439 u440 u441 u442 u443 u444 u445 u446 u447 u448 u449 u450 u451 u452 u453 u454 u455 u456 u457 u458 u459 u460 u461 u462 u463 u464 u465 u466 u467 u468 u469 u470 u471 u472 u473 u474 u475 u476 u477 u478 u479 u480 u481 u482 u483 u484 u485 u486 u487 u488 u489 u490 u491 u492 u493 u494 : Value} (Q : Exit → Act → World → Prop) {b q : Bn} {g : Int × Int × Int} {p : Int × Int × Bool} {ga pa : Option Addr} {gc pc : Nat} {w0 W : World} {p4 p9 p10 p11 p12 p13 z9 z10 z11 z12 z13 : Nat} {u9 u10 u11 u12 u13 : Value} (hv : valid b = true) (hne : p4 ≠ p12 ∧ p9 ≠ p12 ∧ p10 ≠ p12 ∧ p11 ≠ p12 ∧ p13 ≠ p12) (hz12 : w0.heap.size ≤ p12)
    (hB : Below w0.heap.size w0 W) (hm : BnAt w0 b ga pa) (bb : Blk W p4 #[.int .i64 b.V, .int .i64 b.nd, .int .i64 b.lo, .int .i64 b.hi, .slice ga b.gs.length gc, .slice pa b.ps.length pc] 27) (B9 : Blk W p9 #[.int .i64 b.V, .int .i64 b.nd, .int .i64 b.lo, .int .i64 b.hi, u9, .slice pa b.ps.length pc] 27) (o9 : OwnG W z9 u9 (b.gs ++ [g])) (B10 : Blk W p10 #[.int .i64 b.V, .int .i64 b.nd, .int .i64 b.lo, .int .i64 b.hi, .slice ga b.gs.length gc, u10] 27) (o10 : OwnP W z10 u10 (b.ps ++ [p]))
    (B11 : Blk W p11 #[.int .i64 b.V, .int .i64 b.nd, .int .i64 b.lo, .int .i64 b.hi, u11, .slice pa b.ps.length pc] 27) (o11 : CopyV W z11 49 3 gcell q.gs u11) (hq : Near b q)
    (B12 : Blk W p12 #[.int .i64 b.V, .int .i64 b.nd, .int .i64 b.lo, .int .i64 b.hi, u12, .slice none 0 0] 27) (o12 : OwnG W z12 u12 (turnB b).gs)
    (B13 : Blk W p13 #[.int .i64 b.V, .int .i64 b.nd, .int .i64 (b.V - b.hi), .int .i64 (b.V - b.lo), u13, .slice pa b.ps.length pc] 27) (o13 : OwnG W z13 u13 (otherB b).gs)
    (hexit : ∀ (tm : Array Value) W', tm[8]? = some (.bool true) → Below w0.heap.size w0 W' → Q .ret ⟨tm, []⟩ W') :
    mC9.wp Try.prog Q ⟨(u0 :: u1 :: u2 :: u3 :: .pointer (some ⟨p4, 0, none⟩) :: u5 :: u6 :: u7 :: u8 :: .pointer (some ⟨p9, 0, none⟩) :: .pointer (some ⟨p10, 0, none⟩) :: .pointer (some ⟨p11, 0, none⟩) :: .pointer (some ⟨p12, 0, none⟩) :: .pointer (some ⟨p13, 0, none⟩) :: u14 :: .bool (allO b) :: u16 :: u17 :: u18 :: u19 :: u20 :: u21 :: u22 :: u23 :: u24 :: u25 :: u26 :: u27 :: u28 :: u29 :: u30 :: u31 :: u32 :: u33 :: u34 :: u35 :: u36 :: u37 :: u38 :: u39 :: u40 :: u41 :: u42 :: u43 :: u44 :: u45 :: u46 :: u47 :: u48 :: u49 :: u50 :: u51 :: u52 :: u53 :: u54 :: u55 :: u56 :: u57 :: u58 :: u59 :: u60 :: u61 :: u62 :: u63 :: u64 :: u65 :: u66 :: u67 :: u68 :: u69 :: u70 :: u71 :: u72 :: u73 :: u74 :: u75 :: u76 :: u77 :: u78 :: u79 :: u80 :: u81 :: u82 :: u83 :: u84 :: u85 :: u86 :: u87 :: u88 :: u89 :: u90 :: u91 :: u92 :: u93 :: u94 :: u95 :: u96 :: u97 :: u98 :: u99 :: u100 :: u101 :: u102 :: u103 :: u104 :: u105 :: u106 :: u107 :: u108 :: u109 :: u110 :: u111 :: u112 :: u113 :: u114 :: u115 :: u116 :: u117 :: u118 :: u119 :: u120 :: u121 :: u122 :: u123 :: u124 :: u125 :: u126 :: u127 :: u128 :: u129 :: u130 :: u131 :: u132 :: u133 :: u134 :: u135 :: u136 :: u137 :: u138 :: u139 :: u140 :: u141 :: u142 :: u143 :: u144 :: u145 :: u146 :: u147 :: u148 :: u149 :: u150 :: u151 :: u152 :: u153 :: u154 :: u155 :: u156 :: u157 :: u158 :: u159 :: u160 :: u161 :: u162 :: u163 :: u164 :: u165 :: u166 :: u167 :: u168 :: u169 :: u170 :: u171 :: u172 :: u173 :: u174 :: u175 :: u176 :: u177 :: u178 :: u179 :: u180 :: u181 :: u182 :: u183 :: u184 :: u185 :: u186 :: u187 :: u188 :: u189 :: u190 :: u191 :: u192 :: u193 :: u194 :: u195 :: u196 :: u197 :: u198 :: u199 :: u200 :: u201 :: u202 :: u203 :: u204 :: u205 :: u206 :: u207 :: u208 :: u209 :: u210 :: u211 :: u212 :: u213 :: u214 :: u215 :: u216 :: u217 :: u218 :: u219 :: u220 :: u221 :: u222 :: u223 :: u224 :: u225 :: u226 :: u227 :: u228 :: u229 :: u230 :: u231 :: u232 :: u233 :: u234 :: u235 :: u236 :: u237 :: u238 :: u239 :: u240 :: u241 :: u242 :: u243 :: u244 :: u245 :: u246 :: u247 :: u248 :: u249 :: u250 :: u251 :: u252 :: u253 :: u254 :: u255 :: u256 :: u257 :: u258 :: u259 :: u260 :: u261 :: u262 :: u263 :: u264 :: u265 :: u266 :: u267 :: u268 :: u269 :: u270 :: u271 :: u272 :: u273 :: u274 :: u275 :: u276 :: u277 :: u278 :: u279 :: u280 :: u281 :: u282 :: u283 :: u284 :: u285 :: u286 :: u287 :: u288 :: u289 :: u290 :: u291 :: u292 :: u293 :: u294 :: u295 :: u296 :: u297 :: u298 :: u299 :: u300 :: u301 :: u302 :: u303 :: u304 :: u305 :: u306 :: u307 :: u308 :: u309 :: u310 :: u311 :: u312 :: u313 :: u314 :: u315 :: u316 :: u317 :: u318 :: u319 :: u320 :: u321 :: u322 :: u323 :: u324 :: u325 :: u326 :: u327 :: u328 :: u329 :: u330 :: u331 :: u332 :: u333 :: u334 :: u335 :: u336 :: u337 :: u338 :: u339 :: u340 :: u341 :: u342 :: u343 :: u344 :: u345 :: u346 :: u347 :: u348 :: u349 :: u350 :: u351 :: u352 :: u353 :: u354 :: u355 :: u356 :: u357 :: u358 :: u359 :: u360 :: u361 :: u362 :: u363 :: u364 :: u365 :: u366 :: u367 :: u368 :: u369 :: u370 :: u371 :: u372 :: u373 :: u374 :: u375 :: u376 :: u377 :: u378 :: u379 :: u380 :: u381 :: u382 :: u383 :: u384 :: u385 :: u386 :: u387 :: u388 :: u389 :: u390 :: u391 :: u392 :: u393 :: u394 :: u395 :: u396 :: u397 :: u398 :: u399 :: u400 :: u401 :: u402 :: u403 :: u404 :: u405 :: u406 :: u407 :: u408 :: u409 :: u410 :: u411 :: u412 :: u413 :: u414 :: u415 :: u416 :: u417 :: u418 :: u419 :: u420 :: u421 :: u422 :: u423 :: u424 :: u425 :: u426 :: u427 :: u428 :: u429 :: u430 :: u431 :: u432 :: u433 :: u434 :: u435 :: u436 :: u437 :: u438 :: u439 :: u440 :: u441 :: u442 :: u443 :: u444 :: u445 :: u446 :: u447 :: u448 :: u449 :: u450 :: u451 :: u452 :: u453 :: u454 :: u455 :: u456 :: u457 :: u458 :: u459 :: u460 :: u461 :: u462 :: u463 :: u464 :: u465 :: u466 :: u467 :: u468 :: u469 :: u470 :: u471 :: u472 :: u473 :: u474 :: u475 :: u476 :: u477 :: u478 :: u479 :: u480 :: u481 :: u482 :: u483 :: u484 :: u485 :: u486 :: u487 :: u488 :: u489 :: u490 :: u491 :: u492 :: u493 :: u494 :: []).toArray, []⟩ W := by
  have HE := Lib.hid hexit
  have HV := Lib.hid hv
  have HQN := Lib.hid hq
  have HMR : Hid (∀ W, Below w0.heap.size w0 W → BnAt W b ga pa) := fun W h => hm.below h
  have HM0 := Lib.hid hm
  have hl4 : b.ps.length ≤ 4 := by
    unfold valid headOk at hv
    simp only [Bool.and_eq_true, decide_eq_true_eq] at hv
    exact hv.1.1.2
  have HSv : Hid (∀ k, (h : k < b.ps.length) → ∃ j, ∃ hj : j < b.ps.length, (b.ps.length : Int) - 1 - (k : Int) = (j : Int) ∧ (turnB b).ps.take (k + 1) = (turnB b).ps.take k ++ [swP b.ps[j]]) := fun k h => ⟨b.ps.length - 1 - k, by omega, by omega, by
    have hl : k < (turnB b).ps.length := by simp [turnB]; exact h
    rw [List.take_succ_eq_append_getElem hl]
    simp [turnB, List.getElem_reverse]⟩
  have hfl : (turnB b).ps.length = b.ps.length := by simp [turnB]
  have HFL := Lib.hid hfl
  clear hexit hv hm hq hfl
  obtain ⟨is, his, hzs0, hzs1, hzs2⟩ := info_of Try.info54
  have hsi4 : (b.ps.length : Int) ≤ 4 := by omega
  obtain ⟨we, hwe⟩ : ∃ we, W = we := ⟨_, rfl⟩
  rw [hwe] at bb B9 B10 B11 B12 B13 o9 o10 o11 o12 o13 hB ⊢
  clear hwe W
  obtain ⟨zd, hzd'⟩ : ∃ z, we.heap.size = z := ⟨_, rfl⟩
  have hzd : we.heap.size ≤ zd ∧ zd ≤ we.heap.size := by omega
  clear hzd'
  have hl12e := B12.lt
  have rb := bb.cell
  have hBs := hB.size
  conv => arg 2; whnf
  go_wp2_with fail
  clear rb
  go_loopw [19, 20, 185] (fun x19 x20 x185 wr => ∃ (k : Nat) (v : Value), k ≤ b.ps.length ∧ x185 = .int .i64 (k : Int) ∧ Off [p12] zd we wr ∧ Blk wr p12 #[.int .i64 b.V, .int .i64 b.nd, .int .i64 b.lo, .int .i64 b.hi, u12, v] 27 ∧ wr.ownsRow zd 54 3 v ((turnB b).ps.take k).length (((turnB b).ps.take k).flatMap pcell)) (fun _ _ x185 _ => b.ps.length - (intOf x185).toNat)
  case atStart => exact ⟨0, .slice none 0 0, by omega, rfl, Off.refl _ _ _, B12, by simpa using World.ownsRow_nil _ _ _ _⟩
  case round =>
    as_aux_lemma =>
      obtain ⟨k, v, hk, rfl, hO, F12, own⟩ := hrel
      have hsO := hO.size
      have hBk : Below w0.heap.size w0 wr := hB.trans (hO.below (by omega) (by simp; omega))
      by_cases hlt : k < b.ps.length
      · have hlti : (k : Int) < (b.ps.length : Int) := Int.ofNat_lt.2 hlt
        obtain ⟨j, hj, hji, hta⟩ := HSv.out k hlt
        have hjl : (j : Int) < (b.ps.length : Int) := Int.ofNat_lt.2 hj
        obtain ⟨gs, gos, rfl, c1, c2, c3⟩ := (HMR.out _ hBk).ps j hj
        have bbr := hO.blk bb (by have := bb.lt; omega) (by simp; omega)
        have rb := bbr.cell
        have hkl : ((turnB b).ps.take k).length = k := by rw [List.length_take, HFL.out]; omega
        rw [hkl] at own
        have HTA := Lib.hid hta
        clear hta hkl
        obtain ⟨h1, h2, h3, hje⟩ : ∃ (h1 h2 : Int) (h3 : Bool), b.ps[j] = (h1, h2, h3) := ⟨_, _, _, rfl⟩
        rw [hje] at c1 c2 c3
        simp only at c1 c2 c3
        have hl12r : p12 < wr.heap.size := F12.lt
        have r12 := F12.cell
        have hgv : ∀ gg, v.ownBlock = some gg → zd ≤ gg := fun gg e => (own.lt gg e).1
        have hk5 : k ≤ 5 := by omega
        go_wp2_with (first
          | (refine wpList_store_blk 54 (.tmp 20) (.tmp 197) agg_pairX rfl rfl rfl rfl (Blk.new _ _ _) rfl rfl (by simp [Value.oneCell']) ?_; intro wx h; refine at_stop ?_))
        unfold Stop
        have b20 := h.blk
        have hbx : Below wr.heap.size wr wx := h.below ((Below.refl _ _).alloc (Nat.le_refl _) _) (Nat.le_refl _)
        have hgv2 : ∀ gg, v.ownBlock = some gg → gg < wr.heap.size := fun gg e => (own.lt gg e).2
        have F12x := F12.below hbx hl12r
        have ownx := ownsRow_below own hbx
        have hOx : Off [p12] zd we wx := hO.trans (Off.of_below hbx (by omega))
        have hsx := hbx.size
        have l20 := b20.lt
        obtain ⟨p20, hp20⟩ : ∃ p, wr.heap.size = p := ⟨_, rfl⟩
        rw [hp20] at b20 hgv2 hl12r l20 hsx
        try simp only [hp20]
        have rbx := (bbr.below hbx bbr.lt).cell
        have hzp : zd ≤ p20 := by rw [← hp20]; omega
        clear h hp20 F12 own hO hbx rb r12 c1 c2 c3 bbr hBk hsO
        have r12 := F12x.cell
        have r20 := b20.cell
        have f20 := b20.free
        obtain ⟨wz, hwz⟩ : ∃ wz, (wx.setCell ⟨p20, 0, none⟩ (.int .i64 h2)).setCell ⟨p20, 1, none⟩ (.int .i64 h1) = wz := ⟨_, rfl⟩
        have hOz : Off [p20] wx.heap.size wx wz := by rw [← hwz]; exact ((Off.refl _ _ _).setCell (.inl (by simp)) _).setCell (.inl (by simp)) _
        have b20z : Blk wz p20 #[.int .i64 h2, .int .i64 h1, .bool h3] 54 := by rw [← hwz]; exact (b20.set 0 _).set 1 _
        have f20z := (b20.set 0 (.int .i64 h2)).free
        have F12z := hOz.blk F12x F12x.lt (by simp; omega)
        have ownz := ownsRow_offN ownx hOz (fun gg e => by have := hgv2 gg e; simp; omega)
        have hOwz : Off [p12] zd we wz := hOx.trans (hOz.mono (by omega) (fun k hk hm => by simp at hm; omega))
        have hszz := hOz.size
        go_upto_region 25 with fail
        (try rw [hwz])
        clear hwz r12 r20 f20 f20z b20 F12x ownx hOz hOx rbx
        have r12 := F12z.cell
        go_wp2_with (first
          | (refine wpList_load_blk 54 (.tmp 20) agg_pairX rfl rfl rfl b20z rfl ?_)
          | (at_builtin; refine at_stop ?_))
        unfold Stop
        refine wpList_appendW rfl (.tmp 205) (.tmp 207) 25 rfl zd 54 is (.agg #[.int .i64 0, .int .i64 0, .bool false]) 3 24 Try.underlying25 his hzs0 hzs1 hzs2 rfl (by decide) v k (((turnB b).ps.take k).flatMap pcell) rfl (World.ownsRow.alloc ownz _) (.slice (some ⟨_, 0, none⟩) 1 1) 1 (pcell (h2, h1, h3)) rfl ⟨rfl, .inr ⟨_, _, rfl, news_blk (A := #[.int .i64 h2, .int .i64 h1, .bool h3]) (Blk.new wz _ _)⟩⟩ (by intro u hu; simp [pcell] at hu; rcases hu with rfl | rfl | rfl <;> rfl) (by unfold maxLen; omega) (by omega) (by simp; omega) ?_
        intro va wa owna hga hwa
        obtain ⟨gy, cy, rfl⟩ := own_slice owna (by omega)
        have F12a : Blk wa p12 #[.int .i64 b.V, .int .i64 b.nd, .int .i64 b.lo, .int .i64 b.hi, u12, v] 27 := (hga.block p12 (by have := F12z.lt; simp; omega) (fun e => by have := hgv _ e.symm; omega)).trans (F12z.alloc _)
        have ra := F12a.cell
        have fa := F12a.free
        have hOa : Off [p12] zd we wa := Off.grown (hOwz.alloc (by omega) _) hga (by simp; omega) (fun gg e => .inr (hgv gg e))
        clear r12
        go_wp2_with fail
        refine ⟨⟨k + 1, _, by omega, by go_num, hOa.setCell (.inl (by simp)) _, F12a.set 5 _, ?_⟩, by simp [intOf]; omega⟩
        have hl : ((turnB b).ps.take (k + 1)).length = k + 1 := by rw [List.length_take, HFL.out]; omega
        have ho2 := ownsRow_offN owna ((Off.refl [p12] wa.heap.size wa).setCell (p := ⟨p12, 5, none⟩) (.inl (by simp)) (.slice (some ⟨gy, 0, none⟩) (k + 1) cy)) (fun gg e => by have := (owna.lt gg e).1; simp; omega)
        rw [hl, HTA.out, List.flatMap_append, hje]
        simpa [swP] using ho2
      · have hlti : ¬ (k : Int) < (b.ps.length : Int) := by omega
        have hta : (turnB b).ps.take k = (turnB b).ps := List.take_of_length_le (by rw [HFL.out]; omega)
        rw [hta] at own
        have mvb : ∀ {x : Nat} {C : Array Value} {t : TypeId}, Blk we x C t → x ≠ p12 → Blk wr x C t := fun h h1 => hO.blk h (by have := h.lt; omega) (by simp; omega)
        have mvo : ∀ {z n s : Nat} {e : TypeId} {v : Value} {xs : List Value}, we.ownsRow z e s v n xs → e ≠ 27 → wr.ownsRow z e s v n xs := fun o he => own_move o (Nat.le_refl _) (fun gg hg => hO.block gg (by have := (o.lt gg hg).2; omega) (by simp; exact fun e' => own_ne_blk o B12 he (by rw [hg, e'])))
        replace bb := mvb bb (by omega)
        replace B9 := mvb B9 (by omega)
        replace B10 := mvb B10 (by omega)
        replace B11 := mvb B11 (by omega)
        replace B13 := mvb B13 (by omega)
        replace o9 : OwnG wr z9 u9 (b.gs ++ [g]) := mvo o9 (by decide)
        replace o10 : OwnP wr z10 u10 (b.ps ++ [p]) := mvo o10 (by decide)
        replace o12 : OwnG wr z12 u12 (turnB b).gs := mvo o12 (by decide)
        replace o13 : OwnG wr z13 u13 (otherB b).gs := mvo o13 (by decide)
        replace o11 := o11.move (fun gg cur _ hb => mvb hb (blk_ne hb B12 (by decide)))
        obtain ⟨a11, c11, rfl, g11⟩ := CopyV.rows (n := 3) (f := gcell) (fun _ => rfl) o11
        clear mvb mvo hO hsO hta B12 hk
        rw [HQN.out.len] at B11
        go_upto_region 27 with fail
        rename_i K27 hK27
        refine more_mid Q HV.out hBk HM0.out bb B9 o9 B10 o10 B11 (gs_rows g11) HQN.out F12 o12 own B13 o13 HE.out K27 hK27
end Go.Proofs.Ytjbjmoghloabpaa
