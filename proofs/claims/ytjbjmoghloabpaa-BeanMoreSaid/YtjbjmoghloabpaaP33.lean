/- Parts of a proof: MoreM. -/
import Derived.Test.YtjbjmoghloabpaaP31
import Derived.Test.YtjbjmoghloabpaaP32
set_option linter.unusedVariables false
set_option linter.unusedSimpArgs false
namespace Go.Proofs.Ytjbjmoghloabpaa
open Go.RowKit Go.Proofs
attribute [local irreducible] Ord.walk
noncomputable def mC8 : Code := mFrom 8 moreCode
theorem max2_runX (a b : Int) (W : World) : (Builtin.max2 (.int .i64 a) (.int .i64 b)).run Try.prog W = .ok (.int .i64 (max a b)) W := by
  by_cases h : b > a
  · have : max a b = b := by omega
    simp [Builtin.max2, go_sem, h, this]
  · have : max a b = a := by omega
    simp [Builtin.max2, go_sem, h, this]
theorem wpList_max2X {ops : Array Oper} {Q : Exit → Act → World → Prop} {o : Oper} {rest : List Oper} {a : Act} {w : World} (x y : Operand) (hgd : o.guard = none) (ho : o.op = .call { callee := .builtin .max, args := [x, y].toArray, argTypes := #[3, 3] }) {p q : Int} (hx : a.eval x = .int .i64 p) (hy : a.eval y = .int .i64 q)
    (hK : wpList Try.prog ops Q rest (a.put o.dst (.int .i64 (max p q))) w) : wpList Try.prog ops Q (o :: rest) a w := by
  refine wpList_plain hgd fun K' hK' => ?_
  have := hK' _ _ hK
  unfold Oper.wp
  generalize a.eval = ev at *
  simp [execOp, ho, hx, hy, Builtin.max_, go_sem, max2_runX, Result.andThen]
  exact this
set_option maxHeartbeats 40000000 in
set_option maxRecDepth 100000 in
theorem fr18 {y0 y1 y2 y3 y4 y5 y6 y7 y8 y9 y10 y11 y12 y13 y14 y15 y16 y17 y18 y19 y20 y21 y22 y23 y24 y25 y26 y27 y28 y29 y30 y31 y32 y33 y34 y35 y36 y37 y38 y39 y40 y41 y42 y43 y44 y45 y46 y47 y48 y49 y50 y51 y52 y53 y54 y55 y56 y57 y58 y59 y60 y61 y62 y63 y64 y65 y66 y67 y68 y69 y70 y71 y72 y73 y74 y75 y76 y77 y78 y79 y80 y81 y82 y83 y84 y85 y86 y87 y88 y89 y90 y91 y92 y93 y94 y95 y96 y97 y98 y99 y100 y101 y102 y103 y104 y105 y106 y107 y108 y109 y110 y111 y112 y113 y114 y115 y116 y117 y118 y119 y120 y121 y122 y123 y124 y125 y126 y127 y128 y129 y130 y131 y132 y133 y134 y135 y136 y137 y138 y139 y140 y141 y142 y143 y144 y145 y146 y147 y148 y149 y150 y151 y152 y153 y154 y155 y156 y157 y158 y159 y160 y161 y162 y163 y164 y165 y166 y167 y168 y169 y170 y171 y172 y173 y174 y175 y176 y177 y178 y179 y180 y181 y182 y183 y184 y185 y186 y187 y188 y189 y190 y191 y192 y193 y194 y195 y196 y197 y198 y199 y200 y201 y202 y203 y204 y205 y206 y207 y208 y209 y210 y211 y212 y213 y214 y215 y216 y217 y218 y219 y220 y221 y222 y223 y224 y225 y226 y227 y228 y229 y230 y231 y232 y233 y234 y235 y236 y237 y238 y239 y240 y241 y242 y243 y244 y245 y246 y247 y248 y249 y250 y251 y252 y253 y254 y255 y256 y257 y258 y259 y260 y261 y262 y263 y264 y265 y266 y267 y268 y269 y270 y271 y272 y273 y274 y275 y276 y277 y278 y279 y280 y281 y282 y283 y284 y285 y286 y287 y288 y289 y290 y291 y292 y293 y294 y295 y296 y297 y298 y299 y300 y301 y302 y303 y304 y305 y306 y307 y308 y309 y310 y311 y312 y313 y314 y315 y316 y317 y318 y319 y320 y321 y322 y323 y324 y325 y326 y327 y328 y329 y330 y331 y332 y333 y334 y335 y336 y337 y338 y339 y340 y341 y342 y343 y344 y345 y346 y347 y348 y349 y350 y351 y352 y353 y354 y355 y356 y357 y358 y359 y360 y361 y362 y363 y364 y365 y366 y367 y368 y369 y370 y371 y372 y373 y374 y375 y376 y377 y378 y379 y380 y381 y382 y383 y384 y385 y386 y387 y388 y389 y390 y391 y392 y393 y394 y395 y396 y397 y398 y399 y400 y401 y402 y403 y404 y405 y406 y407 y408 y409 y410 y411 y412 y413 y414 y415 y416 y417 y418 y419 y420 y421 y422 y423 y424 y425 y426 y427 y428 y429 y430 y431 y432 y433 y434 y435 y436 y437 y438 y439 y440 y441 y442 y443 y444 y445 y446 y447 y448 y449 y450 y451 y452 y453 y454 y455 y456 y457 y458 y459 y460 y461 y462 y463 y464 y465 y466 y467 y468 y469 y470 y471 y472 y473 y474 y475 y476 y477 y478 y479 y480 y481 y482 y483 y484 y485 y486 y487 y488 y489 y490 y491 y492 y493 y494 : Value} (vals : Nat → Value) : Ord.Fr m18 (y0 :: y1 :: y2 :: y3 :: y4 :: y5 :: y6 :: y7 :: y8 :: y9 :: y10 :: y11 :: y12 :: y13 :: y14 :: y15 :: y16 :: y17 :: y18 :: y19 :: y20 :: y21 :: y22 :: y23 :: y24 :: y25 :: y26 :: y27 :: y28 :: y29 :: y30 :: y31 :: y32 :: y33 :: y34 :: y35 :: y36 :: y37 :: y38 :: y39 :: y40 :: y41 :: y42 :: y43 :: y44 :: y45 :: y46 :: y47 :: y48 :: y49 :: y50 :: y51 :: y52 :: y53 :: y54 :: y55 :: y56 :: y57 :: y58 :: y59 :: y60 :: y61 :: y62 :: y63 :: y64 :: y65 :: y66 :: y67 :: y68 :: y69 :: y70 :: y71 :: y72 :: y73 :: y74 :: y75 :: y76 :: y77 :: y78 :: y79 :: y80 :: y81 :: y82 :: y83 :: y84 :: y85 :: y86 :: y87 :: y88 :: y89 :: y90 :: y91 :: y92 :: y93 :: y94 :: y95 :: y96 :: y97 :: y98 :: y99 :: y100 :: y101 :: y102 :: y103 :: y104 :: y105 :: y106 :: y107 :: y108 :: y109 :: y110 :: y111 :: y112 :: y113 :: y114 :: y115 :: y116 :: y117 :: y118 :: y119 :: y120 :: y121 :: y122 :: y123 :: y124 :: y125 :: y126 :: y127 :: y128 :: y129 :: y130 :: y131 :: y132 :: y133 :: y134 :: y135 :: y136 :: y137 :: y138 :: y139 :: y140 :: y141 :: y142 :: y143 :: y144 :: y145 :: y146 :: y147 :: y148 :: y149 :: y150 :: y151 :: y152 :: y153 :: y154 :: y155 :: y156 :: y157 :: y158 :: y159 :: y160 :: y161 :: y162 :: y163 :: y164 :: y165 :: y166 :: y167 :: y168 :: y169 :: y170 :: y171 :: y172 :: y173 :: y174 :: y175 :: y176 :: y177 :: y178 :: y179 :: y180 :: y181 :: y182 :: y183 :: y184 :: y185 :: y186 :: y187 :: y188 :: y189 :: y190 :: y191 :: y192 :: y193 :: y194 :: y195 :: y196 :: y197 :: y198 :: y199 :: y200 :: y201 :: y202 :: y203 :: y204 :: y205 :: y206 :: y207 :: y208 :: y209 :: y210 :: y211 :: y212 :: y213 :: y214 :: y215 :: y216 :: y217 :: y218 :: y219 :: y220 :: y221 :: y222 :: y223 :: y224 :: y225 :: y226 :: y227 :: y228 :: y229 :: y230 :: y231 :: y232 :: y233 :: y234 :: y235 :: y236 :: y237 :: y238 :: y239 :: y240 :: y241 :: y242 :: y243 :: y244 :: y245 :: y246 :: y247 :: y248 :: y249 :: y250 :: y251 :: y252 :: y253 :: y254 :: y255 :: y256 :: y257 :: y258 :: y259 :: y260 :: y261 :: y262 :: y263 :: y264 :: y265 :: y266 :: y267 :: y268 :: y269 :: y270 :: y271 :: y272 :: y273 :: y274 :: y275 :: y276 :: y277 :: y278 :: y279 :: y280 :: y281 :: y282 :: y283 :: y284 :: y285 :: y286 :: y287 :: y288 :: y289 :: y290 :: y291 :: y292 :: y293 :: y294 :: y295 :: y296 :: y297 :: y298 :: y299 :: y300 :: y301 :: y302 :: y303 :: y304 :: y305 :: y306 :: y307 :: y308 :: y309 :: y310 :: y311 :: y312 :: y313 :: y314 :: y315 :: y316 :: y317 :: y318 :: y319 :: y320 :: y321 :: y322 :: y323 :: y324 :: y325 :: y326 :: y327 :: y328 :: y329 :: y330 :: y331 :: y332 :: y333 :: y334 :: y335 :: y336 :: y337 :: y338 :: y339 :: y340 :: y341 :: y342 :: y343 :: y344 :: y345 :: y346 :: y347 :: y348 :: y349 :: y350 :: y351 :: y352 :: y353 :: y354 :: y355 :: y356 :: y357 :: y358 :: y359 :: y360 :: y361 :: y362 :: y363 :: y364 :: y365 :: y366 :: y367 :: y368 :: y369 :: y370 :: y371 :: y372 :: y373 :: y374 :: y375 :: y376 :: y377 :: y378 :: y379 :: y380 :: y381 :: y382 :: y383 :: y384 :: y385 :: y386 :: y387 :: y388 :: y389 :: y390 :: y391 :: y392 :: y393 :: y394 :: y395 :: y396 :: y397 :: y398 :: y399 :: y400 :: y401 :: y402 :: y403 :: y404 :: y405 :: y406 :: y407 :: y408 :: y409 :: y410 :: y411 :: y412 :: y413 :: y414 :: y415 :: y416 :: y417 :: y418 :: y419 :: y420 :: y421 :: y422 :: y423 :: y424 :: y425 :: y426 :: y427 :: y428 :: y429 :: y430 :: y431 :: y432 :: y433 :: y434 :: y435 :: y436 :: y437 :: y438 :: y439 :: y440 :: y441 :: y442 :: y443 :: y444 :: y445 :: y446 :: y447 :: y448 :: y449 :: y450 :: y451 :: y452 :: y453 :: y454 :: y455 :: y456 :: y457 :: y458 :: y459 :: y460 :: y461 :: y462 :: y463 :: y464 :: y465 :: y466 :: y467 :: y468 :: y469 :: y470 :: y471 :: y472 :: y473 :: y474 :: y475 :: y476 :: y477 :: y478 :: y479 :: y480 :: y481 :: y482 :: y483 :: y484 :: y485 :: y486 :: y487 :: y488 :: y489 :: y490 :: y491 :: y492 :: y493 :: y494 :: []).toArray vals = (y0 :: y1 :: y2 :: y3 :: y4 :: y5 :: y6 :: y7 :: y8 :: y9 :: y10 :: y11 :: y12 :: y13 :: y14 :: vals 14 :: y16 :: y17 :: y18 :: y19 :: y20 :: y21 :: y22 :: y23 :: y24 :: y25 :: y26 :: y27 :: y28 :: y29 :: y30 :: y31 :: y32 :: y33 :: y34 :: y35 :: y36 :: y37 :: y38 :: y39 :: y40 :: y41 :: y42 :: y43 :: y44 :: y45 :: y46 :: y47 :: y48 :: y49 :: y50 :: y51 :: y52 :: y53 :: y54 :: y55 :: y56 :: y57 :: y58 :: y59 :: y60 :: y61 :: y62 :: y63 :: y64 :: y65 :: y66 :: y67 :: y68 :: y69 :: y70 :: y71 :: y72 :: y73 :: y74 :: y75 :: y76 :: y77 :: y78 :: y79 :: y80 :: y81 :: y82 :: y83 :: y84 :: y85 :: y86 :: y87 :: y88 :: y89 :: y90 :: y91 :: y92 :: y93 :: y94 :: y95 :: y96 :: y97 :: y98 :: y99 :: y100 :: y101 :: y102 :: y103 :: y104 :: y105 :: y106 :: y107 :: y108 :: y109 :: y110 :: y111 :: y112 :: y113 :: y114 :: y115 :: y116 :: y117 :: y118 :: y119 :: y120 :: y121 :: y122 :: y123 :: y124 :: y125 :: y126 :: y127 :: y128 :: y129 :: y130 :: y131 :: y132 :: y133 :: y134 :: y135 :: y136 :: y137 :: y138 :: y139 :: y140 :: y141 :: y142 :: y143 :: y144 :: y145 :: y146 :: y147 :: y148 :: y149 :: y150 :: y151 :: y152 :: y153 :: y154 :: y155 :: y156 :: y157 :: y158 :: y159 :: y160 :: y161 :: y162 :: y163 :: y164 :: y165 :: y166 :: y167 :: vals 0 :: vals 1 :: vals 2 :: vals 3 :: vals 4 :: vals 5 :: vals 6 :: vals 7 :: vals 8 :: vals 9 :: vals 10 :: vals 11 :: vals 12 :: y181 :: y182 :: y183 :: y184 :: y185 :: y186 :: y187 :: y188 :: y189 :: y190 :: y191 :: y192 :: y193 :: y194 :: y195 :: y196 :: y197 :: y198 :: y199 :: y200 :: y201 :: y202 :: y203 :: y204 :: y205 :: y206 :: y207 :: y208 :: y209 :: y210 :: y211 :: y212 :: y213 :: y214 :: y215 :: y216 :: y217 :: y218 :: y219 :: y220 :: y221 :: y222 :: y223 :: y224 :: y225 :: y226 :: y227 :: y228 :: y229 :: y230 :: y231 :: y232 :: y233 :: y234 :: y235 :: y236 :: y237 :: y238 :: y239 :: y240 :: y241 :: y242 :: y243 :: y244 :: y245 :: y246 :: y247 :: y248 :: y249 :: y250 :: y251 :: y252 :: y253 :: y254 :: y255 :: y256 :: y257 :: y258 :: y259 :: y260 :: y261 :: y262 :: y263 :: y264 :: y265 :: y266 :: y267 :: y268 :: y269 :: y270 :: y271 :: y272 :: y273 :: y274 :: y275 :: y276 :: y277 :: y278 :: y279 :: y280 :: y281 :: y282 :: y283 :: y284 :: y285 :: y286 :: y287 :: y288 :: y289 :: y290 :: y291 :: y292 :: y293 :: y294 :: y295 :: y296 :: y297 :: y298 :: y299 :: y300 :: y301 :: y302 :: y303 :: y304 :: y305 :: y306 :: y307 :: y308 :: y309 :: y310 :: y311 :: y312 :: y313 :: y314 :: y315 :: y316 :: y317 :: y318 :: y319 :: y320 :: y321 :: y322 :: y323 :: y324 :: y325 :: y326 :: y327 :: y328 :: y329 :: y330 :: y331 :: y332 :: y333 :: y334 :: y335 :: y336 :: y337 :: y338 :: y339 :: y340 :: y341 :: y342 :: y343 :: y344 :: y345 :: y346 :: y347 :: y348 :: y349 :: y350 :: y351 :: y352 :: y353 :: y354 :: y355 :: y356 :: y357 :: y358 :: y359 :: y360 :: y361 :: y362 :: y363 :: y364 :: y365 :: y366 :: y367 :: y368 :: y369 :: y370 :: y371 :: y372 :: y373 :: y374 :: y375 :: y376 :: y377 :: y378 :: y379 :: y380 :: y381 :: y382 :: y383 :: y384 :: y385 :: y386 :: y387 :: y388 :: y389 :: y390 :: y391 :: y392 :: y393 :: y394 :: y395 :: y396 :: y397 :: y398 :: y399 :: y400 :: y401 :: y402 :: y403 :: y404 :: y405 :: y406 :: y407 :: y408 :: y409 :: y410 :: y411 :: y412 :: y413 :: y414 :: y415 :: y416 :: y417 :: y418 :: y419 :: y420 :: y421 :: y422 :: y423 :: y424 :: y425 :: y426 :: y427 :: y428 :: y429 :: y430 :: y431 :: y432 :: y433 :: y434 :: y435 :: y436 :: y437 :: y438 :: y439 :: y440 :: y441 :: y442 :: y443 :: y444 :: y445 :: y446 :: y447 :: y448 :: y449 :: y450 :: y451 :: y452 :: y453 :: y454 :: y455 :: y456 :: y457 :: y458 :: y459 :: y460 :: y461 :: y462 :: y463 :: y464 :: y465 :: y466 :: y467 :: y468 :: y469 :: y470 :: y471 :: y472 :: y473 :: y474 :: y475 :: y476 :: y477 :: y478 :: y479 :: y480 :: y481 :: y482 :: y483 :: y484 :: y485 :: y486 :: y487 :: y488 :: y489 :: y490 :: y491 :: y492 :: y493 :: y494 :: []).toArray := by
  rw [Fr_fast so18_ok rfl]
  rfl
set_option maxHeartbeats 40000000 in
set_option maxRecDepth 100000 in
theorem more_groups {u0 u1 u2 u3 u5 u6 u7 u8 u14 u16 u17 u18 u19 u20 u21 u22 u23 u24 u25 u26 u27 u28 u29 u30 u31 u32 u33 u34 u35 u36 u37 u38 u39 u40 u41 u42 u43 u44 u45 u46 u47 u48 u49 u50 u51 u52 u53 u54 u55 u56 u57 u58 u59 u60 u61 u62 u63 u64 u65 u66 u67 u68 u69 u70 u71 u72 u73 u74 u75 u76 u77 u78 u79 u80 u81 u82 u83 u84 u85 u86 u87 u88 u89 u90 u91 u92 u93 u94 u95 u96 u97 u98 u99 u100 u101 u102 u103 u104 u105 u106 u107 u108 u109 u110 u111 u112 u113 u114 u115 u116 u117 u118 u119 u120 u121 u122 u123 u124 u125 u126 u127 u128 u129 u130 u131 u132 u133 u134 u135 u136 u137 u138 u139 u140 u141 u142 u143 u144 u145 u146 u147 u148 u149 u150 u151 u152 u153 u154 u155 u156 u157 u158 u159 u160 u161 u162 u163 u164 u165 u166 u167 u168 u169 u170 u171 u172 u173 u174 u175 u176 u177 u178 u179 u180 u181 u182 u183 u184 u185 u186 u187 u188 u189 u190 u191 u192 u193 u194 u195 u196 u197 u198 u199 u200 u201 u202 u203 u204 u205 u206 u207 u208 u209 u210 u211 u212 u213 u214 u215 u216 u217 u218 u219 u220 u221 u222 u223 u224 u225 u226 u227 u228 u229 u230 u231 u232 u233 u234 u235 u236 u237 u238 u239 u240 u241 u242 u243 u244 u245 u246 u247 u248 u249 u250 u251 u252 u253 u254 u255 u256 u257 u258 u259 u260 u261 u262 u263 u264 u265 u266 u267 u268 u269 u270 u271 u272 u273 u274 u275 u276 u277 u278 u279 u280 u281 u282 u283 u284 u285 u286 u287 u288 u289 u290 u291 u292 u293 u294 u295 u296 u297 u298 u299 u300 u301 u302 u303 u304 u305 u306 u307 u308 u309 u310 u311 u312 u313 u314 u315 u316 u317 u318 u319 u320 u321 u322 u323 u324 u325 u326 u327 u328 u329 u330 u331 u332 u333 u334 u335 u336 u337 u338 u339 u340 u341 u342 u343 u344 u345 u346 u347 u348 u349 u350 u351 u352 u353 u354 u355 u356 u357 u358 u359 u360 u361 u362 u363 u364 u365 u366 u367 u368 u369 u370 u371 u372 u373 u374 u375 u376 u377 u378 u379 u380 u381 u382 u383 u384 u385 u386 u387 u388 u389 u390 u391 u392 u393 u394 u395 u396 u397 u398 u399 u400 u401 u402 u403 u404 u405 u406 u407 u408 u409 u410 u411 u412 u413 u414 u415 u416 u417 u418 u419 u420 u421 u422 u423 u424 u425 u426 u427 u428 u429 u430 u431 u432 u433 u434 u435 u436 u437 u438 u439 u440 u441 u442 u443 u444 u445 u446 u447 u448 u449 u450 u451 u452 u453 u454 u455 u456 u457 u458 u459 u460 u461 u462 u463 u464 u465 u466 u467 u468 u469 u470 u471 u472 u473 u474 u475 u476 u477 u478 u479 u480 u481 u482 u483 u484 u485 u486 u487 u488 u489 u490 u491 u492 u493 u494 : Value} (Q : Exit → Act → World → Prop) {b q : Bn} {g : Int × Int × Int} {p : Int × Int × Bool} {ga pa : Option Addr} {gc pc : Nat} {w0 W : World} {p4 p9 p10 p11 p12 p13 z9 z10 z11 : Nat} {u9 u10 u11 : Value} (hv : valid b = true) (hne : p4 ≠ p12 ∧ p9 ≠ p12 ∧ p10 ≠ p12 ∧ p11 ≠ p12 ∧ p4 ≠ p13 ∧ p9 ≠ p13 ∧ p10 ≠ p13 ∧ p11 ≠ p13 ∧ p12 ≠ p13) (hz12 : w0.heap.size ≤ p12 ∧ w0.heap.size ≤ p13)
    (hB : Below w0.heap.size w0 W) (hm : BnAt w0 b ga pa) (bb : Blk W p4 #[.int .i64 b.V, .int .i64 b.nd, .int .i64 b.lo, .int .i64 b.hi, .slice ga b.gs.length gc, .slice pa b.ps.length pc] 27) (B9 : Blk W p9 #[.int .i64 b.V, .int .i64 b.nd, .int .i64 b.lo, .int .i64 b.hi, u9, .slice pa b.ps.length pc] 27) (o9 : OwnG W z9 u9 (b.gs ++ [g])) (B10 : Blk W p10 #[.int .i64 b.V, .int .i64 b.nd, .int .i64 b.lo, .int .i64 b.hi, .slice ga b.gs.length gc, u10] 27) (o10 : OwnP W z10 u10 (b.ps ++ [p]))
    (B11 : Blk W p11 #[.int .i64 b.V, .int .i64 b.nd, .int .i64 b.lo, .int .i64 b.hi, u11, .slice pa b.ps.length pc] 27) (o11 : CopyV W z11 49 3 gcell q.gs u11) (hq : Near b q)
    (B12 : Blk W p12 #[.int .i64 b.V, .int .i64 b.nd, .int .i64 b.lo, .int .i64 b.hi, .slice none 0 0, .slice none 0 0] 27) (B13 : Blk W p13 #[.int .i64 b.V, .int .i64 b.nd, .int .i64 (b.V - b.hi), .int .i64 (b.V - b.lo), .slice none 0 0, .slice pa b.ps.length pc] 27)
    (hexit : ∀ (tm : Array Value) W', tm[8]? = some (.bool true) → Below w0.heap.size w0 W' → Q .ret ⟨tm, []⟩ W') :
    mC8.wp Try.prog Q ⟨(u0 :: u1 :: u2 :: u3 :: .pointer (some ⟨p4, 0, none⟩) :: u5 :: u6 :: u7 :: u8 :: .pointer (some ⟨p9, 0, none⟩) :: .pointer (some ⟨p10, 0, none⟩) :: .pointer (some ⟨p11, 0, none⟩) :: .pointer (some ⟨p12, 0, none⟩) :: .pointer (some ⟨p13, 0, none⟩) :: u14 :: .bool true :: u16 :: u17 :: u18 :: u19 :: u20 :: u21 :: u22 :: u23 :: u24 :: u25 :: u26 :: u27 :: u28 :: u29 :: u30 :: u31 :: u32 :: u33 :: u34 :: u35 :: u36 :: u37 :: u38 :: u39 :: u40 :: u41 :: u42 :: u43 :: u44 :: u45 :: u46 :: u47 :: u48 :: u49 :: u50 :: u51 :: u52 :: u53 :: u54 :: u55 :: u56 :: u57 :: u58 :: u59 :: u60 :: u61 :: u62 :: u63 :: u64 :: u65 :: u66 :: u67 :: u68 :: u69 :: u70 :: u71 :: u72 :: u73 :: u74 :: u75 :: u76 :: u77 :: u78 :: u79 :: u80 :: u81 :: u82 :: u83 :: u84 :: u85 :: u86 :: u87 :: u88 :: u89 :: u90 :: u91 :: u92 :: u93 :: u94 :: u95 :: u96 :: u97 :: u98 :: u99 :: u100 :: u101 :: u102 :: u103 :: u104 :: u105 :: u106 :: u107 :: u108 :: u109 :: u110 :: u111 :: u112 :: u113 :: u114 :: u115 :: u116 :: u117 :: u118 :: u119 :: u120 :: u121 :: u122 :: u123 :: u124 :: u125 :: u126 :: u127 :: u128 :: u129 :: u130 :: u131 :: u132 :: u133 :: u134 :: u135 :: u136 :: u137 :: u138 :: u139 :: u140 :: u141 :: u142 :: u143 :: u144 :: u145 :: u146 :: u147 :: u148 :: u149 :: u150 :: u151 :: u152 :: u153 :: u154 :: u155 :: u156 :: u157 :: u158 :: u159 :: u160 :: u161 :: u162 :: u163 :: u164 :: u165 :: u166 :: u167 :: u168 :: u169 :: u170 :: u171 :: u172 :: u173 :: u174 :: u175 :: u176 :: u177 :: u178 :: u179 :: u180 :: u181 :: u182 :: u183 :: u184 :: u185 :: u186 :: u187 :: u188 :: u189 :: u190 :: u191 :: u192 :: u193 :: u194 :: u195 :: u196 :: u197 :: u198 :: u199 :: u200 :: u201 :: u202 :: u203 :: u204 :: u205 :: u206 :: u207 :: u208 :: u209 :: u210 :: u211 :: u212 :: u213 :: u214 :: u215 :: u216 :: u217 :: u218 :: u219 :: u220 :: u221 :: u222 :: u223 :: u224 :: u225 :: u226 :: u227 :: u228 :: u229 :: u230 :: u231 :: u232 :: u233 :: u234 :: u235 :: u236 :: u237 :: u238 :: u239 :: u240 :: u241 :: u242 :: u243 :: u244 :: u245 :: u246 :: u247 :: u248 :: u249 :: u250 :: u251 :: u252 :: u253 :: u254 :: u255 :: u256 :: u257 :: u258 :: u259 :: u260 :: u261 :: u262 :: u263 :: u264 :: u265 :: u266 :: u267 :: u268 :: u269 :: u270 :: u271 :: u272 :: u273 :: u274 :: u275 :: u276 :: u277 :: u278 :: u279 :: u280 :: u281 :: u282 :: u283 :: u284 :: u285 :: u286 :: u287 :: u288 :: u289 :: u290 :: u291 :: u292 :: u293 :: u294 :: u295 :: u296 :: u297 :: u298 :: u299 :: u300 :: u301 :: u302 :: u303 :: u304 :: u305 :: u306 :: u307 :: u308 :: u309 :: u310 :: u311 :: u312 :: u313 :: u314 :: u315 :: u316 :: u317 :: u318 :: u319 :: u320 :: u321 :: u322 :: u323 :: u324 :: u325 :: u326 :: u327 :: u328 :: u329 :: u330 :: u331 :: u332 :: u333 :: u334 :: u335 :: u336 :: u337 :: u338 :: u339 :: u340 :: u341 :: u342 :: u343 :: u344 :: u345 :: u346 :: u347 :: u348 :: u349 :: u350 :: u351 :: u352 :: u353 :: u354 :: u355 :: u356 :: u357 :: u358 :: u359 :: u360 :: u361 :: u362 :: u363 :: u364 :: u365 :: u366 :: u367 :: u368 :: u369 :: u370 :: u371 :: u372 :: u373 :: u374 :: u375 :: u376 :: u377 :: u378 :: u379 :: u380 :: u381 :: u382 :: u383 :: u384 :: u385 :: u386 :: u387 :: u388 :: u389 :: u390 :: u391 :: u392 :: u393 :: u394 :: u395 :: u396 :: u397 :: u398 :: u399 :: u400 :: u401 :: u402 :: u403 :: u404 :: u405 :: u406 :: u407 :: u408 :: u409 :: u410 :: u411 :: u412 :: u413 :: u414 :: u415 :: u416 :: u417 :: u418 :: u419 :: u420 :: u421 :: u422 :: u423 :: u424 :: u425 :: u426 :: u427 :: u428 :: u429 :: u430 :: u431 :: u432 :: u433 :: u434 :: u435 :: u436 :: u437 :: u438 :: u439 :: u440 :: u441 :: u442 :: u443 :: u444 :: u445 :: u446 :: u447 :: u448 :: u449 :: u450 :: u451 :: u452 :: u453 :: u454 :: u455 :: u456 :: u457 :: u458 :: u459 :: u460 :: u461 :: u462 :: u463 :: u464 :: u465 :: u466 :: u467 :: u468 :: u469 :: u470 :: u471 :: u472 :: u473 :: u474 :: u475 :: u476 :: u477 :: u478 :: u479 :: u480 :: u481 :: u482 :: u483 :: u484 :: u485 :: u486 :: u487 :: u488 :: u489 :: u490 :: u491 :: u492 :: u493 :: u494 :: []).toArray, []⟩ W := by
  have HE := Lib.hid hexit
  have HV := Lib.hid hv
  have HQN := Lib.hid hq
  have HMR : Hid (∀ W, Below w0.heap.size w0 W → BnAt W b ga pa) := fun W h => hm.below h
  have HM0 := Lib.hid hm
  have HSp := Lib.hid l_span
  have HSz := Lib.hid l_size
  have hl4 : b.gs.length ≤ 4 := by
    unfold valid headOk at hv
    simp only [Bool.and_eq_true, decide_eq_true_eq] at hv
    exact hv.1.1.1.2
  have HSv : Hid (∀ k, (h : k < b.gs.length) → ∃ j, ∃ hj : j < b.gs.length, (b.gs.length : Int) - 1 - (k : Int) = (j : Int) ∧ b.gs.reverse.take (k + 1) = b.gs.reverse.take k ++ [b.gs[j]] ∧ ∃ s : Nat, s < 256 ∧ b.gs[j].1 = (s : Int) ∧ 0 ≤ b.gs[j].2.1 ∧ b.gs[j].2.1 ≤ b.gs[j].2.2 ∧ b.gs[j].2.2 ≤ 8) := fun k h => ⟨b.gs.length - 1 - k, by omega, by omega, by
    have hl : k < b.gs.reverse.length := by simp; exact h
    rw [List.take_succ_eq_append_getElem hl]
    simp [List.getElem_reverse], by
    obtain ⟨hV1, hV8⟩ := valid_V8 hv
    unfold valid at hv
    simp only [Bool.and_eq_true] at hv
    have h2 := List.all_eq_true.1 hv.1.2 _ (List.getElem_mem (show b.gs.length - 1 - k < b.gs.length by omega))
    have h3 := gOk_parts hV8 h2
    unfold gOk inB spanB at h2
    simp only [Bool.and_eq_true, decide_eq_true_eq] at h2
    exact ⟨_, h3.1, (Int.toNat_of_nonneg h2.1.1).symm, h3.2.1, h3.2.2, by omega⟩⟩
  clear hexit hv hm hq
  obtain ⟨is, his, hzs0, hzs1, hzs2⟩ := info_of Try.info49
  have hsi4 : (b.gs.length : Int) ≤ 4 := by omega
  obtain ⟨we, hwe⟩ : ∃ we, W = we := ⟨_, rfl⟩
  rw [hwe] at bb B9 B10 B11 B12 B13 o9 o10 o11 hB ⊢
  clear hwe W
  obtain ⟨zd, hzd'⟩ : ∃ z, we.heap.size = z := ⟨_, rfl⟩
  have hzd : we.heap.size ≤ zd ∧ zd ≤ we.heap.size := by omega
  clear hzd'
  have hl12e := B12.lt
  have hl13e := B13.lt
  have rb := bb.cell
  have hBs := hB.size
  conv => arg 2; whnf
  refine wp_seq_hid fun KG HKG => ?_
  go_wp2_with fail
  clear rb
  go_loopw [15, 16, 17, 18, 133] (fun x15 x16 x17 x18 x133 wr => ∃ (k : Nat) (v12 v13 : Value) (ot : Bool), k ≤ b.gs.length ∧ x133 = .int .i64 (k : Int) ∧ x15 = .bool ot ∧ ot = (b.gs.reverse.take k).all (fun g => decide (0 ≤ (flG g).2.2)) ∧ Off [p12, p13] zd we wr ∧ Blk wr p12 #[.int .i64 b.V, .int .i64 b.nd, .int .i64 b.lo, .int .i64 b.hi, v12, .slice none 0 0] 27 ∧ Blk wr p13 #[.int .i64 b.V, .int .i64 b.nd, .int .i64 (b.V - b.hi), .int .i64 (b.V - b.lo), v13, .slice pa b.ps.length pc] 27 ∧ OwnG wr zd v12 (b.gs.reverse.take k) ∧ OwnG wr zd v13 ((b.gs.reverse.take k).map flG) ∧ (∀ gg, v12.ownBlock = some gg → v13.ownBlock ≠ some gg)) (fun _ _ _ _ x133 _ => b.gs.length - (intOf x133).toNat)
  case atStart => exact ⟨0, .slice none 0 0, .slice none 0 0, true, by omega, rfl, rfl, rfl, Off.refl _ _ _, B12, B13, by simpa [OwnG] using World.ownsRow_nil _ _ _ _, by simpa [OwnG] using World.ownsRow_nil _ _ _ _, fun gg e => by cases e⟩
  case round =>
    obtain ⟨k, v12, v13, ot, hk, rfl, rfl, hot, hO, F12, F13, own, owu, hdis⟩ := hrel
    have hsO := hO.size
    have hBk : Below w0.heap.size w0 wr := hB.trans (hO.below (by omega) (by simp; omega))
    by_cases hlt : k < b.gs.length
    · have hlti : (k : Int) < (b.gs.length : Int) := Int.ofNat_lt.2 hlt
      obtain ⟨j, hj, hji, hta, s, hs, hs1, hlo0, hlh, hh8⟩ := HSv.out k hlt
      have hjl : (j : Int) < (b.gs.length : Int) := Int.ofNat_lt.2 hj
      obtain ⟨gs, gos, rfl, c1, c2, c3⟩ := (HMR.out _ hBk).gs j hj
      have bbr := hO.blk bb (by have := bb.lt; omega) (by simp; omega)
      have rb := bbr.cell
      have hkl : (b.gs.reverse.take k).length = k := by rw [List.length_take, List.length_reverse]; omega
      unfold OwnG at own
      rw [hkl] at own
      have HTA := Lib.hid hta
      have HOT := Lib.hid hot
      clear hta hkl hot
      obtain ⟨h1, h2, h3, hje⟩ : ∃ (h1 h2 h3 : Int), b.gs[j] = (h1, h2, h3) := ⟨_, _, _, rfl⟩
      rw [hje] at c1 c2 c3 hs1 hlo0 hlh hh8
      simp only at c1 c2 c3 hs1 hlo0 hlh hh8
      subst hs1
      have hl12r : p12 < wr.heap.size := F12.lt
      have hl13r : p13 < wr.heap.size := F13.lt
      have r12 := F12.cell
      have hgv : ∀ gg, v12.ownBlock = some gg → zd ≤ gg := fun gg e => (own.lt gg e).1
      have hgu : ∀ gg, v13.ownBlock = some gg → zd ≤ gg := fun gg e => (owu.lt gg e).1
      have hk5 : k ≤ 5 := by omega
      go_wp2_with (first
        | (refine wpList_store_blk 49 (.tmp 17) (.tmp 145) agg_group rfl rfl rfl rfl (Blk.new _ _ _) rfl rfl (by simp [Value.oneCell']) ?_; intro wx h; refine at_stop ?_))
      unfold Stop
      have b17 := h.blk
      have hbx : Below wr.heap.size wr wx := h.below ((Below.refl _ _).alloc (Nat.le_refl _) _) (Nat.le_refl _)
      have hgv2 : ∀ gg, v12.ownBlock = some gg → gg < wr.heap.size := fun gg e => (own.lt gg e).2
      have hgu2 : ∀ gg, v13.ownBlock = some gg → gg < wr.heap.size := fun gg e => (owu.lt gg e).2
      have F12x := F12.below hbx hl12r
      have F13x := F13.below hbx hl13r
      have ownx := ownsRow_below own hbx
      have owux : OwnG wx zd v13 ((b.gs.reverse.take k).map flG) := ownsRow_below owu hbx
      have hOx : Off [p12, p13] zd we wx := hO.trans (Off.of_below hbx (by omega))
      have hsx := hbx.size
      have l17 := b17.lt
      obtain ⟨p17, hp17⟩ : ∃ p, wr.heap.size = p := ⟨_, rfl⟩
      rw [hp17] at b17 hgv2 hgu2 hl12r hl13r l17 hsx
      try simp only [hp17]
      have rbx := (bbr.below hbx bbr.lt).cell
      have hzp : zd ≤ p17 := by rw [← hp17]; omega
      clear h hp17 F12 F13 own owu hO hbx rb r12 c1 c2 c3 bbr hBk hsO
      have r12 := F12x.cell
      go_wp2_with (first
        | (refine wpList_load_blk 49 (.tmp 17) agg_group rfl rfl rfl b17 rfl ?_)
        | (at_builtin; refine at_stop ?_))
      unfold Stop
      refine wpList_appendW rfl (.tmp 147) (.tmp 149) 24 rfl zd 49 is (.agg #[.int .i64 0, .int .i64 0, .int .i64 0]) 3 24 Try.underlying24 his hzs0 hzs1 hzs2 rfl (by decide) v12 k ((b.gs.reverse.take k).flatMap gcell) rfl (World.ownsRow.alloc ownx _) (.slice (some ⟨_, 0, none⟩) 1 1) 1 (gcell ((s : Int), h2, h3)) rfl ⟨rfl, .inr ⟨_, _, rfl, news_blk (A := #[.int .i64 (s : Int), .int .i64 h2, .int .i64 h3]) (Blk.new wx _ _)⟩⟩ (by intro u hu; simp [gcell] at hu; rcases hu with rfl | rfl | rfl <;> rfl) (by unfold maxLen; omega) (by omega) (by simp; omega) ?_
      intro va wa owna hga hwa
      obtain ⟨gy, cy, rfl⟩ := own_slice owna (by omega)
      have kpa : ∀ {x : Nat} {C : Array Value} {t : TypeId}, Blk wx x C t → v12.ownBlock ≠ some x → Blk wa x C t := fun h h1 => (hga.block _ (by have := h.lt; simp; omega) (fun e => h1 e.symm)).trans (h.alloc _)
      have F12a := kpa F12x (fun e => by have := hgv _ e; omega)
      have F13a := kpa F13x (fun e => by have := hgv _ e; omega)
      have b17a := kpa b17 (fun e => by have := hgv2 _ e; omega)
      have owua : OwnG wa zd v13 ((b.gs.reverse.take k).map flG) := own_move (World.ownsRow.alloc owux (.cells #[.int .i64 (s : Int), .int .i64 h2, .int .i64 h3] 49)) (Nat.le_refl _) (fun gg hg => hga.block gg (by have := hgu2 gg hg; simp; omega) (fun e => hdis gg e.symm hg))
      have hOa : Off [p12, p13] zd we wa := Off.grown (hOx.alloc (by omega) _) hga (by simp; omega) (fun gg e => .inr (hgv gg e))
      have hgy : zd ≤ gy ∧ gy ≠ p17 ∧ gy ≠ p12 ∧ gy ≠ p13 ∧ v13.ownBlock ≠ some gy := by
        have h1 := (owna.lt gy rfl).1
        have hsal : p17 < (wx.alloc (.cells #[.int .i64 (s : Int), .int .i64 h2, .int .i64 h3] 49)).heap.size := by simp; omega
        rcases hwa gy rfl with e | e
        · exact ⟨h1, by have := hgv2 _ e; omega, by omega, by omega, hdis gy e⟩
        · exact ⟨h1, by omega, by omega, by omega, fun e2 => by have := hgu2 _ e2; omega⟩
      have hswa : p17 < wa.heap.size := b17a.lt
      have ra := F12a.cell
      have fa := F12a.free
      have r17 := b17a.cell
      clear r12 kpa hga hwa F12x F13x b17 ownx owux hOx rbx
      have HOW := Lib.hid owna
      clear owna
      obtain ⟨wb, hwb⟩ : ∃ wb, wa.setCell ⟨p12, 4, none⟩ (.slice (some ⟨gy, 0, none⟩) (k + 1) cy) = wb := ⟨_, rfl⟩
      have hOb' : Off [p12] wa.heap.size wa wb := by rw [← hwb]; exact (Off.refl _ _ _).setCell (.inl (by simp)) _
      have F12b : Blk wb p12 #[.int .i64 b.V, .int .i64 b.nd, .int .i64 b.lo, .int .i64 b.hi, .slice (some ⟨gy, 0, none⟩) (k + 1) cy, .slice none 0 0] 27 := by rw [← hwb]; exact F12a.set 4 _
      have F13b := hOb'.blk F13a F13a.lt (by simp; omega)
      have b17b := hOb'.blk b17a b17a.lt (by simp; omega)
      have HOWb := Lib.hid (ownsRow_offN HOW.out hOb' (fun gg e => by cases e; simp; omega))
      have owub : OwnG wb zd v13 ((b.gs.reverse.take k).map flG) := ownsRow_offN owua hOb' (fun gg e => by simp; exact fun e' => own_ne_blk owua F12a (by decide) (by rw [e, e']))
      have hOb : Off [p12, p13] zd we wb := by rw [← hwb]; exact hOa.setCell (.inl (by simp)) _
      have hswb : p17 < wb.heap.size := b17b.lt
      go_upto_region 16 with fail
      (try rw [hwb])
      clear hwb hOb' HOW owua F12a F13a b17a hOa r17 ra fa
      have r17 := b17b.cell
      go_wp2_with (first
        | (go_at_call 38; refine (HSz.out s (by omega) _).mono ?_; rintro e w3 ⟨rfl, rfl⟩; refine at_stop ?_))
      unfold Stop
      have hsz8 := sz_le hs
      go_wp2_with (first
        | (refine wpList_max2X (.const (.int .i64 0)) (.tmp 159) rfl rfl rfl rfl ?_)
        | (go_at_call 34; refine (HSp.out _ _ _).mono ?_; rintro e w4 ⟨rfl, hb4⟩; refine at_stop ?_))
      unfold Stop
      have F12c := F12b.below hb4 F12b.lt
      have F13c := F13b.below hb4 F13b.lt
      have b17c := b17b.below hb4 b17b.lt
      have HOWc := Lib.hid (ownsRow_below HOWb.out hb4)
      have owuc : OwnG w4 zd v13 ((b.gs.reverse.take k).map flG) := ownsRow_below owub hb4
      have hOc : Off [p12, p13] zd we w4 := hOb.trans (Off.of_below hb4 (by have := hOb.size; omega))
      have r17c := b17c.cell
      have f17c := b17c.free
      have f17d := (b17c.set 1 (.int .i64 (max 0 ((sz s : Int) - h3)))).free
      obtain ⟨wz, hwz⟩ : ∃ wz, (w4.setCell ⟨p17, 1, none⟩ (.int .i64 (max 0 ((sz s : Int) - h3)))).setCell ⟨p17, 2, none⟩ (.int .i64 ((sz s : Int) - h2)) = wz := ⟨_, rfl⟩
      have hOz : Off [p17] w4.heap.size w4 wz := by rw [← hwz]; exact ((Off.refl _ _ _).setCell (.inl (by simp)) _).setCell (.inl (by simp)) _
      have b17z : Blk wz p17 #[.int .i64 (s : Int), .int .i64 (max 0 ((sz s : Int) - h3)), .int .i64 ((sz s : Int) - h2)] 49 := by rw [← hwz]; exact (b17c.set 1 _).set 2 _
      have F12z := hOz.blk F12c F12c.lt (by simp; omega)
      have F13z := hOz.blk F13c F13c.lt (by simp; omega)
      have HOWz := Lib.hid (ownsRow_offN HOWc.out hOz (fun gg e => by cases e; simp; omega))
      have owuz : OwnG wz zd v13 ((b.gs.reverse.take k).map flG) := ownsRow_offN owuc hOz (fun gg e => by have := hgu2 gg e; simp; omega)
      have hOzz : Off [p12, p13] zd we wz := hOc.trans (hOz.mono (by have := hOc.size; omega) (fun k hk hm => by simp at hm; omega))
      have hszz : zd ≤ wz.heap.size := by have := hOzz.size; omega
      have hBz : Below w0.heap.size w0 wz := hB.trans (hOzz.below (by omega) (by simp; omega))
      clear F12b F13b b17b HOWb owub hOb r17 hb4
      go_upto_region 18 with fail
      (try rw [hwz])
      clear hwz hOz F12c F13c b17c HOWc owuc hOc r17c f17c f17d
      have hlk : ((b.gs.reverse.take k).map flG).length ≤ 40 := by rw [List.length_map, List.length_take, List.length_reverse]; omega
      have hw0z : w0.heap.size ≤ zd := by omega
      rename_i K18 hK18
      refine more_r18b (z := w0.heap.size) (zr := zd) (g := flG ((s : Int), h2, h3)) rfl rfl rfl rfl F13z b17z owuz hlk (by omega) (by omega) hw0z hszz (fun gg e => by have := hgu2 gg e; omega) ?_
      intro vals W u hBW hv14 b13W ownu hkeep hdw
      rw [fr18, hv14]
      show K18 _ _
      refine hK18 _ _ ?_
      clear hv14
      have hBW2 := hBW.size
      have hkz : wz.heap.size ≤ W.heap.size := hBW.size
      have F12W : Blk W p12 #[.int .i64 b.V, .int .i64 b.nd, .int .i64 b.lo, .int .i64 b.hi, .slice (some ⟨gy, 0, none⟩) (k + 1) cy, .slice none 0 0] 27 := (hkeep p12 F12z.lt (by omega) (by omega) (fun e => by have := hgu _ e; omega)).trans F12z
      have hgyz : gy < wz.heap.size := (HOWz.out.lt gy rfl).2
      have HOWW := Lib.hid (own_move HOWz.out (Nat.le_refl _) (fun gg hg => by
        cases hg
        exact hkeep gy hgyz (by omega) (by omega) hgy.2.2.2.2) : W.ownsRow zd _ _ _ _ _)
      have hOW : Off [p12, p13] zd we W := hOzz.trans ⟨hBW.os, hBW.tape, hBW.output, hkz, fun kk hkk hkt => hkeep kk (by omega) (fun e => hkt (by simp [e])) (by omega) (fun e => by have := hgu _ e; omega)⟩
      have hdu : u.ownBlock ≠ some gy := hdw gy hgyz (by omega) (by omega) (by omega) hgy.2.2.2.2
      clear hBW hkeep hdw HOWz owuz F12z F13z b17z hOzz hBz
      go_wp2_with fail
      have hl : (b.gs.reverse.take (k + 1)).length = k + 1 := by rw [List.length_take, List.length_reverse]; omega
      refine ⟨⟨k + 1, _, u, _, by omega, by go_num, rfl, ?_, hOW, F12W, b13W, ?_, ?_, ?_⟩, by simp [intOf]; omega⟩
      · rw [HTA.out, List.all_append, HOT.out, hje]
        simp
      · unfold OwnG
        rw [hl, HTA.out, List.flatMap_append, hje]
        simpa using HOWW.out
      · rw [HTA.out, List.map_append, hje]
        simpa using ownu
      · intro gg e
        cases e
        exact hdu
    · have hlti : ¬ (k : Int) < (b.gs.length : Int) := by omega
      have hta : b.gs.reverse.take k = b.gs.reverse := List.take_of_length_le (by rw [List.length_reverse]; omega)
      rw [hta] at own owu hot
      have hall : ot = allO b := by rw [hot, List.all_reverse]; rfl
      subst hall
      have mvb : ∀ {x : Nat} {C : Array Value} {t : TypeId}, Blk we x C t → x ≠ p12 → x ≠ p13 → Blk wr x C t := fun h h1 h2 => hO.blk h (by have := h.lt; omega) (by simp; omega)
      have mvo : ∀ {z n s : Nat} {e : TypeId} {v : Value} {xs : List Value}, we.ownsRow z e s v n xs → e ≠ 27 → wr.ownsRow z e s v n xs := fun o he => own_move o (Nat.le_refl _) (fun gg hg => hO.block gg (by have := (o.lt gg hg).2; omega) (by simp; exact ⟨fun e' => own_ne_blk o B12 he (by rw [hg, e']), fun e' => own_ne_blk o B13 he (by rw [hg, e'])⟩))
      replace bb := mvb bb (by omega) (by omega)
      replace B9 := mvb B9 (by omega) (by omega)
      replace B10 := mvb B10 (by omega) (by omega)
      replace B11 := mvb B11 (by omega) (by omega)
      replace o9 : OwnG wr z9 u9 (b.gs ++ [g]) := mvo o9 (by decide)
      replace o10 : OwnP wr z10 u10 (b.ps ++ [p]) := mvo o10 (by decide)
      replace o11 := o11.move (fun gg cur _ hb => mvb hb (blk_ne hb B12 (by decide)) (blk_ne hb B13 (by decide)))
      clear mvb mvo hO hsO hta B12 B13 hk hdis
      go_wp2_with fail
      refine HKG.out _ _ ?_
      exact more_pairs Q HV.out (by omega) hz12.1 hBk HM0.out bb B9 o9 B10 o10 B11 o11 HQN.out F12 own F13 owu HE.out
end Go.Proofs.Ytjbjmoghloabpaa
