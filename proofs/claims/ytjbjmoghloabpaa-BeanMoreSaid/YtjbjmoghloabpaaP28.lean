/- Parts of a proof: BnAR, MoreF. -/
import Derived.Test.YtjbjmoghloabpaaP24
import Derived.Test.YtjbjmoghloabpaaP26
import Derived.Test.YtjbjmoghloabpaaP27
import Derived.Test.YtjbjmoghloabpaaP05
set_option linter.unusedVariables false
set_option linter.unusedSimpArgs false
namespace Go.Proofs.Ytjbjmoghloabpaa
open Go.RowKit Go.Proofs
attribute [local irreducible] Ord.walk
section
variable {b : Bn} {base : Nat} {v : Value} {w : World} (h : Vote w base b v) (hgl : b.gs.length ≤ 40) (hpl : b.ps.length ≤ 40)
include h hgl hpl
theorem v_Whites : Calls Try.prog 14 #[v] w (Gives2 (.agg #[.int .i64 (whitesR b).1, .int .i64 (whitesR b).2.1]) (.int .i64 (whitesR b).2.2) w) := by
  obtain ⟨ga, gc, pa, pc, rfl, hg, hp⟩ := h.bv
  exact bb_Whites b ga gc pa pc w hg hp hgl hpl
theorem v_White (n : Int) : Calls Try.prog 16 #[v, .int .i64 n] w (Gives2 (.int .i64 (whiteR b n).1) (.int .i64 (whiteR b n).2) w) := by
  obtain ⟨ga, gc, pa, pc, rfl, hg, hp⟩ := h.bv
  exact bb_White b ga gc pa pc w hg hp hgl hpl n
theorem v_Known : Calls Try.prog 18 #[v] w (Gives3 (.int .i64 (knownR b).1) (.int .i64 (knownR b).2.1) (.int .i64 (knownR b).2.2) w) := by
  obtain ⟨ga, gc, pa, pc, rfl, hg, hp⟩ := h.bv
  exact bb_Known b ga gc pa pc w hg hp hgl hpl
theorem v_Passed : Calls Try.prog 20 #[v] w (Gives2 (.int .i64 (passedR b).1) (.int .i64 (passedR b).2) w) := by
  obtain ⟨ga, gc, pa, pc, rfl, hg, hp⟩ := h.bv
  exact bb_Passed b ga gc pa pc w hg hp hgl hpl
theorem v_Same (n m : Int) : Calls Try.prog 22 #[v, .int .i64 n, .int .i64 m] w (Gives2 (.int .i64 (sameR b n m).1) (.int .i64 (sameR b n m).2) w) := by
  obtain ⟨ga, gc, pa, pc, rfl, hg, hp⟩ := h.bv
  exact bb_Same b ga gc pa pc w hg hp hgl hpl n m
theorem v_Count : Calls Try.prog 24 #[v] w (Gives2 (.int .i64 (countR b).1) (.int .i64 (countR b).2) w) := by
  obtain ⟨ga, gc, pa, pc, rfl, hg, hp⟩ := h.bv
  exact bb_Count b ga gc pa pc w hg hp hgl hpl
theorem v_Tell (n : Int) : Calls Try.prog 26 #[v, .int .i64 n] w (Gives3 (.int .i64 (tellR b n).1) (.int .i64 (tellR b n).2.1) (.int .i64 (tellR b n).2.2) w) := by
  obtain ⟨ga, gc, pa, pc, rfl, hg, hp⟩ := h.bv
  exact bb_Tell b ga gc pa pc w hg hp hgl hpl n
theorem v_Quiet : Calls Try.prog 28 #[v] w (Gives2 (.int .i64 (quietR b).1) (.int .i64 (quietR b).2) w) := by
  obtain ⟨ga, gc, pa, pc, rfl, hg, hp⟩ := h.bv
  exact bb_Quiet b ga gc pa pc w hg hp hgl hpl
theorem v_Clash : Calls Try.prog 30 #[v] w (Gives2 (.int .i64 (clashR b).1) (.int .i64 (clashR b).2) w) := by
  obtain ⟨ga, gc, pa, pc, rfl, hg, hp⟩ := h.bv
  exact bb_Clash b ga gc pa pc w hg hp hgl hpl
end
set_option maxRecDepth 100000 in
theorem alive_values : whitesR sampleB = (2, 3, 0) ∧ whiteR secondB 2 = (0, 0) ∧ knownR secondB = (3, 4, 0) ∧ passedR sampleB = (1, 0) ∧ sameR sampleB 3 4 = (1, 0) ∧ countR sampleB = (4, 0) ∧ tellR sampleB 2 = (3, 28, 0) ∧ quietR sampleB = (8, 0) ∧ clashR clashBn = (28, 0) := by
  refine ⟨?_, ?_, ?_, ?_, ?_, ?_, ?_, ?_, ?_⟩ <;> decide +kernel

set_option maxHeartbeats 4000000 in
set_option maxRecDepth 100000 in
theorem l_alive (w : World) : Calls Try.prog 13 #[] w (Gives (.bool true) w) := by
  have S1 := Lib.hid l_sample
  have S2 := Lib.hid l_second
  have S3 := Lib.hid l_clash
  have P1 : Hid (∀ w base v, Vote w base sampleB v → Calls Try.prog 14 #[v] w (Gives2 (.agg #[.int .i64 2, .int .i64 3]) (.int .i64 0) w)) := fun w base v h => by
    have := v_Whites h (by decide) (by decide); rwa [alive_values.1] at this
  have P2 : Hid (∀ w base v, Vote w base secondB v → Calls Try.prog 16 #[v, .int .i64 2] w (Gives2 (.int .i64 0) (.int .i64 0) w)) := fun w base v h => by
    have := v_White h (by decide) (by decide) 2; rwa [alive_values.2.1] at this
  have P3 : Hid (∀ w base v, Vote w base secondB v → Calls Try.prog 18 #[v] w (Gives3 (.int .i64 3) (.int .i64 4) (.int .i64 0) w)) := fun w base v h => by
    have := v_Known h (by decide) (by decide); rwa [alive_values.2.2.1] at this
  have P4 : Hid (∀ w base v, Vote w base sampleB v → Calls Try.prog 20 #[v] w (Gives2 (.int .i64 1) (.int .i64 0) w)) := fun w base v h => by
    have := v_Passed h (by decide) (by decide); rwa [alive_values.2.2.2.1] at this
  have P5 : Hid (∀ w base v, Vote w base sampleB v → Calls Try.prog 22 #[v, .int .i64 3, .int .i64 4] w (Gives2 (.int .i64 1) (.int .i64 0) w)) := fun w base v h => by
    have := v_Same h (by decide) (by decide) 3 4; rwa [alive_values.2.2.2.2.1] at this
  have P6 : Hid (∀ w base v, Vote w base sampleB v → Calls Try.prog 24 #[v] w (Gives2 (.int .i64 4) (.int .i64 0) w)) := fun w base v h => by
    have := v_Count h (by decide) (by decide); rwa [alive_values.2.2.2.2.2.1] at this
  have P7 : Hid (∀ w base v, Vote w base sampleB v → Calls Try.prog 26 #[v, .int .i64 2] w (Gives3 (.int .i64 3) (.int .i64 28) (.int .i64 0) w)) := fun w base v h => by
    have := v_Tell h (by decide) (by decide) 2; rwa [alive_values.2.2.2.2.2.2.1] at this
  have P8 : Hid (∀ w base v, Vote w base sampleB v → Calls Try.prog 28 #[v] w (Gives2 (.int .i64 8) (.int .i64 0) w)) := fun w base v h => by
    have := v_Quiet h (by decide) (by decide); rwa [alive_values.2.2.2.2.2.2.2.1] at this
  have P9 : Hid (∀ w base v, Vote w base clashBn v → Calls Try.prog 30 #[v] w (Gives2 (.int .i64 28) (.int .i64 0) w)) := fun w base v h => by
    have := v_Clash h (by decide) (by decide); rwa [alive_values.2.2.2.2.2.2.2.2] at this
  have G := Lib.hid l_span
  have hB := Below.refl w.heap.size w
  go_enter Try.func13, Try.ntmps13
  go_wp2_with (first
    | (go_at_call 33; refine (S1.out _).mono ?_; rintro e w1 ⟨v1, rfl, hV1, hb1⟩; replace hB := hB.trans (hb1.mono hB.size))
    | (go_at_call 14; refine (P1.out _ _ _ hV1).mono ?_; rintro e w2 ⟨rfl, hb2⟩; replace hB := hB.trans (hb2.mono hB.size))
    | (refine wpList_store_blk 23 (.tmp 1) (.tmp 24) agg_span rfl rfl rfl rfl (Blk.new _ _ _) rfl rfl (by simp [Value.oneCell']) ?_; intro w3 h3; refine at_stop ?_))
  unfold Stop
  have bS := h3.blk
  replace hB := h3.below (hB.alloc hB.size _) hB.size
  generalize hp : w2.heap.size = p at *
  clear h3 hb1 hb2 hV1
  go_wp2_with (first
    | (go_at_call 33; refine (S1.out _).mono ?_; rintro e w1 ⟨v1, rfl, hV1, hb1⟩; replace hB := hB.trans (hb1.mono hB.size); replace bS := bS.below hb1 bS.lt; clear hb1)
    | (go_at_call 32; refine (S2.out _).mono ?_; rintro e w1 ⟨v1, rfl, hV1, hb1⟩; replace hB := hB.trans (hb1.mono hB.size); replace bS := bS.below hb1 bS.lt; clear hb1)
    | (go_at_call 35; refine (S3.out _).mono ?_; rintro e w1 ⟨v1, rfl, hV1, hb1⟩; replace hB := hB.trans (hb1.mono hB.size); replace bS := bS.below hb1 bS.lt; clear hb1)
    | (go_at_call 16; refine (P2.out _ _ _ hV1).mono ?_; rintro e w2 ⟨rfl, hb2⟩; replace hB := hB.trans (hb2.mono hB.size); replace bS := bS.below hb2 bS.lt; clear hb2 hV1)
    | (go_at_call 18; refine (P3.out _ _ _ hV1).mono ?_; rintro e w2 ⟨rfl, hb2⟩; replace hB := hB.trans (hb2.mono hB.size); replace bS := bS.below hb2 bS.lt; clear hb2 hV1)
    | (go_at_call 20; refine (P4.out _ _ _ hV1).mono ?_; rintro e w2 ⟨rfl, hb2⟩; replace hB := hB.trans (hb2.mono hB.size); replace bS := bS.below hb2 bS.lt; clear hb2 hV1)
    | (go_at_call 22; refine (P5.out _ _ _ hV1).mono ?_; rintro e w2 ⟨rfl, hb2⟩; replace hB := hB.trans (hb2.mono hB.size); replace bS := bS.below hb2 bS.lt; clear hb2 hV1)
    | (go_at_call 24; refine (P6.out _ _ _ hV1).mono ?_; rintro e w2 ⟨rfl, hb2⟩; replace hB := hB.trans (hb2.mono hB.size); replace bS := bS.below hb2 bS.lt; clear hb2 hV1)
    | (go_at_call 26; refine (P7.out _ _ _ hV1).mono ?_; rintro e w2 ⟨rfl, hb2⟩; replace hB := hB.trans (hb2.mono hB.size); replace bS := bS.below hb2 bS.lt; clear hb2 hV1)
    | (go_at_call 28; refine (P8.out _ _ _ hV1).mono ?_; rintro e w2 ⟨rfl, hb2⟩; replace hB := hB.trans (hb2.mono hB.size); replace bS := bS.below hb2 bS.lt; clear hb2 hV1)
    | (go_at_call 30; refine (P9.out _ _ _ hV1).mono ?_; rintro e w2 ⟨rfl, hb2⟩; replace hB := hB.trans (hb2.mono hB.size); replace bS := bS.below hb2 bS.lt; clear hb2 hV1))
  refine Ord.wp_regionF [(0, 1), (1, 2), (2, 0), (3, 0), (4, 0), (5, 0), (6, 0), (7, 0), (8, 0), (9, 0), (10, 0), (11, 0), (12, 0), (13, 0), (14, 0), (15, 0), (16, 0), (17, 0), (18, 0), (19, 0), (20, 0), (21, 0), (22, 0), (23, 0), (24, 0), (25, 0), (26, 0), (27, 0), (28, 0), (29, 0), (30, 0), (31, 0), (32, 0), (33, 0), (34, 0), (35, 0), (36, 0), (37, 0), (38, 0), (39, 0), (40, 0), (41, 0), (42, 0), (43, 0), (44, 0), (45, 0), (46, 0), (47, 0), (48, 0), (49, 0), (50, 0), (51, 0), (52, 0), (53, 0), (54, 0), (55, 0), (56, 0), (57, 0), (58, 0), (59, 0), (60, 0), (61, 0), (62, 0), (63, 0), (64, 0), (65, 0), (66, 0), (67, 0), (68, 0), (69, 0), (70, 0), (71, 0), (72, 0), (73, 0), (74, 0), (75, 0), (76, 0), (77, 0), (78, 0), (79, 0)] (fun W => Below w2.heap.size w2 W) (by kernel_rfl) (by kernel_rfl) (fun c a d v w h => by cases d <;> exact h) (Below.refl _ _).drew ?_
  have lS := bS.lt
  go_wp2_with (first
    | ((with_reducible refine Ord.at_wild ?_); refine Ord.wild_load (ad := ⟨p, 0, none⟩) (.agg #[.int .i64 2, .int .i64 3]) rfl rfl ?_ ?_; (focus (intro W hW; exact loadVar_blk agg_span (bS.below hW (by omega)) rfl)); intro K hK)
    | (go_at_call 34; refine (G.out _ _ _).mono ?_; rintro e w4 ⟨rfl, hb4⟩; refine at_stop ?_)
    | ((with_reducible refine Ord.at_calm ?_); refine Ord.calm_skip rfl ?_ (fun K hK => ?_); (focus (simp [Region.wanted, yielded]; done))) | with_reducible refine Ord.walk_calm rfl rfl (fun K hK => ?_) | ((with_reducible refine Ord.at_wild ?_); refine Ord.wild_fieldAddr rfl rfl (fun W => by simp [go_sem]; rfl) (fun K hK => ?_)) | ((with_reducible refine Ord.at_wild ?_); refine Ord.wild_move rfl rfl (fun K hK => ?_)) | ((with_reducible refine Ord.at_wild ?_); refine Ord.wild_nilCheck rfl rfl (fun K hK => ?_)) | with_reducible refine Ord.walk_eff rfl (by first | (simp; done) | assumption | (go_simp; done) | (repeat (first | assumption | exact Below.refl _ _ | refine Below.drew ?_ | refine Below.alloc ?_ (by first | omega | (simp; done) | (simp; omega)) _ | refine Below.setCell ?_ (by first | omega | (simp; done) | (simp; omega)) _ | refine Below.trans ?_ (Below.mono (by assumption) (by first | omega | (simp; done) | (simp; omega)))))) (fun K hK => ?_) | with_reducible refine Ord.at_fork ?_ ?_ | with_reducible refine Ord.walk_nil ?_ | (with_reducible refine Ord.next_of (by first | (simp; done) | (go_simp; done) | (repeat (first | assumption | exact Below.refl _ _ | refine Below.drew ?_ | refine Below.alloc ?_ (by first | omega | (simp; done) | (simp; omega)) _ | refine Below.setCell ?_ (by first | omega | (simp; done) | (simp; omega)) _ | refine Below.trans ?_ (Below.mono (by assumption) (by first | omega | (simp; done) | (simp; omega)))))) (fun _ => ?_)))
  unfold Stop
  have hB4 : Below w.heap.size w w4 := hB.trans (((Below.refl _ _).drew.trans hb4).mono hB.size)
  have hb24 : Below w2.heap.size w2 w4 := (Below.refl _ _).drew.trans hb4
  clear hb4
  go_wp2_with (first
    | ((with_reducible refine Ord.at_calm ?_); refine Ord.calm_skip rfl ?_ (fun K hK => ?_); (focus (simp [Region.wanted, yielded]; done))) | with_reducible refine Ord.walk_calm rfl rfl (fun K hK => ?_) | ((with_reducible refine Ord.at_wild ?_); refine Ord.wild_fieldAddr rfl rfl (fun W => by simp [go_sem]; rfl) (fun K hK => ?_)) | ((with_reducible refine Ord.at_wild ?_); refine Ord.wild_move rfl rfl (fun K hK => ?_)) | ((with_reducible refine Ord.at_wild ?_); refine Ord.wild_nilCheck rfl rfl (fun K hK => ?_)) | with_reducible refine Ord.walk_eff rfl (by first | (simp; done) | assumption | (go_simp; done) | (repeat (first | assumption | exact Below.refl _ _ | refine Below.drew ?_ | refine Below.alloc ?_ (by first | omega | (simp; done) | (simp; omega)) _ | refine Below.setCell ?_ (by first | omega | (simp; done) | (simp; omega)) _ | refine Below.trans ?_ (Below.mono (by assumption) (by first | omega | (simp; done) | (simp; omega)))))) (fun K hK => ?_) | with_reducible refine Ord.at_fork ?_ ?_ | with_reducible refine Ord.walk_nil ?_ | (with_reducible refine Ord.next_of (by first | (simp; done) | (go_simp; done) | (repeat (first | assumption | exact Below.refl _ _ | refine Below.drew ?_ | refine Below.alloc ?_ (by first | omega | (simp; done) | (simp; omega)) _ | refine Below.setCell ?_ (by first | omega | (simp; done) | (simp; omega)) _ | refine Below.trans ?_ (Below.mono (by assumption) (by first | omega | (simp; done) | (simp; omega)))))) (fun _ => ?_)))
  go_ret
  exact ⟨rfl, hB4⟩
end Go.Proofs.Ytjbjmoghloabpaa
set_option linter.unusedVariables false
set_option linter.unusedSimpArgs false
namespace Go.Proofs.Ytjbjmoghloabpaa
open Go.RowKit Go.Proofs
attribute [local irreducible] Ord.walk
noncomputable def moreCode : Code := Try.f11.body.getD .skip
noncomputable def mFrom : Nat → Code → Code
  | 0, c => c
  | n + 1, c => mFrom n (sR c)
noncomputable def mC23 : Code := mFrom 23 moreCode
set_option maxHeartbeats 40000000 in
set_option maxRecDepth 100000 in
theorem more_last {u0 u1 u2 u3 u5 u6 u7 u8 u9 u10 u11 u12 u13 u14 u15 u16 u17 u18 u19 u20 u23 u24 u25 u26 u27 u28 u29 u30 u31 u32 u33 u34 u35 u36 u37 u38 u39 u40 u41 u42 u43 u44 u45 u46 u47 u48 u49 u50 u51 u52 u53 u54 u55 u56 u57 u58 u59 u60 u61 u62 u63 u64 u65 u66 u67 u68 u69 u70 u71 u72 u73 u74 u75 u76 u77 u78 u79 u80 u81 u82 u83 u84 u85 u86 u87 u88 u89 u90 u91 u92 u93 u94 u95 u96 u97 u98 u99 u100 u101 u102 u103 u104 u105 u106 u107 u108 u109 u110 u111 u112 u113 u114 u115 u116 u117 u118 u119 u120 u121 u122 u123 u124 u125 u126 u127 u128 u129 u130 u131 u132 u133 u134 u135 u136 u137 u138 u139 u140 u141 u142 u143 u144 u145 u146 u147 u148 u149 u150 u151 u152 u153 u154 u155 u156 u157 u158 u159 u160 u161 u162 u163 u164 u165 u166 u167 u168 u169 u170 u171 u172 u173 u174 u175 u176 u177 u178 u179 u180 u181 u182 u183 u184 u185 u186 u187 u188 u189 u190 u191 u192 u193 u194 u195 u196 u197 u198 u199 u200 u201 u202 u203 u204 u205 u206 u207 u208 u209 u210 u211 u212 u213 u214 u215 u216 u217 u218 u219 u220 u221 u222 u223 u224 u225 u226 u227 u228 u229 u230 u231 u232 u233 u234 u235 u236 u237 u238 u239 u240 u241 u242 u243 u244 u245 u246 u247 u248 u249 u250 u251 u252 u253 u254 u255 u256 u257 u258 u259 u260 u261 u262 u263 u264 u265 u266 u267 u268 u269 u270 u271 u272 u273 u274 u275 u276 u277 u278 u279 u280 u281 u282 u283 u284 u285 u286 u287 u288 u289 u290 u291 u292 u293 u294 u295 u296 u297 u298 u299 u300 u301 u302 u303 u304 u305 u306 u307 u308 u309 u310 u311 u312 u313 u314 u315 u316 u317 u318 u319 u320 u321 u322 u323 u324 u325 u326 u327 u328 u329 u330 u331 u332 u333 u334 u335 u336 u337 u338 u339 u340 u341 u342 u343 u344 u345 u346 u347 u348 u349 u350 u351 u352 u353 u354 u355 u356 u357 u358 u359 u360 u361 u362 u363 u364 u365 u366 u367 u368 u369 u370 u371 u372 u373 u374 u375 u376 u377 u378 u379 u380 u381 u382 u383 u384 u385 u386 u387 u388 u389 u390 u391 u392 u393 u394 u395 u396 u397 u398 u399 u400 u401 u402 u403 u404 u405 u406 u407 u408 u409 u410 u411 u412 u413 u414 u415 u416 u417 u418 u419 u420 u421 u422 u423 u424 u425 u426 u427 u428 u429 u430 u431 u432 u433 u434 u435 u436 u437 u438 u439 u440 u441 u442 u443 u444 u445 u446 u447 u448 u449 u450 u451 u452 u453 u454 u455 u456 u457 u458 u459 u460 u461 u462 u463 u464 u465 u466 u467 u468 u469 u470 u471 u472 u473 u474 u475 u476 u477 u478 u479 u480 u481 u482 u483 u484 u485 u486 u487 u488 u489 u490 u491 u492 u493 u494 : Value} (Q : Exit → Act → World → Prop) {b : Bn} {ga pa : Option Addr} {gc pc : Nat} {W : World} {p4 : Nat} {a0 a1 : Option Addr} {c0 c1 : Nat} (hl : b.gs.length ≤ 40 ∧ b.ps.length ≤ 40) (bb : Blk W p4 #[.int .i64 b.V, .int .i64 b.nd, .int .i64 b.lo, .int .i64 b.hi, .slice ga b.gs.length gc, .slice pa b.ps.length pc] 27) (hm : BnAt W b ga pa)
    (h0 : GsAt W a0 b.gs) (h1 : PsAt W a1 b.ps)
    (hexit : ∀ (tm : Array Value) W', tm[8]? = some (.bool true) → Below W.heap.size W W' → Q .ret ⟨tm, []⟩ W') :
    mC23.wp Try.prog Q ⟨(u0 :: u1 :: u2 :: u3 :: .pointer (some ⟨p4, 0, none⟩) :: u5 :: u6 :: u7 :: u8 :: u9 :: u10 :: u11 :: u12 :: u13 :: u14 :: u15 :: u16 :: u17 :: u18 :: u19 :: u20 :: .slice a0 b.gs.length c0 :: .slice a1 b.ps.length c1 :: u23 :: u24 :: u25 :: u26 :: u27 :: u28 :: u29 :: u30 :: u31 :: u32 :: u33 :: u34 :: u35 :: u36 :: u37 :: u38 :: u39 :: u40 :: u41 :: u42 :: u43 :: u44 :: u45 :: u46 :: u47 :: u48 :: u49 :: u50 :: u51 :: u52 :: u53 :: u54 :: u55 :: u56 :: u57 :: u58 :: u59 :: u60 :: u61 :: u62 :: u63 :: u64 :: u65 :: u66 :: u67 :: u68 :: u69 :: u70 :: u71 :: u72 :: u73 :: u74 :: u75 :: u76 :: u77 :: u78 :: u79 :: u80 :: u81 :: u82 :: u83 :: u84 :: u85 :: u86 :: u87 :: u88 :: u89 :: u90 :: u91 :: u92 :: u93 :: u94 :: u95 :: u96 :: u97 :: u98 :: u99 :: u100 :: u101 :: u102 :: u103 :: u104 :: u105 :: u106 :: u107 :: u108 :: u109 :: u110 :: u111 :: u112 :: u113 :: u114 :: u115 :: u116 :: u117 :: u118 :: u119 :: u120 :: u121 :: u122 :: u123 :: u124 :: u125 :: u126 :: u127 :: u128 :: u129 :: u130 :: u131 :: u132 :: u133 :: u134 :: u135 :: u136 :: u137 :: u138 :: u139 :: u140 :: u141 :: u142 :: u143 :: u144 :: u145 :: u146 :: u147 :: u148 :: u149 :: u150 :: u151 :: u152 :: u153 :: u154 :: u155 :: u156 :: u157 :: u158 :: u159 :: u160 :: u161 :: u162 :: u163 :: u164 :: u165 :: u166 :: u167 :: u168 :: u169 :: u170 :: u171 :: u172 :: u173 :: u174 :: u175 :: u176 :: u177 :: u178 :: u179 :: u180 :: u181 :: u182 :: u183 :: u184 :: u185 :: u186 :: u187 :: u188 :: u189 :: u190 :: u191 :: u192 :: u193 :: u194 :: u195 :: u196 :: u197 :: u198 :: u199 :: u200 :: u201 :: u202 :: u203 :: u204 :: u205 :: u206 :: u207 :: u208 :: u209 :: u210 :: u211 :: u212 :: u213 :: u214 :: u215 :: u216 :: u217 :: u218 :: u219 :: u220 :: u221 :: u222 :: u223 :: u224 :: u225 :: u226 :: u227 :: u228 :: u229 :: u230 :: u231 :: u232 :: u233 :: u234 :: u235 :: u236 :: u237 :: u238 :: u239 :: u240 :: u241 :: u242 :: u243 :: u244 :: u245 :: u246 :: u247 :: u248 :: u249 :: u250 :: u251 :: u252 :: u253 :: u254 :: u255 :: u256 :: u257 :: u258 :: u259 :: u260 :: u261 :: u262 :: u263 :: u264 :: u265 :: u266 :: u267 :: u268 :: u269 :: u270 :: u271 :: u272 :: u273 :: u274 :: u275 :: u276 :: u277 :: u278 :: u279 :: u280 :: u281 :: u282 :: u283 :: u284 :: u285 :: u286 :: u287 :: u288 :: u289 :: u290 :: u291 :: u292 :: u293 :: u294 :: u295 :: u296 :: u297 :: u298 :: u299 :: u300 :: u301 :: u302 :: u303 :: u304 :: u305 :: u306 :: u307 :: u308 :: u309 :: u310 :: u311 :: u312 :: u313 :: u314 :: u315 :: u316 :: u317 :: u318 :: u319 :: u320 :: u321 :: u322 :: u323 :: u324 :: u325 :: u326 :: u327 :: u328 :: u329 :: u330 :: u331 :: u332 :: u333 :: u334 :: u335 :: u336 :: u337 :: u338 :: u339 :: u340 :: u341 :: u342 :: u343 :: u344 :: u345 :: u346 :: u347 :: u348 :: u349 :: u350 :: u351 :: u352 :: u353 :: u354 :: u355 :: u356 :: u357 :: u358 :: u359 :: u360 :: u361 :: u362 :: u363 :: u364 :: u365 :: u366 :: u367 :: u368 :: u369 :: u370 :: u371 :: u372 :: u373 :: u374 :: u375 :: u376 :: u377 :: u378 :: u379 :: u380 :: u381 :: u382 :: u383 :: u384 :: u385 :: u386 :: u387 :: u388 :: u389 :: u390 :: u391 :: u392 :: u393 :: u394 :: u395 :: u396 :: u397 :: u398 :: u399 :: u400 :: u401 :: u402 :: u403 :: u404 :: u405 :: u406 :: u407 :: u408 :: u409 :: u410 :: u411 :: u412 :: u413 :: u414 :: u415 :: u416 :: u417 :: u418 :: u419 :: u420 :: u421 :: u422 :: u423 :: u424 :: u425 :: u426 :: u427 :: u428 :: u429 :: u430 :: u431 :: u432 :: u433 :: u434 :: u435 :: u436 :: u437 :: u438 :: u439 :: u440 :: u441 :: u442 :: u443 :: u444 :: u445 :: u446 :: u447 :: u448 :: u449 :: u450 :: u451 :: u452 :: u453 :: u454 :: u455 :: u456 :: u457 :: u458 :: u459 :: u460 :: u461 :: u462 :: u463 :: u464 :: u465 :: u466 :: u467 :: u468 :: u469 :: u470 :: u471 :: u472 :: u473 :: u474 :: u475 :: u476 :: u477 :: u478 :: u479 :: u480 :: u481 :: u482 :: u483 :: u484 :: u485 :: u486 :: u487 :: u488 :: u489 :: u490 :: u491 :: u492 :: u493 :: u494 :: []).toArray, []⟩ W := by
  have HE := Lib.hid hexit
  clear hexit
  have HA := Lib.hid l_alive
  obtain ⟨l0, l1⟩ := hl
  have HRows : Hid (∀ W', Below W.heap.size W W' → BnAt W' b ga pa ∧ GsAt W' a0 b.gs ∧ PsAt W' a1 b.ps) := fun W' hb => ⟨hm.below hb, h0.below hb, h1.below hb⟩
  clear h0 h1 hm
  obtain ⟨w, hw⟩ : ∃ w, w = W := ⟨_, rfl⟩
  rw [← hw] at bb ⊢
  have hB : Below W.heap.size W w := by rw [hw]; exact Below.refl _ _
  clear hw
  conv => arg 2; whnf
  have li0 : (b.gs.length : Int) ≤ 40 := by omega
  go_wp2_with fail
  go_loopw [464] (fun x wr => ∃ k : Nat, k ≤ b.gs.length ∧ x = .int .i64 (k : Int) ∧ Below w.heap.size w wr) (fun x _ => (b.gs.length - (intOf x).toNat))
  case atStart => exact ⟨0, Nat.zero_le _, rfl, Below.refl _ _⟩
  case round =>
    as_aux_lemma =>
      obtain ⟨k, hk, rfl, hBr⟩ := hrel
      have hBw := hB.trans (hBr.mono hB.size)
      have bbr := bb.below hBr bb.lt
      have rb := bbr.cell
      by_cases hlt : k < b.gs.length
      · have hlti : (k : Int) < (b.gs.length : Int) := by omega
        obtain ⟨hmr, q0, q1⟩ := HRows.out _ hBw
        obtain ⟨gb, go, rfl, e0, e1, e2⟩ := q0 k hlt
        obtain ⟨gd, go2, hgd, d0, d1, d2⟩ := hmr.gs k hlt
        subst hgd
        clear hmr q0 q1
        generalize b.gs[k] = x at *
        obtain ⟨x0, x1, x2⟩ := x
        simp only at e0 e1 e2 d0 d1 d2
        go_upto_region 59 with fail
        refine Ord.wp_regionN [(0, 0), (1, 0), (2, 0), (3, 0), (4, 0), (5, 0), (6, 0), (7, 0), (8, 0), (9, 0)] (fun _ => True) (by kernel_rfl) (by kernel_rfl) trivial ?_
        go_wp2_with (first
          | (with_reducible refine Ord.at_nm ?_)
          | ((with_reducible refine Ord.at_calm ?_); refine Ord.calm_skip rfl ?_ (fun K hK => ?_); (focus (simp [Region.wanted, yielded]; done))) | with_reducible refine Ord.walk_calm rfl rfl (fun K hK => ?_) | ((with_reducible refine Ord.at_wild ?_); refine Ord.wild_fieldAddr rfl rfl (fun W => by simp [go_sem]; rfl) (fun K hK => ?_)) | ((with_reducible refine Ord.at_wild ?_); refine Ord.wild_move rfl rfl (fun K hK => ?_)) | ((with_reducible refine Ord.at_wild ?_); refine Ord.wild_nilCheck rfl rfl (fun K hK => ?_)) | with_reducible refine Ord.walk_eff rfl (by first | (simp; done) | assumption | (go_simp; done) | (repeat (first | assumption | exact Below.refl _ _ | refine Below.drew ?_ | refine Below.alloc ?_ (by first | omega | (simp; done) | (simp; omega)) _ | refine Below.setCell ?_ (by first | omega | (simp; done) | (simp; omega)) _ | refine Below.trans ?_ (Below.mono (by assumption) (by first | omega | (simp; done) | (simp; omega)))))) (fun K hK => ?_) | with_reducible refine Ord.at_fork ?_ ?_ | with_reducible refine Ord.walk_nil ?_ | (with_reducible refine Ord.next_of (by first | (simp; done) | (go_simp; done) | (repeat (first | assumption | exact Below.refl _ _ | refine Below.drew ?_ | refine Below.alloc ?_ (by first | omega | (simp; done) | (simp; omega)) _ | refine Below.setCell ?_ (by first | omega | (simp; done) | (simp; omega)) _ | refine Below.trans ?_ (Below.mono (by assumption) (by first | omega | (simp; done) | (simp; omega)))))) (fun _ => ?_)))
        exact ⟨⟨k + 1, by omega, by go_num, hBr.drew⟩, by simp [intOf]; omega⟩
      · have hlti : ¬ (k : Int) < (b.gs.length : Int) := by omega
        clear hBr rb hk hlt hB bb
        have hB := hBw
        have bb := bbr
        clear hBw bbr
        generalize wr = wq0 at *
        clear wr
        have li1 : (b.ps.length : Int) ≤ 40 := by omega
        go_wp2_with fail
        go_loopw [480] (fun x wr => ∃ k : Nat, k ≤ b.ps.length ∧ x = .int .i64 (k : Int) ∧ Below wq0.heap.size wq0 wr) (fun x _ => (b.ps.length - (intOf x).toNat))
        case atStart => exact ⟨0, Nat.zero_le _, rfl, Below.refl _ _⟩
        case round =>
          as_aux_lemma =>
            obtain ⟨k, hk, rfl, hBr⟩ := hrel
            have hBw := hB.trans (hBr.mono hB.size)
            have bbr := bb.below hBr bb.lt
            have rb := bbr.cell
            by_cases hlt : k < b.ps.length
            · have hlti : (k : Int) < (b.ps.length : Int) := by omega
              obtain ⟨hmr, q0, q1⟩ := HRows.out _ hBw
              obtain ⟨gb, go, rfl, e0, e1, e2⟩ := q1 k hlt
              obtain ⟨gd, go2, hgd, d0, d1, d2⟩ := hmr.ps k hlt
              subst hgd
              clear hmr q0 q1
              generalize b.ps[k] = x at *
              obtain ⟨x0, x1, x2⟩ := x
              simp only at e0 e1 e2 d0 d1 d2
              go_upto_region 65 with fail
              refine Ord.wp_regionN [(0, 0), (1, 0), (2, 0), (3, 0), (4, 0), (5, 0), (6, 0), (7, 0), (8, 0), (9, 0)] (fun _ => True) (by kernel_rfl) (by kernel_rfl) trivial ?_
              go_wp2_with (first
                | (with_reducible refine Ord.at_nm ?_)
                | ((with_reducible refine Ord.at_calm ?_); refine Ord.calm_skip rfl ?_ (fun K hK => ?_); (focus (simp [Region.wanted, yielded]; done))) | with_reducible refine Ord.walk_calm rfl rfl (fun K hK => ?_) | ((with_reducible refine Ord.at_wild ?_); refine Ord.wild_fieldAddr rfl rfl (fun W => by simp [go_sem]; rfl) (fun K hK => ?_)) | ((with_reducible refine Ord.at_wild ?_); refine Ord.wild_move rfl rfl (fun K hK => ?_)) | ((with_reducible refine Ord.at_wild ?_); refine Ord.wild_nilCheck rfl rfl (fun K hK => ?_)) | with_reducible refine Ord.walk_eff rfl (by first | (simp; done) | assumption | (go_simp; done) | (repeat (first | assumption | exact Below.refl _ _ | refine Below.drew ?_ | refine Below.alloc ?_ (by first | omega | (simp; done) | (simp; omega)) _ | refine Below.setCell ?_ (by first | omega | (simp; done) | (simp; omega)) _ | refine Below.trans ?_ (Below.mono (by assumption) (by first | omega | (simp; done) | (simp; omega)))))) (fun K hK => ?_) | with_reducible refine Ord.at_fork ?_ ?_ | with_reducible refine Ord.walk_nil ?_ | (with_reducible refine Ord.next_of (by first | (simp; done) | (go_simp; done) | (repeat (first | assumption | exact Below.refl _ _ | refine Below.drew ?_ | refine Below.alloc ?_ (by first | omega | (simp; done) | (simp; omega)) _ | refine Below.setCell ?_ (by first | omega | (simp; done) | (simp; omega)) _ | refine Below.trans ?_ (Below.mono (by assumption) (by first | omega | (simp; done) | (simp; omega)))))) (fun _ => ?_)))
              exact ⟨⟨k + 1, by omega, by go_num, hBr.drew⟩, by simp [intOf]; omega⟩
            · have hlti : ¬ (k : Int) < (b.ps.length : Int) := by omega
              clear hBr rb hk hlt hB bb
              have hB := hBw
              have bb := bbr
              clear hBw bbr
              generalize wr = wq1 at *
              clear wr
              go_wp2_with (first
                | (go_at_call 13; refine (HA.out _).mono ?_; rintro e w2 ⟨rfl, hb2⟩))
              exact HE.out _ _ rfl (hB.trans (hb2.mono hB.size))
end Go.Proofs.Ytjbjmoghloabpaa
