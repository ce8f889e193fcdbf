/- Parts of a proof: MoZB, RngL. -/
import Derived.Test.YteeinehpneppnaaQ25
import Derived.Test.YteeinehpneppnaaQ07
set_option linter.unusedVariables false
set_option linter.unusedSimpArgs false
namespace Go.Proofs.Yteeinehpneppnaa
open Go.RowKit Go.Proofs
attribute [local irreducible] Ord.walk
theorem wpIn_seq_hid {F : Fence} {n : Nat} {P : Program} {x y : Code} {Q : Exit → Act → World → Prop} {a : Act} {w : World} (h : ∀ K : Act → World → Prop, Hid (∀ b v, y.wpIn F n P Q b v → K b v) → x.wpIn F n P (Exit.then K Q) a w) : (Code.seq x y).wpIn F n P Q a w :=
  wpIn_seq (h _ (fun _ _ h => h))
attribute [local go_sem] Oper.semAt_some
noncomputable def whRound : Code := sI (sI (sI (sR (sL (sR (sR (sR (sR (Try.f23.body.getD .skip)))))))))
noncomputable def whR6 : Code := sL whRound
set_option maxHeartbeats 40000000 in
set_option maxRecDepth 100000 in
theorem where_r6 {u0 u1 u2 u3 u6 u7 u12 u13 u14 u15 u16 u17 u18 u19 u20 u21 u22 u23 u24 u25 u26 u27 u28 u29 u30 u31 u32 u33 u34 u35 u36 u37 u38 u39 u40 u41 u42 u43 u44 u45 u46 u47 u48 u49 u50 u51 u52 u53 u54 u55 u56 u57 u58 u59 u60 u61 u62 u63 u64 u65 u66 u67 : Value} {m : Mb} {A : Ma} {pa : Option Addr} {pc wp mb : Nat} {W0 : World} (hv : validM m = true) (hO : Opened W0 wp m A pa pc mb) {L : List Int} (hL : L ∈ prodL m.legs) (i : Nat) (hi : i < m.herds.length)
    (l : Nat) (Q : Exit → Act → World → Prop) (hQ : ¬ LetsOut Q) (hP : ∀ c a w, ¬ Q (.panic c) a w) (W2 : World) (n1 n2 z p9 p10 t11 : Nat) (hW : Way W0 mb m W2) (c8 : Blk W2 z #[.pointer (some ⟨wp, 0, none⟩)] 80) (c1 : Blk W2 n1 #[.int .i64 (i : Int)] 3) (c11 : Blk W2 t11 (legC L) 90)
    (hz : z ≠ mb) (hn1 : n1 ≠ mb) (ht : t11 ≠ mb)
    (hexit : ∀ (x32 x33 x34 x35 x36 x37 x38 : Value) p W', Way W0 mb m W' → Lets (fun j _ => j = mb) W2 W' → W2.heap.size ≤ p → Blk W' p #[.int .i64 (leavesM m L i (everyN m)).1, .int .i64 (leavesM m L i (everyN m)).2] 39 →
      Q .normal ⟨(u0 :: u1 :: u2 :: u3 :: .pointer (some ⟨n1, 0, none⟩) :: .pointer (some ⟨n2, 0, none⟩) :: u6 :: u7 :: .pointer (some ⟨z, 0, none⟩) :: .pointer (some ⟨p9, 0, none⟩) :: .pointer (some ⟨p10, 0, none⟩) :: .pointer (some ⟨t11, 0, none⟩) :: .pointer (some ⟨p, 0, none⟩) :: u13 :: u14 :: u15 :: u16 :: u17 :: u18 :: u19 :: u20 :: u21 :: u22 :: u23 :: u24 :: u25 :: u26 :: u27 :: u28 :: u29 :: u30 :: u31 :: x32 :: x33 :: x34 :: x35 :: x36 :: x37 :: x38 :: u39 :: u40 :: u41 :: u42 :: u43 :: u44 :: u45 :: u46 :: u47 :: u48 :: u49 :: u50 :: u51 :: u52 :: u53 :: u54 :: u55 :: u56 :: u57 :: u58 :: u59 :: u60 :: u61 :: u62 :: u63 :: u64 :: u65 :: u66 :: u67 :: []).toArray, []⟩ W') :
    whR6.wpIn (Fence.wide.inRound l) 0 Try.prog Q ⟨(u0 :: u1 :: u2 :: u3 :: .pointer (some ⟨n1, 0, none⟩) :: .pointer (some ⟨n2, 0, none⟩) :: u6 :: u7 :: .pointer (some ⟨z, 0, none⟩) :: .pointer (some ⟨p9, 0, none⟩) :: .pointer (some ⟨p10, 0, none⟩) :: .pointer (some ⟨t11, 0, none⟩) :: u12 :: u13 :: u14 :: u15 :: u16 :: u17 :: u18 :: u19 :: u20 :: u21 :: u22 :: u23 :: u24 :: u25 :: u26 :: u27 :: u28 :: u29 :: u30 :: u31 :: u32 :: u33 :: u34 :: u35 :: u36 :: u37 :: u38 :: u39 :: u40 :: u41 :: u42 :: u43 :: u44 :: u45 :: u46 :: u47 :: u48 :: u49 :: u50 :: u51 :: u52 :: u53 :: u54 :: u55 :: u56 :: u57 :: u58 :: u59 :: u60 :: u61 :: u62 :: u63 :: u64 :: u65 :: u66 :: u67 :: []).toArray, []⟩ W2 := by
  have HX := Lib.hid hexit
  have hmb := hO.mb_lt
  have hlen := validM_len hv
  have hE5 := everyN_lt hv
  have HL : Hid (∀ W, Way W0 mb m W → Calls Try.prog 80 #[.pointer (some ⟨wp, 0, none⟩), .agg #[.int .i64 (lg L 0), .int .i64 (lg L 1), .int .i64 (lg L 2), .int .i64 (lg L 3), .int .i64 (lg L 4), .int .i64 (i : Int), .int .u64 ((everyN m : Nat) : Int)]] W (LeavesPost m mb (leavesM m L i (everyN m)) W)) := fun W hw => m_leaves hv hL i (everyN m) hi (by omega) W (hO.at_ hw) hw.1
  have HE := Lib.hid (fun W hw => m_everyW hv hO W hw)
  have hsz := hW.2.size
  have hI0 : Way W0 mb m W2.drew ∧ Lets (fun j _ => j = mb) W2 W2.drew := ⟨hW.drew, (Lets.refl _ _).drew⟩
  have hIa : Way W0 mb m (W2.alloc (.cells #[.int .i64 0, .int .i64 0] 39)).drew ∧ Lets (fun j _ => j = mb) W2 (W2.alloc (.cells #[.int .i64 0, .int .i64 0] 39)).drew := ⟨(hW.below ((Below.refl _ _).alloc (Nat.le_refl _) _) hmb).drew, ((Lets.refl _ _).alloc _).drew⟩
  have hbn : Blk (W2.alloc (.cells #[.int .i64 0, .int .i64 0] 39)).drew W2.heap.size #[.int .i64 0, .int .i64 0] 39 := (Blk.new _ _ _).drew
  have hmb2 : W2.heap.size ≠ mb := by omega
  clear hexit
  generalize leavesM m L i (everyN m) = lv at *
  generalize everyN m = E at *
  obtain ⟨v1, v2⟩ := lv
  simp only at *
  conv => arg 4; whnf
  refine Ord.wpIn_regionT (fun ⟨a, w, h⟩ => hQ ⟨a, w, h⟩) 4 (.fork2 [(0, 1), (1, 1), (2, 1), (3, 1), (4, 1), (5, 1)] 6 (.leaf [(7, 2), (8, 2)]) 7 (.leaf [(6, 2), (8, 2)])) (fun W => Way W0 mb m W ∧ Lets (fun j _ => j = mb) W2 W) (by kernel_rfl) (by kernel_rfl) (by kernel_rfl) (fun c a d v w h => (hP c _ w h).elim) hI0 ?_
  go_wp2_with (first
    | ((with_reducible refine Ord.at_wild ?_); refine Ord.wild_load (ad := ⟨z, 0, none⟩) (.pointer (some ⟨wp, 0, none⟩)) rfl rfl ?_ ?_; (focus (intro W hW; have r := (hW.2.blk c8 hz).cell; simp [go_sem, r]; done)); intro K hK)
    | ((with_reducible refine Ord.at_wild ?_); refine Ord.wild_load (ad := ⟨n1, 0, none⟩) (.int .i64 (i : Int)) rfl rfl ?_ ?_; (focus (intro W hW; have r := (hW.2.blk c1 hn1).cell; simp [go_sem, r]; done)); intro K hK)
    | ((with_reducible refine Ord.at_wild ?_); refine Ord.wild_load (ad := ⟨t11, 0, none⟩) (.agg (legC L)) rfl rfl ?_ ?_; (focus (intro W hW; have r := (hW.2.blk c11 ht).cell; simp [go_sem, r]; done)); intro K hK)
    | ((with_reducible refine Ord.at_wild ?_); refine Ord.wild_build (.agg #[.int .i64 (lg L 0), .int .i64 (lg L 1), .int .i64 (lg L 2), .int .i64 (lg L 3), .int .i64 (lg L 4), .int .i64 (i : Int), .int .u64 ((E : Nat) : Int)]) rfl ?_ ?_; (focus (intro W hW; simp [go_sem]; done)); intro K hK)
    | (go_at_call 80; refine (HL.out _ (by first | exact hI0.1 | exact hIa.1)).mono ?_; rintro e w5 ⟨rfl, hk5, hl5⟩; have hIb : Way W0 mb m w5 ∧ Lets (fun j _ => j = mb) W2 w5 := (by first | exact ⟨hI0.1.leaves hk5 hl5, hI0.2.trans hl5⟩ | exact ⟨hIa.1.leaves hk5 hl5, hIa.2.trans hl5⟩))
    | (refine Ord.next_of hIb (fun _ => ?_))
    | (refine Ord.next_of hIa (fun _ => ?_))
    | (refine Ord.next_of ⟨hIb.1.below ((Below.refl _ _).alloc (Nat.le_refl _) _) hmb, hIb.2.alloc _⟩ (fun _ => ?_))
    | (refine wpList_store_blk 39 (.tmp 12) (.tmp 38) agg_span rfl rfl rfl rfl (hl5.blk hbn hmb2) rfl rfl (by simp [Value.oneCell']) ?_; intro w8 h8; have hl8 : Lets (fun j _ => j = W2.heap.size) w5 w8 := (Lets.refl _ _).rowed h8 rfl; have hIb : Way W0 mb m w8 ∧ Lets (fun j _ => j = mb) W2 w8 := ⟨hIb.1.lets hl8 hmb (fun _ _ e => by omega), hIb.2.next hl8 (fun j hj hx => by omega)⟩)
    | (with_reducible refine Ord.at_nm ?_)
    | with_reducible refine Ord.top_two ?_ | with_reducible refine Ord.top_three ?_ | with_reducible refine Ord.at_two ?_ ?_ | with_reducible refine Ord.at_three ?_ ?_ ?_ | with_reducible refine Ord.tree_leaf ?_ | with_reducible refine Ord.tree_two ?_ | ((with_reducible refine Ord.at_calm ?_); refine Ord.calm_skip rfl ?_ (fun K hK => ?_); (focus (simp [Region.wanted, yielded]; done))) | with_reducible refine Ord.walk_calm rfl rfl (fun K hK => ?_) | ((with_reducible refine Ord.at_wild ?_); refine Ord.wild_fieldAddr rfl rfl (fun W => by simp [go_sem]; rfl) (fun K hK => ?_)) | ((with_reducible refine Ord.at_wild ?_); refine Ord.wild_move rfl rfl (fun K hK => ?_)) | ((with_reducible refine Ord.at_wild ?_); refine Ord.wild_nilCheck rfl rfl (fun K hK => ?_)) | with_reducible refine Ord.walk_eff rfl (by first | (simp; done) | assumption | (go_simp; done) | (repeat (first | assumption | exact Below.refl _ _ | refine Below.drew ?_ | refine Below.alloc ?_ (by first | omega | (simp; done) | (simp; omega)) _ | refine Below.setCell ?_ (by first | omega | (simp; done) | (simp; omega)) _ | refine Below.trans ?_ (Below.mono (by assumption) (by first | omega | (simp; done) | (simp; omega)))))) (fun K hK => ?_) | with_reducible refine Ord.at_fork ?_ ?_ | with_reducible refine Ord.walk_nil ?_ | (with_reducible refine Ord.next_of (by first | (simp; done) | (go_simp; done) | (repeat (first | assumption | exact Below.refl _ _ | refine Below.drew ?_ | refine Below.alloc ?_ (by first | omega | (simp; done) | (simp; omega)) _ | refine Below.setCell ?_ (by first | omega | (simp; done) | (simp; omega)) _ | refine Below.trans ?_ (Below.mono (by assumption) (by first | omega | (simp; done) | (simp; omega)))))) (fun _ => ?_))
    | ((with_reducible refine Ord.at_wild ?_); refine Ord.wild_call rfl (fun W => Try.call47 _ W) (fun W hW => HE.out W hW.1) (fun K hK => ?_)))
  · exact HX.out _ _ _ _ _ _ _ _ _ (hIb.1.below ((Below.refl _ _).alloc (Nat.le_refl _) _) hmb) (hIb.2.alloc _) hIb.2.size (Blk.new _ _ _)
  · exact HX.out _ _ _ _ _ _ _ _ _ hIb.1 hIb.2 (Nat.le_refl _) h8.blk
theorem lvTo_sub {m : Mb} (hv : validM m = true) (L : List Int) {h : Nat} (hh : h < m.herds.length) (set : Nat) : ∀ k, 0 ≤ (lvTo m L h set k).1 ∧ (lvTo m L h set k).2 ≤ 30
  | 0 => by
    have := validM_herd hv hh
    simp only [lvTo]
    omega
  | k + 1 => by
    have ih := lvTo_sub hv L hh set k
    simp only [lvTo]
    split
    · simp only; omega
    · exact ih
theorem leavesM_sub {m : Mb} (hv : validM m = true) (L : List Int) {h : Nat} (hh : h < m.herds.length) (set : Nat) : 0 ≤ (leavesM m L h set).1 ∧ (leavesM m L h set).2 ≤ 30 := lvTo_sub hv L hh set _
/-- The set behind some days on which a mob can leave. -/
def daySet (m : Mb) (L : List Int) (s : Nat) (day v1 : Int) (S : Nat) : Nat → Nat
  | 0 => S
  | k + 1 => daySet m L s day v1 S k ||| 2 ^ nowP m L s (v1 + k) day
theorem daySet_eq (m : Mb) (L : List Int) (s : Nat) (day v1 : Int) (S : Nat) : ∀ k, daySet m L s day v1 S k = orL S ((List.range k).map fun j : Nat => nowP m L s (v1 + j) day)
  | 0 => rfl
  | k + 1 => by rw [List.range_succ, List.map_append, orL_append, ← daySet_eq m L s day v1 S k]; rfl
theorem daySet_lt {m : Mb} (hv : validM m = true) (L : List Int) {s : Nat} (hs : s < m.places.length) (day v1 : Int) {S : Nat} (hS : S < 64) (k : Nat) : daySet m L s day v1 S k < 64 := by
  rw [daySet_eq]
  refine orL_lt hS _ fun p hp => ?_
  obtain ⟨j, -, rfl⟩ := List.mem_map.1 hp
  have := validM_len hv
  have := nowTo_in L s (v1 + j) day (m.places.length - s) (by omega) hs
  unfold nowP
  omega
set_option maxHeartbeats 40000000 in
set_option maxRecDepth 100000 in
theorem where_round {u0 u1 u2 u3 u6 u7 u12 u13 u14 u15 u16 u17 u18 u19 u20 u21 u22 u23 u24 u25 u26 u27 u28 u29 u30 u31 u32 u33 u34 u35 u36 u37 u38 u39 u40 u41 u42 u43 u44 u45 u46 u47 u48 u49 u50 u51 u52 u53 u54 u55 u56 u57 u58 u59 u60 u61 u62 u63 u64 u65 u66 u67 : Value} {m : Mb} {A : Ma} {pa : Option Addr} {pc wp mb : Nat} {W0 : World} (hv : validM m = true) (hO : Opened W0 wp m A pa pc mb) {L : List Int} (hL : L ∈ prodL m.legs) (i : Nat) (hi : i < m.herds.length) (s : Nat) (hs : s < m.places.length) (q2 q3 q4 day : Int) (S : Nat) (hS : S < 64)
    (l : Nat) (Q : Exit → Act → World → Prop) (hQ : ¬ LetsOut Q) (hP : ∀ c a w, ¬ Q (.panic c) a w) (W2 : World) (n1 n2 z p9 p10 t11 : Nat) (hW : Way W0 mb m W2) (c8 : Blk W2 z #[.pointer (some ⟨wp, 0, none⟩)] 80) (c1 : Blk W2 n1 #[.int .i64 (i : Int)] 3) (c2 : Blk W2 n2 #[.int .i64 day] 3) (c9 : Blk W2 p9 #[.int .i64 (S : Int)] 3) (c10 : Blk W2 p10 #[.int .i64 (s : Int), .int .i64 q2, .int .i64 q3, .int .i64 q4] 116) (c11 : Blk W2 t11 (legC L) 90)
    (hlp : ∃ r, W2.heap[l]? = some (.loop r)) (hne : z ≠ mb ∧ n1 ≠ mb ∧ n2 ≠ mb ∧ p9 ≠ mb ∧ p10 ≠ mb ∧ t11 ≠ mb ∧ l ≠ mb ∧ l ≠ p9) (h9 : p9 ≠ z ∧ p9 ≠ n2 ∧ p9 ≠ t11 ∧ p9 ≠ p10 ∧ p9 ≠ n1) (h90 : W0.heap.size ≤ p9)
    (hexit : ∀ (x12 x13 x14 x15 x16 x32 x33 x34 x35 x36 x37 x38 x39 x40 x41 x42 x43 x44 x45 x46 x47 x48 x49 x50 x51 x52 x53 x54 x55 x56 x57 x58 x59 x60 x61 x62 x63 x64 x65 x66 : Value) W', Way W0 mb m W' → Lets (fun j _ => j = mb ∨ j = p9) W2 W' → Blk W' p9 #[.int .i64 ((orL S ((rangeI (leavesM m L i (everyN m)).1 (leavesM m L i (everyN m)).2).map fun n => nowP m L s n day) : Nat) : Int)] 3 →
      Q .normal ⟨(u0 :: u1 :: u2 :: u3 :: .pointer (some ⟨n1, 0, none⟩) :: .pointer (some ⟨n2, 0, none⟩) :: u6 :: u7 :: .pointer (some ⟨z, 0, none⟩) :: .pointer (some ⟨p9, 0, none⟩) :: .pointer (some ⟨p10, 0, none⟩) :: .pointer (some ⟨t11, 0, none⟩) :: x12 :: x13 :: x14 :: x15 :: x16 :: u17 :: u18 :: u19 :: u20 :: u21 :: u22 :: u23 :: u24 :: u25 :: u26 :: u27 :: u28 :: u29 :: u30 :: u31 :: x32 :: x33 :: x34 :: x35 :: x36 :: x37 :: x38 :: x39 :: x40 :: x41 :: x42 :: x43 :: x44 :: x45 :: x46 :: x47 :: x48 :: x49 :: x50 :: x51 :: x52 :: x53 :: x54 :: x55 :: x56 :: x57 :: x58 :: x59 :: x60 :: x61 :: x62 :: x63 :: x64 :: x65 :: x66 :: u67 :: []).toArray, []⟩ W') :
    whRound.wpIn (Fence.wide.inRound l) 0 Try.prog Q ⟨(u0 :: u1 :: u2 :: u3 :: .pointer (some ⟨n1, 0, none⟩) :: .pointer (some ⟨n2, 0, none⟩) :: u6 :: u7 :: .pointer (some ⟨z, 0, none⟩) :: .pointer (some ⟨p9, 0, none⟩) :: .pointer (some ⟨p10, 0, none⟩) :: .pointer (some ⟨t11, 0, none⟩) :: u12 :: u13 :: u14 :: u15 :: u16 :: u17 :: u18 :: u19 :: u20 :: u21 :: u22 :: u23 :: u24 :: u25 :: u26 :: u27 :: u28 :: u29 :: u30 :: u31 :: u32 :: u33 :: u34 :: u35 :: u36 :: u37 :: u38 :: u39 :: u40 :: u41 :: u42 :: u43 :: u44 :: u45 :: u46 :: u47 :: u48 :: u49 :: u50 :: u51 :: u52 :: u53 :: u54 :: u55 :: u56 :: u57 :: u58 :: u59 :: u60 :: u61 :: u62 :: u63 :: u64 :: u65 :: u66 :: u67 :: []).toArray, []⟩ W2 := by
  have hlv := leavesM_sub hv L hi (everyN m)
  have hlv2 := leavesM_in hv hL i (everyN m)
  have hmb := hO.mb_lt
  have hr6 := fun Q hQ hP hexit => where_r6 (u0 := u0) (u1 := u1) (u2 := u2) (u3 := u3) (u6 := u6) (u7 := u7) (u12 := u12) (u13 := u13) (u14 := u14) (u15 := u15) (u16 := u16) (u17 := u17) (u18 := u18) (u19 := u19) (u20 := u20) (u21 := u21) (u22 := u22) (u23 := u23) (u24 := u24) (u25 := u25) (u26 := u26) (u27 := u27) (u28 := u28) (u29 := u29) (u30 := u30) (u31 := u31) (u32 := u32) (u33 := u33) (u34 := u34) (u35 := u35) (u36 := u36) (u37 := u37) (u38 := u38) (u39 := u39) (u40 := u40) (u41 := u41) (u42 := u42) (u43 := u43) (u44 := u44) (u45 := u45) (u46 := u46) (u47 := u47) (u48 := u48) (u49 := u49) (u50 := u50) (u51 := u51) (u52 := u52) (u53 := u53) (u54 := u54) (u55 := u55) (u56 := u56) (u57 := u57) (u58 := u58) (u59 := u59) (u60 := u60) (u61 := u61) (u62 := u62) (u63 := u63) (u64 := u64) (u65 := u65) (u66 := u66) (u67 := u67) hv hO hL i hi l Q hQ hP W2 n1 n2 z p9 p10 t11 hW c8 c1 c11 hne.1 hne.2.1 hne.2.2.2.2.2.1 hexit
  have HR6 := Lib.hid hr6
  have hrg : orL S ((rangeI (leavesM m L i (everyN m)).1 (leavesM m L i (everyN m)).2).map fun n => nowP m L s n day) = daySet m L s day (leavesM m L i (everyN m)).1 S ((leavesM m L i (everyN m)).2 - (leavesM m L i (everyN m)).1 + 1).toNat := by
    rw [daySet_eq]; unfold rangeI; rw [List.map_map]; rfl
  rw [hrg] at hexit
  clear hrg hr6
  have HX := Lib.hid hexit
  clear hexit
  generalize leavesM m L i (everyN m) = lv at *
  obtain ⟨v1, v2⟩ := lv
  simp only at *
  have hDL := Lib.hid (fun k => daySet_lt hv L hs day v1 hS k)
  obtain ⟨K, hK⟩ : ∃ K, (v2 - v1 + 1).toNat = K := ⟨_, rfl⟩
  rw [hK] at HX
  conv => arg 4; whnf
  refine wpIn_seq ?_
  refine HR6.out _ (fun ⟨a, w, h⟩ => hQ ⟨a, w, h⟩) (fun c a w h => hP c a w h) ?_
  clear HR6
  intro x32 x33 x34 x35 x36 x37 x38 p W' hW' hl' hp hb
  simp only [Exit.then]
  have rb := hb.cell
  have hpz := hl'.size
  have hpn : p ≠ p9 := by have := c9.lt; omega
  (repeat (first | ((with_reducible refine wpIn_region_of ?_ ?_ ?_); (focus exact fun ⟨a, w, h⟩ => hQ ⟨a, w, h⟩); (focus rfl)) | gi_step))
  go_wp2_with fail
  gi_wp2_with fail
  gi_loopw [13] (fun iv wr => ∃ k : Nat, k ≤ K ∧ iv = .int .i64 (v1 + (k : Int)) ∧ Way W0 mb m wr ∧ Lets (fun j _ => j = p9) W' wr ∧ Blk wr p9 #[.int .i64 (daySet m L s day v1 S k : Nat)] 3) (fun iv _ => (v2 + 1 - intOf iv).toNat)
  case atStart =>
    refine ⟨0, Nat.zero_le _, by go_num, hW', Lets.refl _ _, hl'.blk c9 (by omega)⟩
  case round =>
    obtain ⟨k, hk, rfl, hWr, hLr, hBr⟩ := hrel
    have hbr := hLr.blk hb (by omega)
    have rb := hbr.cell
    have hDk := hDL.out k
    have e8 := hLr.blk (hl'.blk c8 hne.1) (fun e => h9.1 e.symm)
    have e2 := hLr.blk (hl'.blk c2 hne.2.2.1) (fun e => h9.2.1 e.symm)
    have e10 := hLr.blk (hl'.blk c10 hne.2.2.2.2.1) (fun e => h9.2.2.2.1 e.symm)
    have e11 := hLr.blk (hl'.blk c11 hne.2.2.2.2.2.1) (fun e => h9.2.2.1 e.symm)
    obtain ⟨r, hr⟩ := hlp
    have hlr : ∃ r, wr.heap[l]? = some (.loop r) := ⟨r, (hLr.block l (by have := (Array.getElem?_eq_some_iff.1 hr).1; have := hl'.size; omega) hne.2.2.2.2.2.2.2).trans ((hl'.block l (Array.getElem?_eq_some_iff.1 hr).1 hne.2.2.2.2.2.2.1).trans hr)⟩
    have HS1 : Hid (daySet m L s day v1 S (k + 1) = daySet m L s day v1 S k ||| 2 ^ nowP m L s (v1 + k) day) := rfl
    clear hDL c8 c1 c2 c9 c10 c11 hr
    by_cases hlt : k < K
    · have hle : v1 + (k : Int) ≤ v2 := by omega
      refine wpIn_seq_hid fun K2 HK2 => ?_
      (repeat (first | ((with_reducible refine wpIn_region_of ?_ ?_ ?_); (focus exact fun ⟨a, w, h⟩ => hQ ⟨a, w, h⟩); (focus rfl)) | gi_step))
      go_wp2_with fail
      gi_wp2_with fail
      refine HK2.out _ _ ?_
      clear HK2
      refine wpIn_seq_hid fun K3 HK3 => ?_
      refine wpIn_block ?_
      refine where_day hv hO hL s hs q2 q3 q4 (v1 + (k : Int)) day (by omega) (by omega) _ hDk l _ ?hq ?hp wr z t11 n2 p9 p10 hWr e8 e2 hBr e10 e11 hlr ⟨h9.1, h9.2.1, h9.2.2.1, h9.2.2.2.1⟩ h90 ?hx
      case hq => exact fun ⟨a, w, h⟩ => hQ ⟨a, w, h⟩
      case hp => exact fun c a w h => hP c a w h
      intro y14 y47 y48 y49 y50 y51 y52 y53 y54 y55 y56 y63 y64 y65 y66 W3 hl3 hb3
      simp only [Exit.inBlock, Exit.then]
      refine HK3.out _ _ ?_
      rw [← HS1.out] at hb3
      have hW3 : Way W0 mb m W3 := hWr.lets hl3 hmb (fun _ _ e => by omega)
      have hL3 := hLr.trans hl3
      obtain ⟨SS, hSS⟩ : ∃ SS, daySet m L s day v1 S (k + 1) = SS := ⟨_, rfl⟩
      rw [hSS] at hb3
      have HSS := Lib.hid hSS
      clear hSS HS1
      (repeat (first | ((with_reducible refine wpIn_region_of ?_ ?_ ?_); (focus exact fun ⟨a, w, h⟩ => hQ ⟨a, w, h⟩); (focus rfl)) | gi_step))
      go_wp2_with fail
      gi_wp2_with fail
      exact ⟨⟨k + 1, by omega, by go_num, hW3, hL3, by rw [HSS.out]; exact hb3⟩, by simp [intOf]; omega⟩
    · have hle : ¬ v1 + (k : Int) ≤ v2 := by omega
      have hkK : k = K := by omega
      (repeat (first | ((with_reducible refine wpIn_region_of ?_ ?_ ?_); (focus exact fun ⟨a, w, h⟩ => hQ ⟨a, w, h⟩); (focus rfl)) | gi_step))
      go_wp2_with fail
      gi_wp2_with fail
      refine HX.out _ _ _ _ _ _ _ _ _ _ _ _ _ _ _ _ _ _ _ _ _ _ _ _ _ _ _ _ _ _ _ _ _ _ _ _ _ _ _ _ _ hWr ((hl'.mono fun _ _ e => .inl e).trans (hLr.mono fun _ _ e => .inr e)) ?_
      rw [← hkK]; exact hBr
end Go.Proofs.Yteeinehpneppnaa
set_option linter.unusedVariables false
set_option linter.unusedSimpArgs false
namespace Go
open Go.RowKit
variable {P : Program}
/-- What is asked of a round: assignment, body. -/
def RoundOkL (P : Program) (L : Nat) (XB : Nat → Option Obj → Prop) (Mid : World → Prop) (I0 I1 : World → Prop) (Ix : Code → World → Prop) (assign body : Code) (tmps : Array Value) (W : World) : Prop :=
  assign.wpIn (Fence.wide.inRound L) 0 P (Exit.then (fun a₁ W₁ => Lets (fun _ _ => False) W W₁ ∧ ∀ W₂, Lets (fun j _ => j = L) W₁ W₂ → W₂.heap.size = W₁.heap.size → (∃ r, W₂.heap[L]? = some (.loop r)) → I0 W₂ → Mid W₂ →
    body.wpIn (Fence.wide.inRound L) 0 P (rngPost XB Mid I1 Ix W₂) a₁ W₂) (fun _ _ _ => False)) { tmps, defers := [] } W

theorem range_coreL {α : Type} {gf : Nat} {lb : Array Value} {encs : α → Array Value} {xs : List α} {XI XB : Nat → Option Obj → Prop} {Mid : World → Prop} {I : Nat → World → Prop} {Ix : Code → World → Prop} {L D : Nat} {W1 : World}
    {fn : FuncId} {tmps : Array Value} {ps : Array Tmp} {assign body : Code}
    (hL : W1.heap[L]? = some (.loop { state := .ready, pending := none, fn, tmps, params := ps, assign, body, defers := D }))
    (hps : ∀ x, (encs x).size = ps.size)
    (hseq : SeqAt P gf lb encs xs XI (fun j o => XB j o ∨ j = L) Mid L W1)
    (hXI : ∀ o, ¬ XI L o) (hXB : ∀ o, ¬ XB L o)
    (hI : ∀ k A B, I k A → Lets XI A B → I k B) (hIx : ∀ c A B, Ix c A → Lets XI A B → Ix c B)
    (hI2 : ∀ k A B, I k A → Lets (fun j _ => j = L) A B → I k B) (hIx2 : ∀ c A B, Ix c A → Lets (fun j _ => j = L) A B → Ix c B) (hM2 : ∀ A B, Mid A → Lets (fun j _ => j = L) A B → Mid B)
    (h0 : I 0 W1)
    (hround : ∀ k (h : k < xs.length) W, I k W → Mid W → (∃ r, W.heap[L]? = some (.loop r) ∧ r.defers = D) → RoundOkL P L XB Mid (I k) (I (k + 1)) Ix assign body ((ps.zip (encs xs[k])).foldl (fun t (p, v) => t.setIfInBounds p v) tmps) W) :
    CallsIn Fence.wide 0 P gf (#[.func (.yield L) #[] #[]] ++ lb) W1 fun e W2 => (∃ v, e = .returned v) ∧
      ((∃ W', (Instr.endLoop L).run P W2 = .ok none W' ∧ I xs.length W' ∧ Mid W') ∨ (∃ c W', (Instr.endLoop L).run P W2 = .ok (some c) W' ∧ Ix c W' ∧ Mid W')) := by
  obtain ⟨rec, hrec⟩ : ∃ rec : LoopState → Option Code → Loop, rec = fun st pe => { state := st, pending := pe, fn, tmps, params := ps, assign, body, defers := D } := ⟨_, rfl⟩
  have hL1 : W1.heap[L]? = some (.loop (rec .ready none)) := by rw [hrec]; exact hL
  clear hL
  have hturn : ∀ (A : World) (o : Obj), Lets (fun j _ => j = L) A (A.putObj L o) := fun A o => (Lets.refl _ _).putObj rfl _
  refine (hseq (fun k W => I k W ∧ W.heap[L]? = some (.loop (rec .ready none))) (fun W => ∃ c, Ix c W ∧ W.heap[L]? = some (.loop (rec .done (some c))))
    (fun k A B h hl => ⟨hI k A B h.1 hl, (hl.block L (Array.getElem?_eq_some_iff.1 h.2).1 (hXI _)).trans h.2⟩)
    (fun A B h hl => by obtain ⟨c, h1, h2⟩ := h; exact ⟨c, hIx c A B h1 hl, (hl.block L (Array.getElem?_eq_some_iff.1 h2).1 (hXI _)).trans h2⟩)
    ?_ ⟨h0, hL1⟩).mono ?_
  · rintro k hk W ⟨hi, hl⟩ hmid
    have hlt : L < W.heap.size := (Array.getElem?_eq_some_iff.1 hl).1
    have hy := run_yield (P := P) (args := encs xs[k]) hl (by rw [hrec]; exact hps _)
    rw [hrec] at hy
    refine ⟨fn, _, assign, body, hy, roundIn_of_wpIn trivial (wpIn_mono (hround k hk W hi hmid ⟨_, hl, by rw [hrec]⟩) ?_)⟩
    clear hy
    rintro e a₁ Wa ha
    cases e with
    | normal =>
      obtain ⟨hWa, hbody⟩ := ha
      have hla : Wa.heap[L]? = some (.loop (rec .ready none)) := (hWa.block L hlt (fun e => e)).trans hl
      have hlta : L < Wa.heap.size := (Array.getElem?_eq_some_iff.1 hla).1
      refine ⟨_, run_beginRound hla (by rw [hrec]), ?_⟩
      obtain ⟨W₂, hW₂⟩ : ∃ W₂, Wa.putObj L (.loop { rec .ready none with state := .busy }) = W₂ := ⟨_, rfl⟩
      rw [hW₂]
      have h2 : Lets (fun j _ => j = L) Wa W₂ := by rw [← hW₂]; exact hturn _ _
      have hl2 : W₂.heap[L]? = some (.loop { rec .ready none with state := .busy }) := by rw [← hW₂]; exact World.putObj_heap_same hlta
      have hs2 : W₂.heap.size = Wa.heap.size := by rw [← hW₂]; simp
      have hWa' : Lets (fun j _ => j = L) W Wa := hWa.mono (fun _ _ e => e.elim)
      refine wpIn_mono (hbody W₂ h2 hs2 ⟨_, hl2⟩ (hI2 k _ _ hi (hWa'.trans h2)) (hM2 _ _ hmid (hWa'.trans h2))) ?_
      have fin : ∀ (jump : Option Code) (W3 : World), Lets XB W₂ W3 →
          (Instr.endRound L jump).run P W3 = .ok (.bool jump.isNone) (W3.putObj L (.loop (rec (if jump.isNone then .ready else .done) jump))) ∧
          (W3.putObj L (.loop (rec (if jump.isNone then .ready else .done) jump))).heap[L]? = some (.loop (rec (if jump.isNone then .ready else .done) jump)) ∧
          Lets (fun j o => XB j o ∨ j = L) W (W3.putObj L (.loop (rec (if jump.isNone then .ready else .done) jump))) := fun jump W3 h3 => by
        have hl3 := (h3.block L (Array.getElem?_eq_some_iff.1 hl2).1 (hXB _)).trans hl2
        have := run_endRound (P := P) jump hl3
        rw [hrec] at this ⊢
        refine ⟨this, World.putObj_heap_same (Array.getElem?_eq_some_iff.1 hl3).1, ?_⟩
        exact ((((hWa'.trans h2).mono (fun _ _ e => .inr e)) : Lets (fun j o => XB j o ∨ j = L) W W₂).trans (h3.mono (fun _ _ e => .inl e))).putObj (.inr rfl) _
      rintro e a3 W3 hp
      cases e with
      | normal =>
        obtain ⟨h3, hm3, hi3⟩ := hp
        obtain ⟨hr, hl4, h4⟩ := fin none W3 h3
        exact ⟨_, _, hr, h4, hM2 _ _ hm3 (hturn _ _), .inl ⟨rfl, hI2 _ _ _ hi3 (hturn _ _), hl4⟩⟩
      | ret =>
        obtain ⟨h3, hm3, hi3⟩ := hp
        obtain ⟨hr, hl4, h4⟩ := fin (some .ret) W3 h3
        exact ⟨_, _, hr, h4, hM2 _ _ hm3 (hturn _ _), .inr ⟨rfl, .ret, hIx2 _ _ _ hi3 (hturn _ _), hl4⟩⟩
      | exit id =>
        obtain ⟨h3, hm3, hi3⟩ := hp
        obtain ⟨hr, hl4, h4⟩ := fin (some (.exit id)) W3 h3
        exact ⟨_, _, hr, h4, hM2 _ _ hm3 (hturn _ _), .inr ⟨rfl, .exit id, hIx2 _ _ _ hi3 (hturn _ _), hl4⟩⟩
      | goto t =>
        obtain ⟨h3, hm3, hi3⟩ := hp
        obtain ⟨hr, hl4, h4⟩ := fin (some (.goto t)) W3 h3
        exact ⟨_, _, hr, h4, hM2 _ _ hm3 (hturn _ _), .inr ⟨rfl, .goto t, hIx2 _ _ _ hi3 (hturn _ _), hl4⟩⟩
      | panic ch => exact hp.elim
      | outgrown => exact hp.elim
    | ret => exact ha.elim
    | exit id => exact ha.elim
    | goto t => exact ha.elim
    | panic ch => exact ha.elim
    | outgrown => exact ha.elim
  · rintro e W2 ⟨hv, hm, (⟨hi, hl⟩ | ⟨c, hi, hl⟩)⟩
    · refine ⟨hv, .inl ⟨W2.putObj L (.loop (rec .exhausted none)), ?_, hI2 _ _ _ hi (hturn _ _), hM2 _ _ hm (hturn _ _)⟩⟩
      exact (by have := run_endLoop (P := P) hl (by rw [hrec]; simp); rw [hrec] at this ⊢; exact this)
    · refine ⟨hv, .inr ⟨c, W2.putObj L (.loop (rec .exhausted (some c))), ?_, hIx2 _ _ _ hi (hturn _ _), hM2 _ _ hm (hturn _ _)⟩⟩
      exact (by have := run_endLoop (P := P) hl (by rw [hrec]; simp); rw [hrec] at this ⊢; exact this)

/-- An outermost loop. -/
theorem wp_rangeL {α : Type} {g : Operand} {ps : Array Tmp} {assign body : Code} {Q : Exit → Act → World → Prop} {a : Act} {w : World} {gf : Nat} {lb : Array Value}
    {encs : α → Array Value} {xs : List α} {XI XB : Nat → Option Obj → Prop} {Mid : World → Prop} (I : Nat → World → Prop) (Ix : Code → World → Prop)
    (hg : a.eval g = .func (.func gf) #[] lb) (eg : ∀ args w, (callFunc gf args).run P w = .ok (.enter gf args) w) (hps : ∀ x, (encs x).size = ps.size)
    (hseq : ∀ W1, Below w.heap.size w W1 → W1.heap.size = w.heap.size + 2 → SeqAt P gf lb encs xs XI (fun j o => XB j o ∨ j = w.heap.size + 1) Mid (w.heap.size + 1) W1)
    (hXI : ∀ j o, w.heap.size ≤ j → j ≤ w.heap.size + 1 → ¬ XI j o) (hXB : ∀ j o, w.heap.size ≤ j → j ≤ w.heap.size + 1 → ¬ XB j o)
    (hI : ∀ k A B, I k A → Lets XI A B → I k B) (hIx : ∀ c A B, Ix c A → Lets XI A B → Ix c B)
    (hI2 : ∀ k A B, I k A → Lets (fun j _ => w.heap.size ≤ j ∧ j ≤ w.heap.size + 1) A B → I k B) (hIx2 : ∀ c A B, Ix c A → Lets (fun j _ => w.heap.size ≤ j ∧ j ≤ w.heap.size + 1) A B → Ix c B) (hM2 : ∀ A B, Mid A → Lets (fun j _ => w.heap.size ≤ j ∧ j ≤ w.heap.size + 1) A B → Mid B)
    (h0 : I 0 w)
    (hround : ∀ k (h : k < xs.length) W, I k W → Mid W → w.heap.size + 2 ≤ W.heap.size → (∃ r, W.heap[w.heap.size + 1]? = some (.loop r)) → RoundOkL P (w.heap.size + 1) XB Mid (I k) (I (k + 1)) Ix assign body ((ps.zip (encs xs[k])).foldl (fun t (p, v) => t.setIfInBounds p v) a.tmps) W)
    (hdone : ∀ W, I xs.length W → Mid W → W.heap[w.heap.size]? = some (.deferred (some [])) → Q .normal { a with defers := { target := .collected w.heap.size, args := #[] } :: a.defers } W)
    (hstop : ∀ c W, Ix c W → Mid W → W.heap[w.heap.size]? = some (.deferred (some [])) → c.wpIn Fence.wide 0 P Q { a with defers := { target := .collected w.heap.size, args := #[] } :: a.defers } W) :
    (Code.rangeFunc g ps assign body).wpIn Fence.wide 0 P Q a w := by
  refine wpIn_rangeFunc ?_
  intro fn _
  obtain ⟨W1, hW1⟩ : ∃ W1, (w.alloc (.deferred (some []))).alloc (.loop { state := .ready, pending := none, fn, tmps := a.tmps, params := ps, assign, body, defers := w.heap.size }) = W1 := ⟨_, rfl⟩
  have hL1 : W1.heap[w.heap.size + 1]? = some (.loop { state := .ready, pending := none, fn, tmps := a.tmps, params := ps, assign, body, defers := w.heap.size }) := by
    rw [← hW1]; have := World.alloc_heap_new (w.alloc (.deferred (some []))) (.loop { state := .ready, pending := none, fn, tmps := a.tmps, params := ps, assign, body, defers := w.heap.size }); rwa [World.size_alloc] at this
  have hK1 : W1.heap[w.heap.size]? = some (.deferred (some [])) := by
    rw [← hW1]; exact (Below.heap_alloc _ _ _ (by simp)).trans (World.alloc_heap_new w _)
  have hb1 : Below w.heap.size w W1 := by rw [← hW1]; exact ((Below.refl _ w).alloc (Nat.le_refl _) _).alloc (by simp) _
  have hs1 : W1.heap.size = w.heap.size + 2 := by rw [← hW1]; simp
  have hn1 : ∀ Y, Lets Y w W1 := fun Y => Lets.of_below hb1
  have hLD : ∀ {A B : World}, Lets (fun j _ => j = w.heap.size + 1) A B → Lets (fun j _ => w.heap.size ≤ j ∧ j ≤ w.heap.size + 1) A B := fun h => h.mono (fun k _ e => by omega)
  have hkeep : ∀ {A B : World} {Y : Nat → Option Obj → Prop}, Lets Y A B → ¬ Y w.heap.size A.heap[w.heap.size]? → A.heap[w.heap.size]? = some (.deferred (some [])) → B.heap[w.heap.size]? = some (.deferred (some [])) := fun h hy hd => (h.block _ (Array.getElem?_eq_some_iff.1 hd).1 hy).trans hd
  refine ⟨w.heap.size + 1, [{ target := .collected w.heap.size, args := #[] }], W1, { target := .fn (.func gf) lb, args := #[.func (.yield (w.heap.size + 1)) #[] #[]] }, W1, gf,
    #[.func (.yield (w.heap.size + 1)) #[] #[]] ++ lb, W1, ?_, ?_, fun _ _ => trivial, ?_, fun h => by simp [Fence.wide] at h, ?_⟩
  · rw [← hW1]; exact run_enterLoop_outer _ _ _ _ _
  · simp only [resolve, hg]
    simp [go_sem]
  · simp [invoke, go_sem, eg]
  · refine (range_coreL (I := fun k W => I k W ∧ W.heap[w.heap.size]? = some (.deferred (some [])) ∧ w.heap.size + 2 ≤ W.heap.size) (Ix := fun c W => Ix c W ∧ W.heap[w.heap.size]? = some (.deferred (some []))) hL1 hps (hseq W1 hb1 hs1) (fun o => hXI _ o (by omega) (by omega)) (fun o => hXB _ o (by omega) (by omega))
      (fun k A B h hl => ⟨hI k A B h.1 hl, hkeep hl (hXI _ _ (Nat.le_refl _) (by omega)) h.2.1, by have := hl.size; omega⟩) (fun c A B h hl => ⟨hIx c A B h.1 hl, hkeep hl (hXI _ _ (Nat.le_refl _) (by omega)) h.2⟩)
      (fun k A B h hl => ⟨hI2 k A B h.1 (hLD hl), hkeep hl (by omega) h.2.1, by have := hl.size; omega⟩) (fun c A B h hl => ⟨hIx2 c A B h.1 (hLD hl), hkeep hl (by omega) h.2⟩)
      (fun A B h hl => hM2 A B h (hLD hl)) ⟨hI2 0 _ _ h0 (hn1 _), hK1, by omega⟩ ?_).mono ?_
    · rintro k hk W ⟨hi, hd, hsz⟩ hm ⟨r, hr, -⟩
      have h := hround k hk W hi hm hsz ⟨r, hr⟩
      unfold RoundOkL at h ⊢
      refine wpIn_mono h ?_
      rintro e a₁ Wa ha
      cases e with
      | normal =>
        obtain ⟨h1, h2⟩ := ha
        refine ⟨h1, fun W₂ hl hs hlr hi2 hm2 => wpIn_mono (h2 W₂ hl hs hlr hi2.1 hm2) ?_⟩
        have hsz2 : w.heap.size + 2 ≤ W₂.heap.size := by have := h1.size; omega
        rintro e a3 W3 hp
        cases e with
        | normal => exact ⟨hp.1, hp.2.1, hp.2.2, hkeep hp.1 (hXB _ _ (Nat.le_refl _) (by omega)) hi2.2.1, by have := hp.1.size; omega⟩
        | ret => exact ⟨hp.1, hp.2.1, hp.2.2, hkeep hp.1 (hXB _ _ (Nat.le_refl _) (by omega)) hi2.2.1⟩
        | exit id => exact ⟨hp.1, hp.2.1, hp.2.2, hkeep hp.1 (hXB _ _ (Nat.le_refl _) (by omega)) hi2.2.1⟩
        | goto t => exact ⟨hp.1, hp.2.1, hp.2.2, hkeep hp.1 (hXB _ _ (Nat.le_refl _) (by omega)) hi2.2.1⟩
        | panic ch => exact hp.elim
        | outgrown => exact hp.elim
      | ret => exact ha.elim
      | exit id => exact ha.elim
      | goto t => exact ha.elim
      | panic ch => exact ha.elim
      | outgrown => exact ha.elim
    · rintro e W2 ⟨⟨v, rfl⟩, (⟨W', he, hi, hm⟩ | ⟨c, W', he, hi, hm⟩)⟩
      · exact ⟨none, W', he, hdone W' hi.1 hm hi.2.1⟩
      · exact ⟨some c, W', he, hstop c W' hi.1 hm hi.2⟩

end Go
