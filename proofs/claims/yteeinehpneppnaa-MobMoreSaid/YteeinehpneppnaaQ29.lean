/- Parts of a proof: MqA, OrdF, MqB. -/
import Derived.Test.YteeinehpneppnaaQ28
import Derived.Test.YteeinehpneppnaaQ16
import Derived.Test.YteeinehpneppnaaQ01
set_option linter.unusedVariables false
set_option linter.unusedSimpArgs false
namespace Go.Proofs.Yteeinehpneppnaa
open Go.RowKit Go.Proofs
attribute [local irreducible] Ord.walk
theorem flat_get {α : Type} {n : Nat} (f : α → List Value) (hf : ∀ a, (f a).length = n) : ∀ (l : List α) (i : Nat) (h : i < l.length) (j : Nat), j < n → (l.flatMap f)[i * n + j]? = (f l[i])[j]?
  | [], i, h, j, hj => absurd h (by simp)
  | a :: l, 0, h, j, hj => by
    rw [List.flatMap_cons, List.getElem?_append_left (by rw [hf]; omega)]; simp
  | a :: l, i + 1, h, j, hj => by
    rw [List.flatMap_cons, List.getElem?_append_right (by rw [hf, Nat.add_mul]; omega), hf, show (i + 1) * n + j - n = i * n + j by rw [Nat.add_mul]; omega]
    exact flat_get f hf l i (by simpa using h) j hj
/-- A row that is a whole block. -/
theorem rows_blk {α : Type} {n : Nat} {f : α → List Value} (hf : ∀ a, (f a).length = n) {w : World} {b : Nat} {l : List α} {C : Array Value} {t : TypeId} (hC : C = (l.flatMap f).toArray) (h : Blk w b C t) : RowsAt w (some ⟨b, 0, none⟩) n f l := by
  subst hC
  refine fun i hi => ⟨b, 0, rfl, fun j u hj => ?_⟩
  have hjn : j < n := by
    by_cases hlt : j < n
    · exact hlt
    · rw [List.getElem?_eq_none (by rw [hf]; omega)] at hj; cases hj
  rw [Nat.zero_add, h.cell, List.getElem?_toArray, flat_get f hf l i hi j hjn]
  exact hj
theorem rows_nil {α : Type} {n : Nat} {f : α → List Value} {w : World} (a : Option Addr) : RowsAt w a n f ([] : List α) := fun i hi => absurd hi (by simp)
theorem plc_len (a : Bool × Int) : (plc a).length = 2 := rfl
theorem i4c_len (a : Int × Int × Int × Int) : (i4c a).length = 4 := rfl
/-- A way is returned. -/
def Mobs (m : Mb) (w : World) (e : Ending) (w' : World) : Prop := ∃ A, e = .returned (mv m A) ∧ MbAt w' m A ∧ Below w.heap.size w w'
theorem l_span (lo hi : Int) (w : World) : Calls Try.prog 20 #[.int .i64 lo, .int .i64 hi] w (Gives (.agg #[.int .i64 lo, .int .i64 hi]) w) := by
  go_enter Try.func20, Try.ntmps20
  go_wp2_with (refine wpList_store_blk 39 (.tmp 4) (.tmp 7) agg_span rfl rfl rfl rfl (Blk.new _ _ _) rfl rfl (by simp [Value.oneCell']) ?_; intro w2 h2)
  (try simp only [Exit.inBlock, Exit.then])
  refine bodyPost_ret (v := .agg #[.int .i64 lo, .int .i64 hi]) (results_cell_blk rfl _ agg_span rfl h2.blk rfl) rfl ⟨rfl, ?_⟩
  exact h2.below ((Below.refl _ _).alloc (Nat.le_refl _) _) (Nat.le_refl _)
theorem l_seen (h p lo hi : Int) (w : World) : Calls Try.prog 34 #[.int .i64 h, .int .i64 p, .int .i64 lo, .int .i64 hi] w (Gives (.agg #[.int .i64 h, .int .i64 p, .int .i64 lo, .int .i64 hi]) w) := by
  have H := Lib.hid (fun w => l_span lo hi w)
  go_enter Try.func34, Try.ntmps34
  go_wp2_with (first
    | (go_at_call 20; refine (H.out _).mono ?_; rintro e w1 ⟨rfl, hb1⟩; have b1 := (Blk.new w #[.int .i64 0, .int .i64 0, .int .i64 0, .int .i64 0] 64).below hb1 (by simp); have hB := ((Below.refl w.heap.size w).alloc (Nat.le_refl _) _).trans (hb1.mono (by simp)))
    | (refine wpList_store_blk 64 (.tmp 8) (.tmp 14) agg_seen rfl rfl rfl rfl b1 rfl rfl (by simp [Value.oneCell']) ?_; intro w2 h2))
  (try simp only [Exit.inBlock, Exit.then])
  refine bodyPost_ret (v := .agg #[.int .i64 h, .int .i64 p, .int .i64 lo, .int .i64 hi]) (results_cell_blk rfl _ agg_seen rfl h2.blk rfl) rfl ⟨rfl, ?_⟩
  exact h2.below hB (Nat.le_refl _)
/-- The way R, with what was seen. -/
def sM (S : List (Int × Int × Int × Int)) : Mb := ⟨[(true, 1), (false, 0), (true, 2), (false, 0)], [(2, 3), (1, 1), (2, 2)], [(0, 0, 1, 4), (1, 3, 3, 2)], S⟩
set_option maxHeartbeats 4000000 in
set_option maxRecDepth 100000 in
theorem l_sample (S : List (Int × Int × Int × Int)) (sa : Option Addr) (sc : Nat) (w : World) (hS : RowsAt w sa 4 i4c S) : Calls Try.prog 19 #[.slice sa S.length sc] w (Mobs (sM S) w) := by
  have H := Lib.hid l_span
  have hB0 : Below w.heap.size w (w.alloc (.cells #[.slice none 0 0, .slice none 0 0, .slice none 0 0, .slice none 0 0] 27)) := (Below.refl _ _).alloc (Nat.le_refl _) _
  have b0 := Blk.new w #[.slice none 0 0, .slice none 0 0, .slice none 0 0, .slice none 0 0] 27
  go_enter Try.func19, Try.ntmps19
  go_wp2_with (first
    | (go_at_call 20; refine (H.out _ _ _).mono ?_; rintro e w1 ⟨rfl, hb1⟩; refine at_stop ?_))
  unfold Stop
  have hB1 := hB0.trans (((Below.refl _ _).alloc (Nat.le_refl _) _).trans (hb1.mono (by simp)) |>.mono (by simp))
  have b01 := (b0.alloc _).below hb1 (by simp; omega)
  have bP : Blk w1 (w.heap.size + 1) _ _ := (Blk.new' (w.alloc (.cells #[.slice none 0 0, .slice none 0 0, .slice none 0 0, .slice none 0 0] 27)) #[.bool true, .int .i64 1, .bool false, .int .i64 0, .bool true, .int .i64 2, .bool false, .int .i64 0] 70 (w.heap.size + 1) (by simp)).below hb1 (by simp)
  clear hb1 hB0 b0
  go_wp2_with (first
    | (go_at_call 20; refine (H.out _ _ _).mono ?_; rintro e w2 ⟨rfl, hb2⟩; refine at_stop ?_))
  unfold Stop
  have hB2 := hB1.trans (hb2.mono hB1.size)
  have b02 := b01.below hb2 b01.lt
  have bP2 := bP.below hb2 bP.lt
  clear hb2 hB1 b01 bP
  go_wp2_with (first
    | (go_at_call 20; refine (H.out _ _ _).mono ?_; rintro e w3 ⟨rfl, hb3⟩; refine at_stop ?_))
  unfold Stop
  have hB3 := hB2.trans (hb3.mono hB2.size)
  have b03 := b02.below hb3 b02.lt
  have bP3 := bP2.below hb3 bP2.lt
  clear hb3 hB2 b02 bP2
  go_wp2_with (first
    | (go_at_call 20; refine (H.out _ _ _).mono ?_; rintro e w4 ⟨rfl, hb4⟩; refine at_stop ?_))
  unfold Stop
  have hB4 := hB3.trans ((((Below.refl w3.heap.size w3).alloc (Nat.le_refl _) _).trans (hb4.mono (by simp))).mono hB3.size)
  have b04 := (b03.alloc _).below hb4 (by have := b03.lt; simp; omega)
  have bP4 := (bP3.alloc _).below hb4 (by have := bP3.lt; simp; omega)
  have bL4 := (Blk.new w3 #[.int .i64 2, .int .i64 3, .int .i64 1, .int .i64 1, .int .i64 2, .int .i64 2] 39).below hb4 (by simp)
  have h34 := hb4.size
  simp only [World.size_alloc] at h34
  have h03 := b03.lt
  have hP3 := bP3.lt
  generalize hl3 : w3.heap.size = l3 at *
  have hl3a := hB3.size
  rw [hl3] at hl3a
  clear hb4 hB3 b03 bP3 hl3
  go_wp2_with (first
    | (go_at_call 20; refine (H.out _ _ _).mono ?_; rintro e w5 ⟨rfl, hb5⟩; refine at_stop ?_))
  unfold Stop
  have hB5 := hB4.trans (hb5.mono hB4.size)
  have b05 := b04.below hb5 b04.lt
  have bP5 := bP4.below hb5 bP4.lt
  have bL5 := bL4.below hb5 bL4.lt
  have h5 := b05.lt
  have hL5 := bL5.lt
  clear hb5 hB4 b04 bP4 bL4
  go_wp2_with (first
    | (refine wpList_store_blk 27 (.tmp 2) (.tmp 18) agg_mob rfl rfl rfl rfl (b05.alloc _) rfl rfl (by simp [Value.oneCell']) ?_; intro w7 h7))
  (try simp only [Exit.inBlock, Exit.then])
  have bH : Blk (w5.alloc (.cells #[.int .i64 0, .int .i64 0, .int .i64 1, .int .i64 4, .int .i64 1, .int .i64 3, .int .i64 3, .int .i64 2] 56)) w5.heap.size _ _ := Blk.new _ _ _
  have hBf : Below w.heap.size w w7 := h7.below (hB5.alloc hB5.size _) (Nat.le_refl _)
  refine bodyPost_ret (v := mv (sM S) ⟨some ⟨w.heap.size + 1, 0, none⟩, 4, some ⟨l3, 0, none⟩, 3, some ⟨w5.heap.size, 0, none⟩, 2, sa, sc⟩) (results_cell_blk rfl _ agg_mob rfl h7.blk rfl) rfl ⟨_, rfl, ⟨?_, ?_, ?_, ?_⟩, hBf⟩
  · exact rows_blk plc_len rfl (h7.other (bP5.alloc _) (by omega))
  · have k := h7.other (bL5.alloc _) (show l3 ≠ w.heap.size by omega)
    exact rows_blk (f := spc) (n := 2) (fun _ => rfl) rfl k
  · exact rows_blk i4c_len rfl (h7.other bH (by omega))
  · exact hS.below hBf
def isSl : Value → Bool
  | .slice .. => true
  | _ => false
/-- Rows are not in a block of slices. -/
theorem RowsAt.rowed {α : Type} {a : Option Addr} {n : Nat} {f : α → List Value} {l : List α} {w w' : World} {b : Nat} {B C : Array Value} {t t' : TypeId} (h : RowsAt w a n f l) (hb : Blk w b C t) (hr : Rowed w b B t' w') (hC : ∀ v ∈ C.toList, isSl v = true) (hf : ∀ a, ∀ u ∈ f a, isSl u = false) : RowsAt w' a n f l := fun i hi => by
  obtain ⟨gb, go, h0, h1⟩ := h i hi
  refine ⟨gb, go, h0, fun j u hj => ?_⟩
  have h2 := h1 j u hj
  rw [hr.cell]
  split
  · rename_i e
    subst e
    rw [hb.cell] at h2
    have := hC u (by rw [← Array.getElem?_toList] at h2; exact List.mem_of_getElem? h2)
    rw [hf _ u (List.mem_of_getElem? hj)] at this
    cases this
  · exact h2
theorem MbAt.rowed {m : Mb} {A : Ma} {w w' : World} {b : Nat} {B C : Array Value} {t t' : TypeId} (h : MbAt w m A) (hb : Blk w b C t) (hr : Rowed w b B t' w') (hC : ∀ v ∈ C.toList, isSl v = true) : MbAt w' m A :=
  ⟨h.places.rowed hb hr hC (by intro a u hu; simp [plc] at hu; rcases hu with rfl | rfl <;> rfl), h.legs.rowed hb hr hC (by intro a u hu; simp [spc] at hu; rcases hu with rfl | rfl <;> rfl), h.herds.rowed hb hr hC (by intro a u hu; simp [i4c] at hu; rcases hu with rfl | rfl | rfl | rfl <;> rfl), h.seen.rowed hb hr hC (by intro a u hu; simp [i4c] at hu; rcases hu with rfl | rfl | rfl | rfl <;> rfl)⟩
set_option maxHeartbeats 4000000 in
set_option maxRecDepth 100000 in
theorem l_met (w : World) : Calls Try.prog 21 #[] w (Mobs (sM [(0, 1, 4, 4)]) w) := by
  have H := Lib.hid l_seen
  have G := Lib.hid (fun a c W h => l_sample [(0, 1, 4, 4)] a c W h)
  have b0 := Blk.new w #[.slice none 0 0, .slice none 0 0, .slice none 0 0, .slice none 0 0] 27
  go_enter Try.func21, Try.ntmps21
  go_wp2_with (first
    | (go_at_call 34; refine (H.out _ _ _ _ _).mono ?_; rintro e w1 ⟨rfl, hb1⟩; refine at_stop ?_))
  unfold Stop
  have hB1 := ((Below.refl w.heap.size w).alloc (Nat.le_refl _) _).trans (hb1.mono (by simp))
  have b1 := b0.below hb1 (by simp)
  have bS := Blk.new w1 #[.int .i64 0, .int .i64 1, .int .i64 4, .int .i64 4] 64
  have hr : RowsAt _ (some ⟨w1.heap.size, 0, none⟩) 4 i4c [(0, 1, 4, 4)] := rows_blk i4c_len rfl bS
  go_wp2_with (first
    | (go_at_call 19; refine (G.out _ _ _ hr).mono ?_; rintro e w2 ⟨A, rfl, hA, hb2⟩; refine at_stop ?_))
  unfold Stop
  have hB2 := hB1.trans ((((Below.refl w1.heap.size w1).alloc (Nat.le_refl _) _).trans (hb2.mono (by simp))).mono hB1.size)
  have b2 := (b1.alloc _).below hb2 (by have := b1.lt; simp; omega)
  go_wp2_with (first
    | (refine wpList_store_blk 27 (.tmp 0) (.tmp 3) agg_mob rfl rfl rfl rfl b2 rfl rfl (by simp [Value.oneCell']) ?_; intro w7 h7))
  (try simp only [Exit.inBlock, Exit.then])
  have hBf : Below w.heap.size w w7 := h7.below hB2 (Nat.le_refl _)
  refine bodyPost_ret (v := mv (sM [(0, 1, 4, 4)]) A) (results_cell_blk rfl _ agg_mob rfl h7.blk rfl) rfl ⟨_, rfl, hA.rowed b2 h7 (by simp [isSl]), hBf⟩
set_option maxHeartbeats 4000000 in
set_option maxRecDepth 100000 in
theorem l_clash (w : World) : Calls Try.prog 26 #[] w (Mobs (sM [(0, 1, 4, 4), (0, 2, 3, 4)]) w) := by
  have H := Lib.hid l_seen
  have G := Lib.hid (fun a c W h => l_sample [(0, 1, 4, 4), (0, 2, 3, 4)] a c W h)
  have b0 := Blk.new w #[.slice none 0 0, .slice none 0 0, .slice none 0 0, .slice none 0 0] 27
  go_enter Try.func26, Try.ntmps26
  go_wp2_with (first
    | (go_at_call 34; refine (H.out _ _ _ _ _).mono ?_; rintro e w0 ⟨rfl, hb0⟩; refine at_stop ?_))
  unfold Stop
  have hB0 := ((Below.refl w.heap.size w).alloc (Nat.le_refl _) _).trans (hb0.mono (by simp))
  have b0 := b0.below hb0 (by simp)
  go_wp2_with (first
    | (go_at_call 34; refine (H.out _ _ _ _ _).mono ?_; rintro e w1 ⟨rfl, hb1⟩; refine at_stop ?_))
  unfold Stop
  have hB1 := hB0.trans (hb1.mono hB0.size)
  have b1 := b0.below hb1 b0.lt
  have bS := Blk.new w1 #[.int .i64 0, .int .i64 1, .int .i64 4, .int .i64 4, .int .i64 0, .int .i64 2, .int .i64 3, .int .i64 4] 64
  have hr : RowsAt _ (some ⟨w1.heap.size, 0, none⟩) 4 i4c [(0, 1, 4, 4), (0, 2, 3, 4)] := rows_blk i4c_len rfl bS
  go_wp2_with (first
    | (go_at_call 19; refine (G.out _ _ _ hr).mono ?_; rintro e w2 ⟨A, rfl, hA, hb2⟩; refine at_stop ?_))
  unfold Stop
  have hB2 := hB1.trans ((((Below.refl w1.heap.size w1).alloc (Nat.le_refl _) _).trans (hb2.mono (by simp))).mono hB1.size)
  have b2 := (b1.alloc _).below hb2 (by have := b1.lt; simp; omega)
  go_wp2_with (first
    | (refine wpList_store_blk 27 (.tmp 0) (.tmp 4) agg_mob rfl rfl rfl rfl b2 rfl rfl (by simp [Value.oneCell']) ?_; intro w7 h7))
  (try simp only [Exit.inBlock, Exit.then])
  have hBf : Below w.heap.size w w7 := h7.below hB2 (Nat.le_refl _)
  refine bodyPost_ret (v := mv (sM [(0, 1, 4, 4), (0, 2, 3, 4)]) A) (results_cell_blk rfl _ agg_mob rfl h7.blk rfl) rfl ⟨_, rfl, hA.rowed b2 h7 (by simp [isSl]), hBf⟩
end Go.Proofs.Yteeinehpneppnaa
set_option linter.unusedVariables false
set_option linter.unusedSimpArgs false
namespace Go.Ord
variable {P : Program} {ops : Array Oper} {Q : Exit → Act → World → Prop} {H : World → Prop} {eff : Nat → Bool}
def planF (ops : Array Oper) (eff : Nat → Bool) : List (Nat × Nat) → Array Bool → Bool
  | [], listed => (Region.ready .any ops listed).isEmpty
  | (k, c) :: l, listed =>
    (if eff k then c == 2 && decide (Region.ready .any ops listed = [k])
     else decide (c < 2) && (decide (Region.ready .any ops listed = [k]) || ((Region.ready .any ops listed).contains k && Region.free .any ops listed k && (c == 1 || calm ops eff k listed)))) &&
    planF ops eff l (listed.setIfInBounds k true)
def planOkF (ops : Array Oper) (l : List (Nat × Nat)) : Bool :=
  Region.noSelect ops && l.length == ops.size && planF ops (fun i => l.any fun (k, c) => k == i && c == 2) l (Array.replicate ops.size false)
theorem any_of_walkF (hs : Region.noSelect ops = true) (hQ : ∀ c a d v w, Q (.panic c) (a.put d v) w → Q (.panic c) a w) : ∀ (l : List (Nat × Nat)) (listed : Array Bool) (a : Act) (w : World), listed.size = ops.size → H w →
    planF ops eff l listed = true → walk P ops H Q l a w → any P ops eff H Q l.length listed a w
  | [], _, _, _, _, _, hB, h => ⟨by simpa [planF] using hB, h⟩
  | (k, c) :: l, listed, a, w, hsz, hw, hB, h => by
    rw [planF, Bool.and_eq_true] at hB
    obtain ⟨hB, hB'⟩ := hB
    rw [walk] at h
    cases ho : ops[k]? with
    | none => simp only [ho] at h
    | some o =>
      simp only [ho] at h
      have hsz' : (listed.setIfInBounds k true).size = ops.size := by simp [hsz]
      have ih : ∀ a w, H w → walk P ops H Q l a w → any P ops eff H Q l.length (listed.setIfInBounds k true) a w := fun a w h1 h2 => any_of_walkF hs hQ l _ a w hsz' h1 hB' h2
      cases he : eff k with
      | true =>
        simp only [he, if_true, Bool.and_eq_true, beq_iff_eq, decide_eq_true_eq] at hB
        obtain ⟨rfl, hr⟩ := hB
        refine ⟨fun h0 => (by rw [h0] at hr; cases hr), fun j hj => ?_⟩
        rw [hr] at hj
        have hjk : j = k := by simpa using hj
        subst hjk
        unfold op
        simp only [ho, he, if_true]
        split
        · rename_i hwt
          simp only [hwt, if_true] at h
          exact h.imp (Oper.wp_mono (fun a w hk => ⟨hk.1, ih a w hk.1 hk.2⟩)) id
        · rename_i hwt
          simp only [hwt] at h
          exact ih _ _ hw h
      | false =>
        simp only [he, Bool.false_eq_true, if_false, Bool.and_eq_true, Bool.or_eq_true, beq_iff_eq, decide_eq_true_eq] at hB
        obtain ⟨hc2, hone | ⟨⟨hr, hf⟩, hcc⟩⟩ := hB
        · refine ⟨fun h0 => (by rw [h0] at hone; cases hone), fun j hj => ?_⟩
          rw [hone] at hj
          have hjk : j = k := by simpa using hj
          subst hjk
          unfold op
          simp only [ho, he, Bool.false_eq_true, if_false]
          split
          · rename_i hwt
            simp only [hwt, if_true] at h
            match c, hc2, h with
            | 0, _, h =>
              obtain ⟨v, h1, h2⟩ := h
              exact ⟨v, h1, ih _ _ hw h2⟩
            | 1, _, h =>
              obtain ⟨v, h1, h2⟩ := h
              exact ⟨v, h1 w hw, ih _ _ hw h2⟩
            | (n + 2), hc2, _ => exact absurd hc2 (by omega)
          · rename_i hwt
            simp only [hwt] at h
            exact ih _ _ hw h
        have hr' : k ∈ Region.ready .any ops listed := by simpa using hr
        by_cases hwt : Region.wanted o (yielded ops a.tmps) = true
        · simp only [hwt, if_true] at h
          match c, hc2, h with
          | 0, _, h =>
            obtain ⟨v, h1, h2⟩ := h
            have hcalm : calm ops eff k listed = true := hcc.resolve_left (by simp)
            obtain ⟨L, hL⟩ := calm_spec hsz hcalm
            exact any_calm ho he (Region.noSelect_spec hs) (fun c a w => hQ c a _ _ w) l.length listed a hL (Region.free_spec ho hf) hr' (.inl ⟨hwt, fun w' e => by subst e; exact h1⟩) (ih _ _ hw h2)
          | 1, _, h =>
            obtain ⟨v, h1, h2⟩ := h
            exact any_first ho he (Region.noSelect_spec hs) (fun c a w => hQ c a _ _ w) l.length listed a w hw (Region.free_spec ho hf) hr' (.inl ⟨hwt, h1⟩) (ih _ _ hw h2)
          | (n + 2), hc2, _ => exact absurd hc2 (by omega)
        · have hwt' : Region.wanted o (yielded ops a.tmps) = false := by simpa using hwt
          simp only [hwt', Bool.false_eq_true, if_false] at h
          exact any_first ho he (Region.noSelect_spec hs) (fun c a w => hQ c a _ _ w) l.length listed a w hw (Region.free_spec ho hf) hr' (.inr ⟨hwt', rfl⟩) (ih _ _ hw h)
theorem wp_regionF {id : Nat} {a : Act} {w : World} {lo : List Oper} (l : List (Nat × Nat)) (H : World → Prop) (hm : P.follows .mixedOrders = true) (hp : planOkF lo.toArray l = true)
    (hQ : ∀ c a d v w, Q (.panic c) (a.put d v) w → Q (.panic c) a w) (hH : H w.drew) (h : walk P lo.toArray H Q l a w.drew) : (Code.region id lo.toArray true).wp P Q a w := by
  simp only [planOkF, Bool.and_eq_true, beq_iff_eq] at hp
  obtain ⟨⟨hs, hl⟩, hp⟩ := hp
  refine wp_region_any hm (wpAny_of_any (H := H) (eff := fun i => l.any fun (k, c) => k == i && c == 2) _ _ _ _ ?_)
  have h2 := any_of_walkF (H := H) (eff := fun i => l.any fun (k, c) => k == i && c == 2) hs hQ l (Array.replicate lo.toArray.size false) a _ (by simp) hH hp h
  rw [hl] at h2
  exact h2
end Go.Ord
set_option linter.unusedVariables false
set_option linter.unusedSimpArgs false
namespace Go.Proofs.Yteeinehpneppnaa
open Go.RowKit Go.Proofs
attribute [local irreducible] Ord.walk
theorem sM_len {S : List (Int × Int × Int × Int)} (h : S.length ≤ 40) : Mlen (sM S) := by
  constructor <;> simp [sM, maxLen] <;> omega
set_option maxRecDepth 100000 in
theorem alive_values : comesR (sM []) 0 3 = ((7, 9), 0) ∧ whereP (sM []) 0 4 = (6, 0) ∧ stretchR (sM [(0, 1, 4, 4)]) 0 = ((4, 4), 0) ∧ safeR (sM []) 0 = (2, 0) ∧ aheadP (sM [(0, 1, 4, 4)]) 1 0 = (2, 0) ∧ thereR (sM []) 8 = (2, 3, 0) ∧ clashP (sM [(0, 1, 4, 4), (0, 2, 3, 4)]) = (3, 0) := by
  refine ⟨?_, ?_, ?_, ?_, ?_, ?_, ?_⟩ <;> decide +kernel
set_option maxHeartbeats 40000000 in
set_option maxRecDepth 100000 in
theorem l_alive (w : World) : Calls Try.prog 12 #[] w (Gives (.bool true) w) := by
  have S1 := Lib.hid (fun W => l_sample [] none 0 W (rows_nil none))
  have S2 := Lib.hid l_met
  have S3 := Lib.hid l_clash
  have P1 : Hid (∀ w A, MbAt w (sM []) A → Calls Try.prog 22 #[mv (sM []) A, .int .i64 0, .int .i64 3] w (Gives2 (spv (7, 9)) (.int .i64 0) w)) := fun w A h => by
    have := m_Comes 0 3 w (sM_len (by decide)) h; rwa [alive_values.1] at this
  have P2 : Hid (∀ w A, MbAt w (sM []) A → Calls Try.prog 23 #[mv (sM []) A, .int .i64 0, .int .i64 4] w (Gives2 (.int .i64 6) (.int .i64 0) w)) := fun w A h => by
    have := m_Where 0 4 w (sM_len (by decide)) h; rwa [alive_values.2.1] at this
  have P3 : Hid (∀ w A, MbAt w (sM [(0, 1, 4, 4)]) A → Calls Try.prog 24 #[mv (sM [(0, 1, 4, 4)]) A, .int .i64 0] w (Gives2 (spv (4, 4)) (.int .i64 0) w)) := fun w A h => by
    have := m_Stretch 0 w (sM_len (by decide)) h; rwa [alive_values.2.2.1] at this
  have P4 : Hid (∀ w A, MbAt w (sM []) A → Calls Try.prog 25 #[mv (sM []) A, .int .i64 0] w (Gives2 (.int .i64 2) (.int .i64 0) w)) := fun w A h => by
    have := m_Safe 0 w (sM_len (by decide)) h; rwa [alive_values.2.2.2.1] at this
  have P5 : Hid (∀ w A, MbAt w (sM [(0, 1, 4, 4)]) A → Calls Try.prog 13 #[mv (sM [(0, 1, 4, 4)]) A, .int .i64 1, .int .i64 0] w (Gives2 (.int .i64 2) (.int .i64 0) w)) := fun w A h => by
    have := m_Ahead 1 0 w (sM_len (by decide)) h; rwa [alive_values.2.2.2.2.1] at this
  have P6 : Hid (∀ w A, MbAt w (sM []) A → Calls Try.prog 15 #[mv (sM []) A, .int .i64 8] w (Gives3 (.int .i64 2) (.int .i64 3) (.int .i64 0) w)) := fun w A h => by
    have := m_There 8 w (sM_len (by decide)) h; rwa [alive_values.2.2.2.2.2.1] at this
  have P7 : Hid (∀ w A, MbAt w (sM [(0, 1, 4, 4), (0, 2, 3, 4)]) A → Calls Try.prog 17 #[mv (sM [(0, 1, 4, 4), (0, 2, 3, 4)]) A] w (Gives2 (.int .i64 3) (.int .i64 0) w)) := fun w A h => by
    have := m_Clash  w (sM_len (by decide)) h; rwa [alive_values.2.2.2.2.2.2] at this
  have G := Lib.hid l_span
  have hB := Below.refl w.heap.size w
  go_enter Try.func12, Try.ntmps12
  go_wp2_with (first
    | (go_at_call 19; refine (S1.out _).mono ?_; rintro e w1 ⟨A1, rfl, hV1, hb1⟩; replace hB := hB.trans (hb1.mono hB.size))
    | (go_at_call 22; refine (P1.out _ _ hV1).mono ?_; rintro e w2 ⟨rfl, hb2⟩; replace hB := hB.trans (hb2.mono hB.size))
    | (refine wpList_store_blk 39 (.tmp 1) (.tmp 19) agg_span rfl rfl rfl rfl (Blk.new _ _ _) rfl rfl (by simp [Value.oneCell']) ?_; intro w3 h3; refine at_stop ?_))
  unfold Stop
  have bS := h3.blk
  replace hB := h3.below (hB.alloc hB.size _) hB.size
  generalize hp : w2.heap.size = p at *
  clear h3 hb1 hb2 hV1
  go_wp2_with (first
    | (go_at_call 19; refine (S1.out _).mono ?_; rintro e w1 ⟨A1, rfl, hV1, hb1⟩; replace hB := hB.trans (hb1.mono hB.size); replace bS := bS.below hb1 bS.lt; clear hb1)
    | (go_at_call 21; refine (S2.out _).mono ?_; rintro e w1 ⟨A1, rfl, hV1, hb1⟩; replace hB := hB.trans (hb1.mono hB.size); replace bS := bS.below hb1 bS.lt; clear hb1)
    | (go_at_call 23; refine (P2.out _ _ hV1).mono ?_; rintro e w2 ⟨rfl, hb2⟩; replace hB := hB.trans (hb2.mono hB.size); replace bS := bS.below hb2 bS.lt; clear hb2 hV1)
    | (go_at_call 24; refine (P3.out _ _ hV1).mono ?_; rintro e w4 ⟨rfl, hb4⟩; replace hB := hB.trans (hb4.mono hB.size); replace bS := bS.below hb4 bS.lt; clear hb4 hV1)
    | (refine wpList_store_blk 39 (.tmp 5) (.tmp 29) agg_span rfl rfl rfl rfl (Blk.new _ _ _) rfl rfl (by simp [Value.oneCell']) ?_; intro w5 h5; refine at_stop ?_))
  unfold Stop
  have bT := h5.blk
  replace bS := h5.other (bS.alloc _) (by have := bS.lt; omega)
  replace hB := h5.below (hB.alloc hB.size _) hB.size
  generalize hq : w4.heap.size = q at *
  clear h5
  go_wp2_with (first
    | (go_at_call 19; refine (S1.out _).mono ?_; rintro e w1 ⟨A1, rfl, hV1, hb1⟩; replace hB := hB.trans (hb1.mono hB.size); replace bS := bS.below hb1 bS.lt; replace bT := bT.below hb1 bT.lt; clear hb1)
    | (go_at_call 21; refine (S2.out _).mono ?_; rintro e w1 ⟨A1, rfl, hV1, hb1⟩; replace hB := hB.trans (hb1.mono hB.size); replace bS := bS.below hb1 bS.lt; replace bT := bT.below hb1 bT.lt; clear hb1)
    | (go_at_call 26; refine (S3.out _).mono ?_; rintro e w1 ⟨A1, rfl, hV1, hb1⟩; replace hB := hB.trans (hb1.mono hB.size); replace bS := bS.below hb1 bS.lt; replace bT := bT.below hb1 bT.lt; clear hb1)
    | (go_at_call 25; refine (P4.out _ _ hV1).mono ?_; rintro e w2 ⟨rfl, hb2⟩; replace hB := hB.trans (hb2.mono hB.size); replace bS := bS.below hb2 bS.lt; replace bT := bT.below hb2 bT.lt; clear hb2 hV1)
    | (go_at_call 13; refine (P5.out _ _ hV1).mono ?_; rintro e w2 ⟨rfl, hb2⟩; replace hB := hB.trans (hb2.mono hB.size); replace bS := bS.below hb2 bS.lt; replace bT := bT.below hb2 bT.lt; clear hb2 hV1)
    | (go_at_call 15; refine (P6.out _ _ hV1).mono ?_; rintro e w2 ⟨rfl, hb2⟩; replace hB := hB.trans (hb2.mono hB.size); replace bS := bS.below hb2 bS.lt; replace bT := bT.below hb2 bT.lt; clear hb2 hV1)
    | (go_at_call 17; refine (P7.out _ _ hV1).mono ?_; rintro e w2 ⟨rfl, hb2⟩; replace hB := hB.trans (hb2.mono hB.size); replace bS := bS.below hb2 bS.lt; replace bT := bT.below hb2 bT.lt; clear hb2 hV1))
  refine Ord.wp_regionF [(0, 1), (1, 2), (2, 0), (3, 0), (4, 0), (5, 0), (6, 0), (7, 0), (8, 0), (9, 0), (10, 0), (11, 0), (12, 0), (13, 0), (14, 0), (15, 0), (16, 1), (17, 2), (18, 0), (19, 0), (20, 0), (21, 0), (22, 0), (23, 0), (24, 0), (25, 0), (26, 0), (27, 0), (28, 0), (29, 0), (30, 0), (31, 0), (32, 0), (33, 0), (34, 0), (35, 0), (36, 0), (37, 0), (38, 0), (39, 0), (40, 0), (41, 0), (42, 0), (43, 0), (44, 0), (45, 0), (46, 0), (47, 0), (48, 0), (49, 0), (50, 0), (51, 0), (52, 0), (53, 0), (54, 0), (55, 0), (56, 0), (57, 0), (58, 0), (59, 0), (60, 0)] (fun W' => Below w2.heap.size w2 W') (by kernel_rfl) (by kernel_rfl) (fun c a d v w h => by cases d <;> exact h) (Below.refl _ _).drew ?_
  have lS := bS.lt
  have lT := bT.lt
  go_wp2_with (first
    | ((with_reducible refine Ord.at_wild ?_); refine Ord.wild_load (ad := ⟨p, 0, none⟩) (.agg #[.int .i64 7, .int .i64 9]) rfl rfl ?_ ?_; (focus (intro W hW; exact loadVar_blk agg_span (bS.below hW (by omega)) rfl)); intro K hK)
    | ((with_reducible refine Ord.at_wild ?_); refine Ord.wild_load (ad := ⟨q, 0, none⟩) (.agg #[.int .i64 4, .int .i64 4]) rfl rfl ?_ ?_; (focus (intro W hW; exact loadVar_blk agg_span (bT.below hW (by omega)) rfl)); intro K hK)
    | (go_at_call 20; refine (G.out _ _ _).mono ?_; rintro e w6 ⟨rfl, hb6⟩; refine at_stop ?_)
    | ((with_reducible refine Ord.at_calm ?_); refine Ord.calm_skip rfl ?_ (fun K hK => ?_); (focus (simp [Region.wanted, yielded]; done))) | with_reducible refine Ord.walk_calm rfl rfl (fun K hK => ?_) | ((with_reducible refine Ord.at_wild ?_); refine Ord.wild_fieldAddr rfl rfl (fun W => by simp [go_sem]; rfl) (fun K hK => ?_)) | ((with_reducible refine Ord.at_wild ?_); refine Ord.wild_move rfl rfl (fun K hK => ?_)) | ((with_reducible refine Ord.at_wild ?_); refine Ord.wild_nilCheck rfl rfl (fun K hK => ?_)) | with_reducible refine Ord.walk_eff rfl (by first | (simp; done) | assumption | (go_simp; done) | (repeat (first | assumption | exact Below.refl _ _ | refine Below.drew ?_ | refine Below.alloc ?_ (by first | omega | (simp; done) | (simp; omega)) _ | refine Below.setCell ?_ (by first | omega | (simp; done) | (simp; omega)) _ | refine Below.trans ?_ (Below.mono (by assumption) (by first | omega | (simp; done) | (simp; omega)))))) (fun K hK => ?_) | with_reducible refine Ord.at_fork ?_ ?_ | with_reducible refine Ord.walk_nil ?_ | (with_reducible refine Ord.next_of (by first | (simp; done) | (go_simp; done) | (repeat (first | assumption | exact Below.refl _ _ | refine Below.drew ?_ | refine Below.alloc ?_ (by first | omega | (simp; done) | (simp; omega)) _ | refine Below.setCell ?_ (by first | omega | (simp; done) | (simp; omega)) _ | refine Below.trans ?_ (Below.mono (by assumption) (by first | omega | (simp; done) | (simp; omega)))))) (fun _ => ?_)))
  unfold Stop
  have hb26 : Below w2.heap.size w2 w6 := (Below.refl _ _).drew.trans hb6
  clear hb6
  go_wp2_with (first
    | ((with_reducible refine Ord.at_wild ?_); refine Ord.wild_load (ad := ⟨q, 0, none⟩) (.agg #[.int .i64 4, .int .i64 4]) rfl rfl ?_ ?_; (focus (intro W hW; exact loadVar_blk agg_span (bT.below hW (by omega)) rfl)); intro K hK)
    | (go_at_call 20; refine (G.out _ _ _).mono ?_; rintro e w7 ⟨rfl, hb7⟩; refine at_stop ?_)
    | ((with_reducible refine Ord.at_calm ?_); refine Ord.calm_skip rfl ?_ (fun K hK => ?_); (focus (simp [Region.wanted, yielded]; done))) | with_reducible refine Ord.walk_calm rfl rfl (fun K hK => ?_) | ((with_reducible refine Ord.at_wild ?_); refine Ord.wild_fieldAddr rfl rfl (fun W => by simp [go_sem]; rfl) (fun K hK => ?_)) | ((with_reducible refine Ord.at_wild ?_); refine Ord.wild_move rfl rfl (fun K hK => ?_)) | ((with_reducible refine Ord.at_wild ?_); refine Ord.wild_nilCheck rfl rfl (fun K hK => ?_)) | with_reducible refine Ord.walk_eff rfl (by first | (simp; done) | assumption | (go_simp; done) | (repeat (first | assumption | exact Below.refl _ _ | refine Below.drew ?_ | refine Below.alloc ?_ (by first | omega | (simp; done) | (simp; omega)) _ | refine Below.setCell ?_ (by first | omega | (simp; done) | (simp; omega)) _ | refine Below.trans ?_ (Below.mono (by assumption) (by first | omega | (simp; done) | (simp; omega)))))) (fun K hK => ?_) | with_reducible refine Ord.at_fork ?_ ?_ | with_reducible refine Ord.walk_nil ?_ | (with_reducible refine Ord.next_of (by first | (simp; done) | (go_simp; done) | (repeat (first | assumption | exact Below.refl _ _ | refine Below.drew ?_ | refine Below.alloc ?_ (by first | omega | (simp; done) | (simp; omega)) _ | refine Below.setCell ?_ (by first | omega | (simp; done) | (simp; omega)) _ | refine Below.trans ?_ (Below.mono (by assumption) (by first | omega | (simp; done) | (simp; omega)))))) (fun _ => ?_)))
  unfold Stop
  have hb27 : Below w2.heap.size w2 w7 := hb26.trans (hb7.mono hb26.size)
  have hBf : Below w.heap.size w w7 := hB.trans (hb27.mono hB.size)
  clear hb7 hb26
  go_wp2_with (first
    | ((with_reducible refine Ord.at_calm ?_); refine Ord.calm_skip rfl ?_ (fun K hK => ?_); (focus (simp [Region.wanted, yielded]; done))) | with_reducible refine Ord.walk_calm rfl rfl (fun K hK => ?_) | ((with_reducible refine Ord.at_wild ?_); refine Ord.wild_fieldAddr rfl rfl (fun W => by simp [go_sem]; rfl) (fun K hK => ?_)) | ((with_reducible refine Ord.at_wild ?_); refine Ord.wild_move rfl rfl (fun K hK => ?_)) | ((with_reducible refine Ord.at_wild ?_); refine Ord.wild_nilCheck rfl rfl (fun K hK => ?_)) | with_reducible refine Ord.walk_eff rfl (by first | (simp; done) | assumption | (go_simp; done) | (repeat (first | assumption | exact Below.refl _ _ | refine Below.drew ?_ | refine Below.alloc ?_ (by first | omega | (simp; done) | (simp; omega)) _ | refine Below.setCell ?_ (by first | omega | (simp; done) | (simp; omega)) _ | refine Below.trans ?_ (Below.mono (by assumption) (by first | omega | (simp; done) | (simp; omega)))))) (fun K hK => ?_) | with_reducible refine Ord.at_fork ?_ ?_ | with_reducible refine Ord.walk_nil ?_ | (with_reducible refine Ord.next_of (by first | (simp; done) | (go_simp; done) | (repeat (first | assumption | exact Below.refl _ _ | refine Below.drew ?_ | refine Below.alloc ?_ (by first | omega | (simp; done) | (simp; omega)) _ | refine Below.setCell ?_ (by first | omega | (simp; done) | (simp; omega)) _ | refine Below.trans ?_ (Below.mono (by assumption) (by first | omega | (simp; done) | (simp; omega)))))) (fun _ => ?_)))
  go_ret
  exact ⟨rfl, hBf⟩
end Go.Proofs.Yteeinehpneppnaa
