/- Parts of a proof: OrdG, Ways. -/
import Derived.Test.YtjbjmoghloabpaaM01
import Derived.Test.YtjbjmoghloabpaaM39
import Derived.Test.YtjbjmoghloabpaaM42
import Derived.Deep.CutRange
/- Drawn regions that are long: the look ahead goes F rounds only. -/
set_option linter.unusedVariables false
set_option linter.unusedSimpArgs false
namespace Go.Ord
/-- As calm, but the look ahead goes F rounds. -/
def calmG (F : Nat) (ops : Array Oper) (eff : Nat → Bool) (i : Nat) (listed : Array Bool) : Bool :=
  let L := reach ops i F listed
  (Region.ready .any ops L).all (· == i) && (List.range ops.size).all fun j => (!listed.getD j false || L.getD j false) && (listed.getD j true || !eff j || j == i || !L.getD j false)
theorem calmG_spec {F : Nat} {ops : Array Oper} {eff : Nat → Bool} {i : Nat} {listed : Array Bool} (hs : listed.size = ops.size) (h : calmG F ops eff i listed = true) : ∃ L, Calm ops eff i L listed := by
  unfold calmG at h
  simp only [Bool.and_eq_true, List.all_eq_true, List.mem_range, beq_iff_eq, Bool.or_eq_true, Bool.not_eq_true'] at h
  obtain ⟨h1, h2⟩ := h
  refine ⟨reach ops i F listed, h1, fun j hj hl => ?_, fun j hj hl hne hL => ?_, by rw [reach_size, hs], hs⟩
  · have := (h2 j hj).1
    rw [hl] at this
    simpa using this
  · have := (h2 j hj).2
    rw [hl, hL] at this
    simpa [hne] using this
variable {P : Program} {ops : Array Oper} {Q : Exit → Act → World → Prop} {H : World → Prop} {eff : Nat → Bool}
def planG (F : Nat) (ops : Array Oper) (eff : Nat → Bool) : List (Nat × Nat) → Array Bool → Bool
  | [], listed => (Region.ready .any ops listed).isEmpty
  | (k, c) :: l, listed =>
    (if eff k then c == 2 && decide (Region.ready .any ops listed = [k])
     else decide (c < 2) && (decide (Region.ready .any ops listed = [k]) || ((Region.ready .any ops listed).contains k && Region.free .any ops listed k && (c == 1 || calmG F ops eff k listed)))) &&
    planG F ops eff l (listed.setIfInBounds k true)
def planOkG (F : Nat) (ops : Array Oper) (l : List (Nat × Nat)) : Bool :=
  Region.noSelect ops && l.length == ops.size && planG F ops (fun i => l.any fun (k, c) => k == i && c == 2) l (Array.replicate ops.size false)
theorem any_of_walkG (F : Nat) (hs : Region.noSelect ops = true) (hQ : ∀ c a d v w, Q (.panic c) (a.put d v) w → Q (.panic c) a w) : ∀ (l : List (Nat × Nat)) (listed : Array Bool) (a : Act) (w : World), listed.size = ops.size → H w →
    planG F ops eff l listed = true → walk P ops H Q l a w → any P ops eff H Q l.length listed a w
  | [], _, _, _, _, _, hB, h => ⟨by simpa [planG] using hB, h⟩
  | (k, c) :: l, listed, a, w, hsz, hw, hB, h => by
    rw [planG, Bool.and_eq_true] at hB
    obtain ⟨hB, hB'⟩ := hB
    rw [walk] at h
    cases ho : ops[k]? with
    | none => simp only [ho] at h
    | some o =>
      simp only [ho] at h
      have hsz' : (listed.setIfInBounds k true).size = ops.size := by simp [hsz]
      have ih : ∀ a w, H w → walk P ops H Q l a w → any P ops eff H Q l.length (listed.setIfInBounds k true) a w := fun a w h1 h2 => any_of_walkG F hs hQ l _ a w hsz' h1 hB' h2
      cases he : eff k with
      | true =>
        simp only [he, if_true, Bool.and_eq_true, beq_iff_eq, decide_eq_true_eq] at hB
        obtain ⟨rfl, hr⟩ := hB
        refine ⟨fun h0 => (by rw [h0] at hr; cases hr), fun j hj => ?_⟩
        rw [hr] at hj
        have hjk : j = k := by simpa using hj
        subst hjk
        unfold op
        simp only [ho, he, if_true]
        split
        · rename_i hwt
          simp only [hwt, if_true] at h
          exact h.imp (Oper.wp_mono (fun a w hk => ⟨hk.1, ih a w hk.1 hk.2⟩)) id
        · rename_i hwt
          simp only [hwt] at h
          exact ih _ _ hw h
      | false =>
        simp only [he, Bool.false_eq_true, if_false, Bool.and_eq_true, Bool.or_eq_true, beq_iff_eq, decide_eq_true_eq] at hB
        obtain ⟨hc2, hone | ⟨⟨hr, hf⟩, hcc⟩⟩ := hB
        · refine ⟨fun h0 => (by rw [h0] at hone; cases hone), fun j hj => ?_⟩
          rw [hone] at hj
          have hjk : j = k := by simpa using hj
          subst hjk
          unfold op
          simp only [ho, he, Bool.false_eq_true, if_false]
          split
          · rename_i hwt
            simp only [hwt, if_true] at h
            match c, hc2, h with
            | 0, _, h =>
              obtain ⟨v, h1, h2⟩ := h
              exact ⟨v, h1, ih _ _ hw h2⟩
            | 1, _, h =>
              obtain ⟨v, h1, h2⟩ := h
              exact ⟨v, h1 w hw, ih _ _ hw h2⟩
            | (n + 2), hc2, _ => exact absurd hc2 (by omega)
          · rename_i hwt
            simp only [hwt] at h
            exact ih _ _ hw h
        have hr' : k ∈ Region.ready .any ops listed := by simpa using hr
        by_cases hwt : Region.wanted o (yielded ops a.tmps) = true
        · simp only [hwt, if_true] at h
          match c, hc2, h with
          | 0, _, h =>
            obtain ⟨v, h1, h2⟩ := h
            have hcalm : calmG F ops eff k listed = true := hcc.resolve_left (by simp)
            obtain ⟨L, hL⟩ := calmG_spec hsz hcalm
            exact any_calm ho he (Region.noSelect_spec hs) (fun c a w => hQ c a _ _ w) l.length listed a hL (Region.free_spec ho hf) hr' (.inl ⟨hwt, fun w' e => by subst e; exact h1⟩) (ih _ _ hw h2)
          | 1, _, h =>
            obtain ⟨v, h1, h2⟩ := h
            exact any_first ho he (Region.noSelect_spec hs) (fun c a w => hQ c a _ _ w) l.length listed a w hw (Region.free_spec ho hf) hr' (.inl ⟨hwt, h1⟩) (ih _ _ hw h2)
          | (n + 2), hc2, _ => exact absurd hc2 (by omega)
        · have hwt' : Region.wanted o (yielded ops a.tmps) = false := by simpa using hwt
          simp only [hwt', Bool.false_eq_true, if_false] at h
          exact any_first ho he (Region.noSelect_spec hs) (fun c a w => hQ c a _ _ w) l.length listed a w hw (Region.free_spec ho hf) hr' (.inr ⟨hwt', rfl⟩) (ih _ _ hw h)
theorem wp_regionG {id : Nat} {a : Act} {w : World} {lo : List Oper} (F : Nat) (l : List (Nat × Nat)) (H : World → Prop) (hm : P.follows .mixedOrders = true) (hp : planOkG F lo.toArray l = true)
    (hQ : ∀ c a d v w, Q (.panic c) (a.put d v) w → Q (.panic c) a w) (hH : H w.drew) (h : walk P lo.toArray H Q l a w.drew) : (Code.region id lo.toArray true).wp P Q a w := by
  simp only [planOkG, Bool.and_eq_true, beq_iff_eq] at hp
  obtain ⟨⟨hs, hl⟩, hp⟩ := hp
  refine wp_region_any hm (wpAny_of_any (H := H) (eff := fun i => l.any fun (k, c) => k == i && c == 2) _ _ _ _ ?_)
  have h2 := any_of_walkG F (H := H) (eff := fun i => l.any fun (k, c) => k == i && c == 2) hs hQ l (Array.replicate lo.toArray.size false) a _ (by simp) hH hp h
  rw [hl] at h2
  exact h2
end Go.Ord
/- The law BeanWays walked: valid votes. -/
set_option linter.unusedVariables false
set_option linter.unusedSimpArgs false
namespace Go.Proofs.Ytjbjmoghloabpaa
open Go.RowKit Go.Proofs
attribute [local irreducible] Ord.walk
/-- What has been counted below a number. -/
structure Wk (b : Bn) (V v o k : Nat) (m on al lo hi : Nat) : Prop where
  m : m = (LK b k).length
  on : on = cntH (LK b k) v
  al : al = sameN (LK b k) v o
  lo : lo = lowK V (LK b k)
  hi : hi = highK (LK b k)
theorem Wk.le {b : Bn} {V v o k m on al lo hi : Nat} (h : Wk b V v o k m on al lo hi) : m ≤ k ∧ on ≤ k ∧ al ≤ k := by
  have h1 : (LK b k).length ≤ k := by have := List.length_filter_le (holdsB b) (List.range k); rw [List.length_range] at this; exact this
  have h2 : cntH (LK b k) v ≤ (LK b k).length := List.countP_le_length
  have h3 : sameN (LK b k) v o ≤ (LK b k).length := List.countP_le_length
  rw [h.m, h.on, h.al]; omega
theorem Wk.no {b : Bn} {V v o k m on al lo hi : Nat} (h : Wk b V v o k m on al lo hi) (hn : holdsB b k = false) : Wk b V v o (k + 1) m on al lo hi := by
  have e : LK b (k + 1) = LK b k := by rw [LK_succ, hn]; simp
  exact ⟨by rw [e]; exact h.m, by rw [e]; exact h.on, by rw [e]; exact h.al, by rw [e]; exact h.lo, by rw [e]; exact h.hi⟩
theorem bitI_has (x i : Nat) : bitI x i = if hasB x i then 1 else 0 := by
  unfold bitI hasB
  rcases Nat.mod_two_eq_zero_or_one (x / 2 ^ i) with h | h <;> rw [h] <;> rfl
theorem bitI_le (x i : Nat) : 0 ≤ bitI x i ∧ bitI x i ≤ 1 := by
  rw [bitI_has]; cases hasB x i <;> simp
theorem Wk.yes {b : Bn} {V v o k m on al lo hi : Nat} (h : Wk b V v o k m on al lo hi) (hn : holdsB b k = true) : Wk b V v o (k + 1) (m + 1) (on + (bitI k v).toNat) (al + if bitI k v == bitI k o then 1 else 0) (min lo (sz k)) (max hi (sz k)) := by
  have e : LK b (k + 1) = LK b k ++ [k] := by rw [LK_succ, hn]; simp
  refine ⟨?_, ?_, ?_, ?_, ?_⟩
  · rw [e, List.length_append, ← h.m]; rfl
  · rw [e]; unfold cntH; rw [List.countP_append, h.on, bitI_has]; unfold cntH
    cases hx : hasB k v <;> simp [hx]
  · rw [e]; unfold sameN; rw [List.countP_append, h.al, bitI_eq]; unfold sameN
    cases hx : (hasB k v == hasB k o) <;> simp [hx]
  · rw [e]; unfold lowK; rw [List.foldl_append, h.lo]; rfl
  · rw [e]; unfold highK; rw [List.foldl_append, h.hi]; rfl
theorem Wk.zero (b : Bn) (V v o : Nat) : Wk b V v o 0 0 0 0 V 0 := ⟨rfl, rfl, rfl, rfl, rfl⟩
theorem graded_in (n all : Nat) : 0 ≤ gradedI n all ∧ gradedI n all ≤ 2 := by
  unfold gradedI; split
  · omega
  · split <;> omega
theorem graded3 {n all : Nat} (h : 0 < all) (g : Int) (hg : g = gradedI n all) : (g = 2 ∧ n = all) ∨ (g = 0 ∧ n = 0) ∨ (g = 1 ∧ n ≠ all ∧ n ≠ 0) := by
  unfold gradedI at hg
  split at hg
  · exact .inl ⟨hg, by assumption⟩
  · split at hg
    · exact .inr (.inl ⟨hg, by assumption⟩)
    · exact .inr (.inr ⟨hg, by assumption, by assumption⟩)
/-- What is returned of a valid vote. -/
structure Wf (b : Bn) (v o : Nat) (cn : Nat) (wl wu is sm f : Int) : Prop where
  count : countR b = ((cn : Int), 0)
  whites : whitesR b = (wl, wu, f)
  white : whiteR b v = (is, f)
  same : sameR b v o = (sm, f)
  no1 : whiteR b b.V = (0, 2)
  no2 : sameR b v (-1) = (0, 2)
  no3 : tellR b (b.V + 1) = (0, 0, 2)
  cn : cn = (TL b).length
  case : (f = 10 ∧ TL b = [] ∧ wl = 0 ∧ wu = 0 ∧ is = 0 ∧ sm = 0) ∨ (f = 0 ∧ TL b ≠ [] ∧ wl = (loL (TL b) : Nat) ∧ wu = (hiL (TL b) : Nat) ∧ is = gradedI (cntH (TL b) v) (TL b).length ∧ sm = gradedI (sameN (TL b) v o) (TL b).length)
theorem wf {b : Bn} (hv : valid b = true) {v o : Nat} (hvV : (v : Int) < b.V) (hoV : (o : Int) < b.V) : ∃ cn wl wu is sm f, Wf b v o cn wl wu is sm f := by
  have hV := valid_V hv
  have e2 : chkE b true = 0 := by unfold chkE; simp [hv]
  have e3 : ∀ vb, vb = false → toldE b vb = 2 := by rintro vb rfl; unfold toldE; simp [hv]
  have hvb : voterB b v = true := by rw [voterB_of hv]; simp [inB]; omega
  have hob : voterB b o = true := by rw [voterB_of hv]; simp [inB]; omega
  have n1 : whiteR b b.V = (0, 2) := by
    have : voterB b b.V = false := by rw [voterB_of hv]; simp [inB]; omega
    unfold whiteR; rw [e3 _ this, if_neg (by omega)]
  have n2 : sameR b v (-1) = (0, 2) := by
    have : voterB b (-1) = false := by rw [voterB_of hv]; simp [inB]
    unfold sameR; rw [e3 _ (by rw [this, Bool.and_false]), if_neg (by omega)]
  have n3 : tellR b (b.V + 1) = (0, 0, 2) := by
    have : inB (b.V + 1) 0 b.V = false := by simp [inB]; omega
    unfold tellR; rw [e3 _ this, if_neg (by omega)]
  have nc : countR b = ((((TL b).length : Nat) : Int), 0) := by unfold countR; rw [if_pos e2]
  by_cases ht : TL b = []
  · have e1 : toldE b true = 10 := by unfold toldE; simp [hv, ht]
    refine ⟨(TL b).length, 0, 0, 0, 0, 10, nc, ?_, ?_, ?_, n1, n2, n3, rfl, .inl ⟨rfl, ht, rfl, rfl, rfl, rfl⟩⟩
    · unfold whitesR; rw [e1, if_neg (by omega)]
    · unfold whiteR; rw [hvb, e1, if_neg (by omega)]
    · unfold sameR; rw [hvb, hob, Bool.and_true, e1, if_neg (by omega)]
  · have e1 : toldE b true = 0 := by unfold toldE; simp [hv, ht]
    refine ⟨(TL b).length, (loL (TL b) : Nat), (hiL (TL b) : Nat), gradedI (cntH (TL b) v) (TL b).length, gradedI (sameN (TL b) v o) (TL b).length, 0, nc, ?_, ?_, ?_, n1, n2, n3, rfl, .inr ⟨rfl, ht, rfl, rfl, rfl, rfl⟩⟩
    · unfold whitesR; rw [if_pos e1]
    · unfold whiteR; rw [hvb, if_pos e1, Int.toNat_natCast]
    · unfold sameR; rw [hvb, hob, Bool.and_true, if_pos e1, Int.toNat_natCast, Int.toNat_natCast]
set_option maxHeartbeats 40000000 in
set_option maxRecDepth 100000 in
theorem w_Ways_main (b : Bn) (ga : Option Addr) (gc : Nat) (pa : Option Addr) (pc : Nat) (n1 n2 : Nat) (hn1 : n1 < 256) (hn2 : n2 < 256) (w : World) (hg : GsAt w ga b.gs) (hp : PsAt w pa b.ps) (hv : valid b = true) :
    Calls Try.prog 7 #[bv b ga gc pa pc, .int .u8 n1, .int .u8 n2] w (Gives (.bool true) w) := by
  have hln := valid_len hv
  have hV := valid_V hv
  have HL : Hid (∀ W, Calls Try.prog 12 #[bv b ga gc pa pc] W (Gives (.bool false) W)) := fun W => by
    have := l_long b ga gc pa pc W (by unfold maxLen; omega) (by unfold maxLen; omega)
    rwa [show longB b = false by unfold longB; exact decide_eq_false (by omega)] at this
  have HBn : Hid (∀ W, Below w.heap.size w W → Calls Try.prog 36 #[bv b ga gc pa pc] W (Gives (.bool true) W)) := fun W hb => by
    have := r_bean (hg.below hb) (hp.below hb) (ga := ga) (gc := gc) (pa := pa) (pc := pc) (by omega) (by omega)
    rwa [hv] at this
  obtain ⟨V, hVe⟩ : ∃ V : Nat, b.V = V := ⟨b.V.toNat, by omega⟩
  have hV8 : V ≤ 8 := by omega
  have hV1 : 1 ≤ V := by omega
  have hVn : b.V.toNat = V := by omega
  obtain ⟨P, hPe⟩ : ∃ P, 2 ^ V = P := ⟨_, rfl⟩
  have hP8 : P ≤ 256 := by have := Nat.pow_le_pow_right (show 0 < 2 by omega) hV8; have e : (2 : Nat) ^ 8 = 256 := rfl; omega
  have hsh : wrap64 (2 ^ b.V.toNat) = (P : Int) := by
    have e1 : ((2 : Int) ^ b.V.toNat) = ((2 ^ V : Nat) : Int) := by rw [hVn]; push_cast; rfl
    rw [e1, hPe]; exact IntWalk.wrap64_in _ (by omega)
  obtain ⟨v, hve⟩ : ∃ v, n1 % V = v := ⟨_, rfl⟩
  obtain ⟨o, hoe⟩ : ∃ o, n2 % V = o := ⟨_, rfl⟩
  have hvV : v < V := by rw [← hve]; exact Nat.mod_lt _ (by omega)
  have hoV : o < V := by rw [← hoe]; exact Nat.mod_lt _ (by omega)
  have hr1 : (n1 : Int).tmod b.V = (v : Int) := by rw [hVe, ← hve, Int.tmod_eq_emod_of_nonneg (by omega)]; rfl
  have hr2 : (n2 : Int).tmod b.V = (o : Int) := by rw [hVe, ← hoe, Int.tmod_eq_emod_of_nonneg (by omega)]; rfl
  have hb0 : ¬ b.V = 0 := by omega
  obtain ⟨cn, wl, wu, is, sm, f, HF0⟩ := wf hv (show (v : Int) < b.V by omega) (show (o : Int) < b.V by omega)
  have HF := Lib.hid HF0
  clear HF0
  have I1 : Hid (∀ W, Below w.heap.size w W → Calls Try.prog 24 #[bv b ga gc pa pc] W (Gives2 (.int .i64 cn) (.int .i64 0) W)) := fun W hb => by
    have := bb_Count b ga gc pa pc W (hg.below hb) (hp.below hb) (by omega) (by omega); rwa [HF.out.count] at this
  have I2 : Hid (∀ W, Below w.heap.size w W → Calls Try.prog 14 #[bv b ga gc pa pc] W (Gives2 (.agg #[.int .i64 wl, .int .i64 wu]) (.int .i64 f) W)) := fun W hb => by
    have := bb_Whites b ga gc pa pc W (hg.below hb) (hp.below hb) (by omega) (by omega); rwa [HF.out.whites] at this
  have I3 : Hid (∀ W, Below w.heap.size w W → Calls Try.prog 16 #[bv b ga gc pa pc, .int .i64 v] W (Gives2 (.int .i64 is) (.int .i64 f) W)) := fun W hb => by
    have := bb_White b ga gc pa pc W (hg.below hb) (hp.below hb) (by omega) (by omega) v; rwa [HF.out.white] at this
  have I4 : Hid (∀ W, Below w.heap.size w W → Calls Try.prog 22 #[bv b ga gc pa pc, .int .i64 v, .int .i64 o] W (Gives2 (.int .i64 sm) (.int .i64 f) W)) := fun W hb => by
    have := bb_Same b ga gc pa pc W (hg.below hb) (hp.below hb) (by omega) (by omega) v o; rwa [HF.out.same] at this
  have I5 : Hid (∀ W, Below w.heap.size w W → Calls Try.prog 16 #[bv b ga gc pa pc, .int .i64 b.V] W (Gives2 (.int .i64 0) (.int .i64 2) W)) := fun W hb => by
    have := bb_White b ga gc pa pc W (hg.below hb) (hp.below hb) (by omega) (by omega) b.V; rwa [HF.out.no1] at this
  have I6 : Hid (∀ W, Below w.heap.size w W → Calls Try.prog 22 #[bv b ga gc pa pc, .int .i64 v, .int .i64 (-1)] W (Gives2 (.int .i64 0) (.int .i64 2) W)) := fun W hb => by
    have := bb_Same b ga gc pa pc W (hg.below hb) (hp.below hb) (by omega) (by omega) v (-1); rwa [HF.out.no2] at this
  have I7 : Hid (∀ W, Below w.heap.size w W → Calls Try.prog 26 #[bv b ga gc pa pc, .int .i64 (b.V + 1)] W (Gives3 (.int .i64 0) (.int .i64 0) (.int .i64 2) W)) := fun W hb => by
    have := bb_Tell b ga gc pa pc W (hg.below hb) (hp.below hb) (by omega) (by omega) (b.V + 1); rwa [HF.out.no3] at this
  have IH : Hid (∀ k W, k < 256 → Below w.heap.size w W → Calls Try.prog 39 #[bv b ga gc pa pc, .int .i64 (k : Nat)] W (Gives (.bool (holdsB b k)) W)) := fun k W hk hb =>
    l_holds b ga gc pa pc k W (hg.below hb) (hp.below hb) hv hk
  have HV := Lib.hid hVe
  have HVn := Lib.hid hVn
  have HP := Lib.hid hPe
  clear hve hoe hVe hVn hPe
  unfold bv at *
  go_enter Try.func7, Try.ntmps7
  go_wp2_with (first
    | (go_at_call 12; refine (HL.out _).mono ?_; rintro e w1 ⟨rfl, hb1⟩; refine at_stop ?_))
  unfold Stop
  have bb := (Blk.new w #[.int .i64 b.V, .int .i64 b.nd, .int .i64 b.lo, .int .i64 b.hi, .slice ga b.gs.length gc, .slice pa b.ps.length pc] 27).below hb1 (by simp)
  have hB := ((Below.refl w.heap.size w).alloc (Nat.le_refl _) _).trans (hb1.mono (by simp))
  clear hb1
  go_wp2_with (first
    | (refine wpList_load_blk 27 (.tmp 3) agg_bean rfl rfl rfl bb rfl ?_)
    | (go_at_call 36; refine (HBn.out _ hB).mono ?_; rintro e w2 ⟨rfl, hb2⟩; refine at_stop ?_))
  unfold Stop
  replace bb := bb.below hb2 bb.lt
  replace hB := hB.trans (hb2.mono hB.size)
  clear hb2 HL HBn
  have rb := bb.cell
  go_upto_region 7 with fail
  refine Ord.wp_region [(0, 0), (1, 0), (2, 0), (3, 0), (4, 0), (5, 0), (6, 0), (7, 0), (8, 0), (9, 0), (10, 0), (11, 0)] (fun _ => True) (by kernel_rfl) (by kernel_rfl) (fun c a d v w h => by cases d <;> exact h) trivial ?_
  go_wp2_with (first
    | (go_at_call 24; refine at_stop ?_)
    | ((with_reducible refine Ord.at_calm ?_); refine Ord.calm_skip rfl ?_ (fun K hK => ?_); (focus (simp [Region.wanted, yielded]; done))) | with_reducible refine Ord.walk_calm rfl rfl (fun K hK => ?_) | ((with_reducible refine Ord.at_wild ?_); refine Ord.wild_fieldAddr rfl rfl (fun W => by simp [go_sem]; rfl) (fun K hK => ?_)) | ((with_reducible refine Ord.at_wild ?_); refine Ord.wild_move rfl rfl (fun K hK => ?_)) | ((with_reducible refine Ord.at_wild ?_); refine Ord.wild_nilCheck rfl rfl (fun K hK => ?_)) | with_reducible refine Ord.walk_eff rfl (by first | (simp; done) | assumption | (go_simp; done) | (repeat (first | assumption | exact Below.refl _ _ | refine Below.drew ?_ | refine Below.alloc ?_ (by first | omega | (simp; done) | (simp; omega)) _ | refine Below.setCell ?_ (by first | omega | (simp; done) | (simp; omega)) _ | refine Below.trans ?_ (Below.mono (by assumption) (by first | omega | (simp; done) | (simp; omega)))))) (fun K hK => ?_) | with_reducible refine Ord.at_fork ?_ ?_ | with_reducible refine Ord.walk_nil ?_ | (with_reducible refine Ord.next_of (by first | (simp; done) | (go_simp; done) | (repeat (first | assumption | exact Below.refl _ _ | refine Below.drew ?_ | refine Below.alloc ?_ (by first | omega | (simp; done) | (simp; omega)) _ | refine Below.setCell ?_ (by first | omega | (simp; done) | (simp; omega)) _ | refine Below.trans ?_ (Below.mono (by assumption) (by first | omega | (simp; done) | (simp; omega)))))) (fun _ => ?_)))
  unfold Stop
  replace hB := hB.drew
  replace bb := bb.drew
  clear rb
  refine (I1.out _ hB).mono ?_
  rintro e w5 ⟨rfl, hb5⟩
  replace bb := bb.below hb5 bb.lt; replace hB := hB.trans (hb5.mono hB.size); clear hb5
  go_wp2_with (first
    | (refine wpList_load_blk 27 (.tmp 3) agg_bean rfl rfl rfl bb rfl ?_)
    | (go_at_call 14; refine (I2.out _ hB).mono ?_; rintro e w5 ⟨rfl, hb5⟩; replace bb := bb.below hb5 bb.lt; replace hB := hB.trans (hb5.mono hB.size); clear hb5; refine at_stop ?_))
  unfold Stop
  go_wp2_with (first
    | (refine wpList_store_blk 23 (.tmp 15) (.tmp 87) agg_span rfl rfl rfl rfl (Blk.new _ _ _) rfl rfl (by simp [Value.oneCell']) ?_; intro w6 h6; refine at_stop ?_))
  unfold Stop
  have b15 := h6.blk
  replace bb := h6.other (bb.alloc _) (by have := bb.lt; omega)
  replace hB := h6.below (hB.alloc hB.size _) hB.size
  clear h6
  have rb := bb.cell
  go_upto_region 15 with (first
    | (refine wpList_load_blk 27 (.tmp 3) agg_bean rfl rfl rfl bb rfl ?_)
    | (go_at_call 16; refine ((by first | with_reducible exact I3.out _ hB | with_reducible exact I5.out _ hB) : Calls _ _ _ _ _).mono ?_; rintro e w5 ⟨rfl, hb5⟩; clear rb; replace bb := bb.below hb5 bb.lt; replace b15 := b15.below hb5 b15.lt; replace hB := hB.trans (hb5.mono hB.size); clear hb5; have rb := bb.cell)
    | (go_at_call 22; refine ((by first | with_reducible exact I4.out _ hB | with_reducible exact I6.out _ hB) : Calls _ _ _ _ _).mono ?_; rintro e w5 ⟨rfl, hb5⟩; clear rb; replace bb := bb.below hb5 bb.lt; replace b15 := b15.below hb5 b15.lt; replace hB := hB.trans (hb5.mono hB.size); clear hb5; have rb := bb.cell)
    | (go_at_call 26; refine (I7.out _ hB).mono ?_; rintro e w5 ⟨rfl, hb5⟩; clear rb; replace bb := bb.below hb5 bb.lt; replace b15 := b15.below hb5 b15.lt; replace hB := hB.trans (hb5.mono hB.size); clear hb5; have rb := bb.cell))
  refine Ord.wp_region [(0, 0), (1, 0), (2, 0), (3, 0), (4, 0), (5, 0), (6, 0)] (fun _ => True) (by kernel_rfl) (by kernel_rfl) (fun c a d v w h => by cases d <;> exact h) trivial ?_
  go_wp2_with (first
    | ((with_reducible refine Ord.at_calm ?_); refine Ord.calm_skip rfl ?_ (fun K hK => ?_); (focus (simp [Region.wanted, yielded]; done))) | with_reducible refine Ord.walk_calm rfl rfl (fun K hK => ?_) | ((with_reducible refine Ord.at_wild ?_); refine Ord.wild_fieldAddr rfl rfl (fun W => by simp [go_sem]; rfl) (fun K hK => ?_)) | ((with_reducible refine Ord.at_wild ?_); refine Ord.wild_move rfl rfl (fun K hK => ?_)) | ((with_reducible refine Ord.at_wild ?_); refine Ord.wild_nilCheck rfl rfl (fun K hK => ?_)) | with_reducible refine Ord.walk_eff rfl (by first | (simp; done) | assumption | (go_simp; done) | (repeat (first | assumption | exact Below.refl _ _ | refine Below.drew ?_ | refine Below.alloc ?_ (by first | omega | (simp; done) | (simp; omega)) _ | refine Below.setCell ?_ (by first | omega | (simp; done) | (simp; omega)) _ | refine Below.trans ?_ (Below.mono (by assumption) (by first | omega | (simp; done) | (simp; omega)))))) (fun K hK => ?_) | with_reducible refine Ord.at_fork ?_ ?_ | with_reducible refine Ord.walk_nil ?_ | (with_reducible refine Ord.next_of (by first | (simp; done) | (go_simp; done) | (repeat (first | assumption | exact Below.refl _ _ | refine Below.drew ?_ | refine Below.alloc ?_ (by first | omega | (simp; done) | (simp; omega)) _ | refine Below.setCell ?_ (by first | omega | (simp; done) | (simp; omega)) _ | refine Below.trans ?_ (Below.mono (by assumption) (by first | omega | (simp; done) | (simp; omega)))))) (fun _ => ?_)))
  replace hB := hB.drew
  replace bb := bb.drew
  replace b15 := b15.drew
  clear I1 I2 I3 I4 I5 I6 I7 rb
  generalize hw9 : w5.drew = w9 at *
  clear hw9
  rw [hsh]
  go_loopw [28, 29, 30, 31, 32, 129] (fun x1 x2 x3 x4 x5 i wr => ∃ k m on al lo hi : Nat, k ≤ P ∧ i = .int .i64 k ∧ x1 = .int .i64 m ∧ x2 = .int .i64 on ∧ x3 = .int .i64 al ∧ x4 = .int .i64 lo ∧ x5 = .int .i64 hi ∧ Hid (Wk b V v o k m on al lo hi) ∧ Below w9.heap.size w9 wr) (fun _ _ _ _ _ i _ => P - (intOf i).toNat)
  case atStart => exact ⟨0, 0, 0, 0, V, 0, by omega, rfl, rfl, rfl, rfl, by rw [HV.out], rfl, Wk.zero b V v o, Below.refl _ _⟩
  case round =>
    obtain ⟨k, m, on, al, lo, hi, hk, rfl, rfl, rfl, rfl, rfl, rfl, HW, hBr⟩ := hrel
    by_cases hlt : k < P
    · have hlti : (k : Int) < (P : Int) := by omega
      have bbr := bb.below hBr bb.lt
      have hBw := hB.trans (hBr.mono hB.size)
      have IHk := Lib.hid (fun W hb => IH.out k W (by omega) hb)
      have hle := HW.out.le
      have hsr := hBr.size
      cases hh : holdsB b k
      · rw [hh] at IHk
        have HN := Lib.hid (HW.out.no hh)
        clear hh HW HF
        go_wp2_with (first
          | (refine wpList_load_blk 27 (.tmp 3) agg_bean rfl rfl rfl bbr rfl ?_)
          | (go_at_call 39; refine (IHk.out _ hBw).mono ?_; rintro e w6 ⟨rfl, hb6⟩))
        exact ⟨⟨k + 1, m, on, al, lo, hi, by omega, by go_num, rfl, rfl, rfl, rfl, rfl, HN, hBr.trans (hb6.mono hsr)⟩, by simp [intOf]; omega⟩
      · rw [hh] at IHk
        have HN := Lib.hid (HW.out.yes hh)
        clear hh HW HF
        have HS := Lib.hid (l_size k (by omega))
        have hs8 := sz_le (w := k) (by omega)
        have hq1 := bit_i64 k v (by omega)
        have hq2 := bit_i64 k o (by omega)
        have hq3 := bitI_le k v
        generalize sz k = s0 at *
        generalize bitI k v = q1 at *
        generalize bitI k o = q2 at *
        go_upto_region 22 with (first
          | (refine wpList_load_blk 27 (.tmp 3) agg_bean rfl rfl rfl bbr rfl ?_)
          | (go_at_call 38; refine (HS.out _).mono ?_; rintro e w' ⟨rfl, rfl⟩)
          | (go_at_call 39; refine (IHk.out _ hBw).mono ?_; rintro e w6 ⟨rfl, hb6⟩))
        refine Ord.wp_region [(0, 0), (1, 0), (2, 0), (3, 0), (4, 0), (5, 0), (6, 0), (7, 0), (8, 0)] (fun _ => True) (by kernel_rfl) (by kernel_rfl) (fun c a d v w h => by cases d <;> exact h) trivial ?_
        cases hqq : (q1 == q2)
        · rw [hqq] at HN
          go_wp2_with (first
            | ((with_reducible refine Ord.at_calm ?_); refine Ord.calm_skip rfl ?_ (fun K hK => ?_); (focus (simp [Region.wanted, yielded]; done))) | with_reducible refine Ord.walk_calm rfl rfl (fun K hK => ?_) | ((with_reducible refine Ord.at_wild ?_); refine Ord.wild_fieldAddr rfl rfl (fun W => by simp [go_sem]; rfl) (fun K hK => ?_)) | ((with_reducible refine Ord.at_wild ?_); refine Ord.wild_move rfl rfl (fun K hK => ?_)) | ((with_reducible refine Ord.at_wild ?_); refine Ord.wild_nilCheck rfl rfl (fun K hK => ?_)) | with_reducible refine Ord.walk_eff rfl (by first | (simp; done) | assumption | (go_simp; done) | (repeat (first | assumption | exact Below.refl _ _ | refine Below.drew ?_ | refine Below.alloc ?_ (by first | omega | (simp; done) | (simp; omega)) _ | refine Below.setCell ?_ (by first | omega | (simp; done) | (simp; omega)) _ | refine Below.trans ?_ (Below.mono (by assumption) (by first | omega | (simp; done) | (simp; omega)))))) (fun K hK => ?_) | with_reducible refine Ord.at_fork ?_ ?_ | with_reducible refine Ord.walk_nil ?_ | (with_reducible refine Ord.next_of (by first | (simp; done) | (go_simp; done) | (repeat (first | assumption | exact Below.refl _ _ | refine Below.drew ?_ | refine Below.alloc ?_ (by first | omega | (simp; done) | (simp; omega)) _ | refine Below.setCell ?_ (by first | omega | (simp; done) | (simp; omega)) _ | refine Below.trans ?_ (Below.mono (by assumption) (by first | omega | (simp; done) | (simp; omega)))))) (fun _ => ?_)))
          refine ⟨⟨k + 1, m + 1, on + q1.toNat, al, min lo s0, max hi s0, by omega, by go_num, by go_num, ?_, rfl, ?_, ?_, HN, (hBr.trans (hb6.mono hsr)).drew⟩, by simp [intOf]; omega⟩
          · congr 1; omega
          · congr 1; omega
          · congr 1; omega
        · rw [hqq] at HN
          go_wp2_with (first
            | ((with_reducible refine Ord.at_calm ?_); refine Ord.calm_skip rfl ?_ (fun K hK => ?_); (focus (simp [Region.wanted, yielded]; done))) | with_reducible refine Ord.walk_calm rfl rfl (fun K hK => ?_) | ((with_reducible refine Ord.at_wild ?_); refine Ord.wild_fieldAddr rfl rfl (fun W => by simp [go_sem]; rfl) (fun K hK => ?_)) | ((with_reducible refine Ord.at_wild ?_); refine Ord.wild_move rfl rfl (fun K hK => ?_)) | ((with_reducible refine Ord.at_wild ?_); refine Ord.wild_nilCheck rfl rfl (fun K hK => ?_)) | with_reducible refine Ord.walk_eff rfl (by first | (simp; done) | assumption | (go_simp; done) | (repeat (first | assumption | exact Below.refl _ _ | refine Below.drew ?_ | refine Below.alloc ?_ (by first | omega | (simp; done) | (simp; omega)) _ | refine Below.setCell ?_ (by first | omega | (simp; done) | (simp; omega)) _ | refine Below.trans ?_ (Below.mono (by assumption) (by first | omega | (simp; done) | (simp; omega)))))) (fun K hK => ?_) | with_reducible refine Ord.at_fork ?_ ?_ | with_reducible refine Ord.walk_nil ?_ | (with_reducible refine Ord.next_of (by first | (simp; done) | (go_simp; done) | (repeat (first | assumption | exact Below.refl _ _ | refine Below.drew ?_ | refine Below.alloc ?_ (by first | omega | (simp; done) | (simp; omega)) _ | refine Below.setCell ?_ (by first | omega | (simp; done) | (simp; omega)) _ | refine Below.trans ?_ (Below.mono (by assumption) (by first | omega | (simp; done) | (simp; omega)))))) (fun _ => ?_)))
          refine ⟨⟨k + 1, m + 1, on + q1.toNat, al + 1, min lo s0, max hi s0, by omega, by go_num, by go_num, ?_, by go_num, ?_, ?_, HN, (hBr.trans (hb6.mono hsr)).drew⟩, by simp [intOf]; omega⟩
          · congr 1; omega
          · congr 1; omega
          · congr 1; omega
    · have hlti : ¬ (k : Int) < (P : Int) := by omega
      have e : k = P := by omega
      have hLK : LK b k = TL b := by rw [e, ← HP.out, ← HVn.out]; exact LK_all hv
      obtain ⟨hm, hon, hal, hlo, hhi⟩ := HW.out
      rw [hLK] at hm hon hal hlo hhi
      have hcn := HF.out.cn
      obtain rfl : cn = m := by omega
      have hcase := HF.out.case
      have hBw := hB.trans (hBr.mono hB.size)
      have b15r := b15.below hBr b15.lt
      have r15 := b15r.cell
      have HA := Lib.hid l_alive
      have HSp := Lib.hid l_span
      clear e HF HW hLK IH bb hB b15 hBr hg hp hr1 hr2 hsh hcn
      rcases hcase with ⟨rfl, ht, rfl, rfl, rfl, rfl⟩ | ⟨rfl, ht, rfl, rfl, hise, hsme⟩
      · have hm0 : cn = 0 := by rw [hm, ht]; rfl
        subst hm0
        clear hm hon hal hlo hhi ht
        go_wp2_with (first
          | (go_at_call 13; refine (HA.out _).mono ?_; rintro e w7 ⟨rfl, hb7⟩))
        go_ret
        exact ⟨rfl, hBw.trans (hb7.mono hBw.size)⟩
      · have hpos : 0 < cn := by rw [hm]; exact List.length_pos_iff.2 ht
        have hlo' : lo = loL (TL b) := by rw [hlo]; exact low_eq ht (fun x hx => by rw [← HVn.out]; exact sz_V hv hx)
        have hhi' : hi = hiL (TL b) := by rw [hhi]; exact high_eq ht
        obtain ⟨h1a, h1b⟩ := graded_all (n := on) (all := cn) hpos
        obtain ⟨h2a, h2b⟩ := graded_all (n := al) (all := cn) hpos
        obtain ⟨h1c, h1d⟩ := graded_in on cn
        obtain ⟨h2c, h2d⟩ := graded_in al cn
        have hise' : is = gradedI on cn := by rw [hise, hon, hm]
        have hsme' : sm = gradedI al cn := by rw [hsme, hal, hm]
        rw [← hise'] at h1a h1b h1c h1d
        rw [← hsme'] at h2a h2b h2c h2d
        rw [← hlo', ← hhi'] at b15r r15
        have hposi : (0 : Int) < (cn : Int) := by omega
        clear hm hon hal hlo hhi ht hlo' hhi' hise hsme hise' hsme' hv
        go_upto_region 29 with fail
        refine Ord.wp_regionG 4 [(0, 1), (1, 0), (2, 0), (3, 2), (4, 0), (5, 0), (6, 0), (7, 0), (8, 0), (9, 0), (10, 0), (11, 0), (12, 0), (13, 0), (14, 0), (15, 0), (16, 0), (17, 0), (18, 0), (19, 0), (20, 0), (21, 0), (22, 0), (23, 0), (24, 0), (25, 0), (26, 0), (27, 0), (28, 0), (29, 0), (30, 0), (31, 0), (32, 0), (33, 0), (34, 0), (35, 0), (36, 0), (37, 0), (38, 0), (39, 0), (40, 0), (41, 0), (42, 0), (43, 0), (44, 0), (45, 0), (46, 0), (47, 0), (48, 0), (49, 0), (50, 0), (51, 0), (52, 2), (53, 0), (54, 0)] (fun W => Below wr.heap.size wr W) (by kernel_rfl) (by kernel_rfl) (fun c a d v w h => by cases d <;> exact h) (Below.refl _ _).drew ?_
        have lS := b15r.lt
        clear r15
        go_wp2_with (first
          | ((with_reducible refine Ord.at_wild ?_); refine Ord.wild_load (ad := ⟨_, 0, none⟩) (.agg #[.int .i64 lo, .int .i64 hi]) rfl rfl ?_ ?_; (focus (intro W hW; exact loadVar_blk agg_span (b15r.below hW (by omega)) rfl)); intro K hK)
          | (go_at_call 34; refine (HSp.out _ _ _).mono ?_; rintro e w4 ⟨rfl, hb4⟩; refine at_stop ?_)
          | ((with_reducible refine Ord.at_calm ?_); refine Ord.calm_skip rfl ?_ (fun K hK => ?_); (focus (simp [Region.wanted, yielded]; done))) | with_reducible refine Ord.walk_calm rfl rfl (fun K hK => ?_) | ((with_reducible refine Ord.at_wild ?_); refine Ord.wild_fieldAddr rfl rfl (fun W => by simp [go_sem]; rfl) (fun K hK => ?_)) | ((with_reducible refine Ord.at_wild ?_); refine Ord.wild_move rfl rfl (fun K hK => ?_)) | ((with_reducible refine Ord.at_wild ?_); refine Ord.wild_nilCheck rfl rfl (fun K hK => ?_)) | with_reducible refine Ord.walk_eff rfl (by first | (simp; done) | assumption | (go_simp; done) | (repeat (first | assumption | exact Below.refl _ _ | refine Below.drew ?_ | refine Below.alloc ?_ (by first | omega | (simp; done) | (simp; omega)) _ | refine Below.setCell ?_ (by first | omega | (simp; done) | (simp; omega)) _ | refine Below.trans ?_ (Below.mono (by assumption) (by first | omega | (simp; done) | (simp; omega)))))) (fun K hK => ?_) | with_reducible refine Ord.at_fork ?_ ?_ | with_reducible refine Ord.walk_nil ?_ | (with_reducible refine Ord.next_of (by first | (simp; done) | (go_simp; done) | (repeat (first | assumption | exact Below.refl _ _ | refine Below.drew ?_ | refine Below.alloc ?_ (by first | omega | (simp; done) | (simp; omega)) _ | refine Below.setCell ?_ (by first | omega | (simp; done) | (simp; omega)) _ | refine Below.trans ?_ (Below.mono (by assumption) (by first | omega | (simp; done) | (simp; omega)))))) (fun _ => ?_)))
        unfold Stop
        have hb24 : Below wr.heap.size wr w4 := (Below.refl _ _).drew.trans hb4
        have hBw4 := hBw.trans (hb24.mono hBw.size)
        have hs4 := hb24.size
        clear hb4 b15r lS
        go_wp2_with (first
          | (go_at_call 13; refine (HA.out _).mono ?_; rintro e w7 ⟨rfl, hb7⟩)
          | ((with_reducible refine Ord.at_calm ?_); refine Ord.calm_skip rfl ?_ (fun K hK => ?_); (focus (simp [Region.wanted, yielded]; done))) | with_reducible refine Ord.walk_calm rfl rfl (fun K hK => ?_) | ((with_reducible refine Ord.at_wild ?_); refine Ord.wild_fieldAddr rfl rfl (fun W => by simp [go_sem]; rfl) (fun K hK => ?_)) | ((with_reducible refine Ord.at_wild ?_); refine Ord.wild_move rfl rfl (fun K hK => ?_)) | ((with_reducible refine Ord.at_wild ?_); refine Ord.wild_nilCheck rfl rfl (fun K hK => ?_)) | with_reducible refine Ord.walk_eff rfl (by first | (simp; done) | assumption | (go_simp; done) | (repeat (first | assumption | exact Below.refl _ _ | refine Below.drew ?_ | refine Below.alloc ?_ (by first | omega | (simp; done) | (simp; omega)) _ | refine Below.setCell ?_ (by first | omega | (simp; done) | (simp; omega)) _ | refine Below.trans ?_ (Below.mono (by assumption) (by first | omega | (simp; done) | (simp; omega)))))) (fun K hK => ?_) | with_reducible refine Ord.at_fork ?_ ?_ | with_reducible refine Ord.walk_nil ?_ | (with_reducible refine Ord.next_of (by first | (simp; done) | (go_simp; done) | (repeat (first | assumption | exact Below.refl _ _ | refine Below.drew ?_ | refine Below.alloc ?_ (by first | omega | (simp; done) | (simp; omega)) _ | refine Below.setCell ?_ (by first | omega | (simp; done) | (simp; omega)) _ | refine Below.trans ?_ (Below.mono (by assumption) (by first | omega | (simp; done) | (simp; omega)))))) (fun _ => ?_)))
        go_ret
        refine ⟨ret_bool ?_, hBw4.trans (hb7.mono hBw4.size)⟩
        first | rfl | (simp; done) | (simp; omega) | (simp_all; done) | (simp_all; omega)
end Go.Proofs.Ytjbjmoghloabpaa
