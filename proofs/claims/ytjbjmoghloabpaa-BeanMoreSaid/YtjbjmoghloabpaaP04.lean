/- Parts of a proof: BnE, MapSt. -/
import Derived.Test.YtjbjmoghloabpaaP03
import Derived.Maps.RangeRun
import Derived.DeepKeys5
import Derived.Carry
set_option linter.unusedVariables false
set_option linter.unusedSimpArgs false
namespace Go.Proofs.Ytjbjmoghloabpaa
open Go.RowKit Go.Proofs

theorem b_gties (t : Ti) (vo : Nat) (lo hi : Int) (w : World) :
    Calls Try.prog 128 #[.agg #[.int .u64 vo, .int .i64 lo, .int .i64 hi], .agg (tcells t)] w (Gives2 (.agg (tcells t)) (.bool true) w) := by
  have hsz := tcells_size t
  have hones := ones_ties t
  generalize tcells t = TC at *
  go_enter Try.func128, Try.ntmps128
  go_upto_region 1 with fail
  obtain ⟨W3, hW3⟩ : ∃ W3, W3 = ((w.alloc (.cells #[.int .u64 vo, .int .i64 lo, .int .i64 hi] 87)).alloc (.cells TC 118)).alloc (.cells (tcells (freeTo 0)) 118) := ⟨_, rfl⟩
  rw [freeTo_zero] at hW3
  have b1 : Blk W3 (w.heap.size + 1) TC 118 := by rw [hW3]; exact (Blk.new' _ _ _ _ (by simp)).alloc _
  have b2 : Blk W3 (w.heap.size + 1 + 1) #[.int .i64 0, .bool false, .int .i64 0, .bool false, .int .i64 0, .bool false, .int .i64 0, .bool false, .int .i64 0, .bool false, .int .i64 0, .bool false, .int .i64 0, .bool false, .int .i64 0, .bool false] 118 := by rw [hW3]; exact Blk.new' _ _ _ _ (by simp)
  have hb3 : Below w.heap.size w W3 := by rw [hW3]; (repeat (first | assumption | exact Below.refl _ _ | refine Below.drew ?_ | refine Below.alloc ?_ (by first | omega | (simp; done) | (simp; omega)) _ | refine Below.setCell ?_ (by first | omega | (simp; done) | (simp; omega)) _ | refine Below.trans ?_ (Below.mono (by assumption) (by first | omega | (simp; done) | (simp; omega)))))
  rw [← hW3]
  clear hW3
  go_wp2_with (first
    | (refine wpList_load_blk 118 (.tmp 3) agg_ties rfl rfl rfl b1 hsz ?_)
    | (refine wpList_store_blk 118 (.tmp 4) (.tmp 6) agg_ties rfl rfl rfl rfl b2 rfl hsz hones ?_; intro w5 h5))
  (try simp only [Exit.inBlock, Exit.then])
  refine bodyPost_ret (v := .tuple #[.agg TC, .bool true]) ((results_cell_tmp rfl _ _ _).trans (by simp [asAddr, loadVar_blk agg_ties h5.blk hsz]; done)) rfl ⟨rfl, ?_⟩
  exact h5.below hb3 (by omega)

theorem b_pties (t : Ti) (A B : Nat) (hA : A < 8) (hB : B < 8) (ht : ∀ i, i < 8 → (t i).1 < 8) (s : Bool) (w : World) :
    Calls Try.prog 129 #[.agg #[.int .u64 0, .int .i64 0, .int .i64 0, .int .i64 A, .int .i64 B, .bool s], .agg (tcells t)] w (Gives2 (.agg (tcells (tiedT t A B s))) (.bool (tiedOk t A B s)) w) := by
  have hsz := tcells_size t
  have hones := ones_ties (tiedT t A B s)
  have hsz2 := tcells_size (tiedT t A B s)
  have HT := Lib.hid (fun w => b_tied t A B A B rfl rfl hA hB ht s w)
  generalize tiedOk t A B s = ok at *
  generalize tcells (tiedT t A B s) = T2 at *
  generalize tcells t = TC at *
  go_enter Try.func129, Try.ntmps129
  go_upto_region 1 with fail
  obtain ⟨W3, hW3⟩ : ∃ W3, W3 = ((w.alloc (.cells #[.int .u64 0, .int .i64 0, .int .i64 0, .int .i64 A, .int .i64 B, .bool s] 89)).alloc (.cells TC 118)).alloc (.cells (tcells (freeTo 0)) 118) := ⟨_, rfl⟩
  rw [freeTo_zero] at hW3
  have b0 : Blk W3 w.heap.size #[.int .u64 0, .int .i64 0, .int .i64 0, .int .i64 A, .int .i64 B, .bool s] 89 := by rw [hW3]; exact ((Blk.new _ _ _).alloc _).alloc _
  have b1 : Blk W3 (w.heap.size + 1) TC 118 := by rw [hW3]; exact (Blk.new' _ _ _ _ (by simp)).alloc _
  have b2 : Blk W3 (w.heap.size + 1 + 1) #[.int .i64 0, .bool false, .int .i64 0, .bool false, .int .i64 0, .bool false, .int .i64 0, .bool false, .int .i64 0, .bool false, .int .i64 0, .bool false, .int .i64 0, .bool false, .int .i64 0, .bool false] 118 := by rw [hW3]; exact Blk.new' _ _ _ _ (by simp)
  have hb3 : Below w.heap.size w W3 := by rw [hW3]; (repeat (first | assumption | exact Below.refl _ _ | refine Below.drew ?_ | refine Below.alloc ?_ (by first | omega | (simp; done) | (simp; omega)) _ | refine Below.setCell ?_ (by first | omega | (simp; done) | (simp; omega)) _ | refine Below.trans ?_ (Below.mono (by assumption) (by first | omega | (simp; done) | (simp; omega)))))
  rw [← hW3]
  clear hW3
  have r0 := b0.cell
  have hlt := b2.lt
  go_wp2_with (first
    | (refine wpList_load_blk 118 (.tmp 3) agg_ties rfl rfl rfl b1 hsz ?_)
    | (go_at_call 130; refine (HT.out _).mono ?_; rintro e w4 ⟨rfl, hb4⟩; replace b2 := b2.below hb4 hlt)
    | (refine wpList_store_blk 118 (.tmp 4) (.tmp 10) agg_ties rfl rfl rfl rfl b2 rfl hsz2 hones ?_; intro w5 h5))
  (try simp only [Exit.inBlock, Exit.then])
  refine bodyPost_ret (v := .tuple #[.agg T2, .bool ok]) ((results_cell_tmp rfl _ _ _).trans (by simp [asAddr, loadVar_blk agg_ties h5.blk hsz2]; done)) rfl ⟨rfl, ?_⟩
  exact h5.below (hb3.trans (hb4.mono (by omega))) (by omega)

/-- How many white beans there are in all groups. -/
abbrev St := Nat → Nat
def scells (s : St) : Array Value := #[.int .i64 (s 0), .int .i64 (s 1), .int .i64 (s 2), .int .i64 (s 3), .int .i64 (s 4), .int .i64 (s 5), .int .i64 (s 6)]
theorem scells_size (s : St) : (scells s).size = 7 := rfl
theorem ones_st (s : St) : (scells s).all (·.oneCell') = true := by simp [scells, Value.oneCell']
theorem scells_at (s : St) (i : Nat) (h : i < 7) : (scells s)[i]? = some (.int .i64 (s i)) := by
  rcases (show i = 0 ∨ i = 1 ∨ i = 2 ∨ i = 3 ∨ i = 4 ∨ i = 5 ∨ i = 6 by omega) with rfl | rfl | rfl | rfl | rfl | rfl | rfl <;> rfl
def sadd (s : St) (i : Nat) : St := fun j => if j = i then s j + 1 else s j
theorem scells_set (s : St) (i : Nat) (h : i < 7) : (scells s).setIfInBounds i (.int .i64 (s i + 1)) = scells (sadd s i) := by
  rcases (show i = 0 ∨ i = 1 ∨ i = 2 ∨ i = 3 ∨ i = 4 ∨ i = 5 ∨ i = 6 by omega) with rfl | rfl | rfl | rfl | rfl | rfl | rfl <;> simp [scells, sadd]
theorem agg_st : AggTy Try.prog 126 7 := ⟨_, Try.underlying126, rfl, by kernel_rfl⟩
/-- Groups. -/
abbrev Gr := Nat × Int × Int
def GrAt (w : World) (ga : Option Addr) (gs : List Gr) : Prop :=
  ∀ i, (h : i < gs.length) → ∃ gb go, ga = some ⟨gb, go, none⟩ ∧ w.cell? ⟨gb, go + i * 3, none⟩ = some (.int .u64 gs[i].1) ∧
    w.cell? ⟨gb, go + i * 3 + 1, none⟩ = some (.int .i64 gs[i].2.1) ∧ w.cell? ⟨gb, go + i * 3 + 2, none⟩ = some (.int .i64 gs[i].2.2)
theorem GrAt.below {w w' : World} {ga : Option Addr} {gs : List Gr} (h : GrAt w ga gs) (hb : Below w.heap.size w w') : GrAt w' ga gs := fun i hi =>
  let ⟨gb, go, h0, h1, h2, h3⟩ := h i hi
  ⟨gb, go, h0, cell_later hb h1, cell_later hb h2, cell_later hb h3⟩
def inG (gs : List Gr) (v : Nat) (k : Nat) : Bool := match gs[k]? with | some g => hasB g.1 v | none => false
def withTo (gs : List Gr) (s : St) (v : Nat) (k : Nat) : St := fun j => if j < k ∧ inG gs v j = true then s j + 1 else s j
def withS (gs : List Gr) (s : St) (v : Nat) : St := withTo gs s v gs.length
theorem withTo_succ (gs : List Gr) (s : St) (v : Nat) (k : Nat) : withTo gs s v (k + 1) = if inG gs v k = true then sadd (withTo gs s v k) k else withTo gs s v k := by
  by_cases h : inG gs v k = true
  · rw [if_pos h]; funext j; simp only [withTo, sadd]
    by_cases h1 : j = k
    · subst h1; rw [if_pos ⟨Nat.lt_succ_self _, h⟩, if_pos rfl, if_neg (fun e => Nat.lt_irrefl _ e.1)]
    · rw [if_neg h1]
      by_cases h2 : j < k ∧ inG gs v j = true
      · rw [if_pos h2, if_pos ⟨by omega, h2.2⟩]
      · rw [if_neg h2, if_neg (fun e => h2 ⟨by omega, e.2⟩)]
  · rw [if_neg h]; funext j; simp only [withTo]
    by_cases h1 : j = k
    · subst h1; rw [if_neg (fun e => h e.2), if_neg (fun e => h e.2)]
    · by_cases h2 : j < k ∧ inG gs v j = true
      · rw [if_pos h2, if_pos ⟨by omega, h2.2⟩]
      · rw [if_neg h2, if_neg (fun e => h2 ⟨by omega, e.2⟩)]
theorem withTo_self (gs : List Gr) (s : St) (v k : Nat) : withTo gs s v k k = s k := by simp [withTo]

theorem bit_u64 (vo v : Nat) (h : vo < 2 ^ 62) : (bits .and .u64 ((vo : Int) / 2 ^ v) 1 == 1) = hasB vo v := by
  have h1 : ((vo : Int) / 2 ^ v) = ((vo / 2 ^ v : Nat) : Int) := by simp
  have h2 : vo / 2 ^ v ≤ vo := Nat.div_le_self _ _
  have h3 : (1 : Int) = ((1 : Nat) : Int) := rfl
  rw [h1]
  conv => lhs; arg 1; rw [h3]
  rw [u64_and_nat _ _ (by omega) (by omega), nat_mask1]
  unfold hasB
  rw [Bool.eq_iff_iff, beq_iff_eq, beq_iff_eq]
  omega

set_option maxHeartbeats 4000000 in
set_option maxRecDepth 100000 in
theorem b_with (s : St) (hs : ∀ i, s i < 1000) (ga : Option Addr) (gc : Nat) (gs : List Gr) (hl : gs.length ≤ 7) (hv : ∀ g ∈ gs, g.1 < 2 ^ 62) (x : Int) (v : Nat) (hx : x = v) (hv8 : v ≤ 62) (w : World) (hg : GrAt w ga gs) :
    Calls Try.prog 99 #[.agg (scells s), .slice ga gs.length gc, .int .i64 x] w (Gives (.agg (scells (withS gs s v))) w) := by
  subst hx
  have hsz := scells_size s
  have hones := ones_st s
  have H0 : Hid (withTo gs s v 0 = s) := by show _ = _; funext j; simp [withTo]
  have HE : Hid (withS gs s v = withTo gs s v gs.length) := rfl
  go_enter Try.func99, Try.ntmps99
  go_upto_region 1 with fail
  obtain ⟨W3, hW3⟩ : ∃ W3, W3 = (w.alloc (.cells (scells s) 126)).alloc (.cells (scells (fun _ => 0)) 126) := ⟨_, rfl⟩
  have b0 : Blk W3 w.heap.size (scells (withTo gs s v 0)) 126 := by rw [hW3, H0.out]; exact (Blk.new _ _ _).alloc _
  have b1 : Blk W3 (w.heap.size + 1) (scells (fun _ => 0)) 126 := by rw [hW3]; exact Blk.new' _ _ _ _ (by simp)
  have hb3 : Below w.heap.size w W3 := by rw [hW3]; (repeat (first | assumption | exact Below.refl _ _ | refine Below.drew ?_ | refine Below.alloc ?_ (by first | omega | (simp; done) | (simp; omega)) _ | refine Below.setCell ?_ (by first | omega | (simp; done) | (simp; omega)) _ | refine Below.trans ?_ (Below.mono (by assumption) (by first | omega | (simp; done) | (simp; omega)))))
  have hq : scells (fun _ => 0) = #[.int .i64 0, .int .i64 0, .int .i64 0, .int .i64 0, .int .i64 0, .int .i64 0, .int .i64 0] := rfl
  rw [hq] at hW3 b1
  rw [← hW3]
  have hz : w.heap.size + 2 = W3.heap.size := by rw [hW3]; simp
  clear hW3
  go_wp2
  go_loopw [11] (fun i wr => ∃ k : Nat, k ≤ gs.length ∧ i = .int .i64 k ∧ Below w.heap.size w wr ∧ w.heap.size + 2 ≤ wr.heap.size ∧ Blk wr w.heap.size (scells (withTo gs s v k)) 126 ∧
    Blk wr (w.heap.size + 1) #[.int .i64 0, .int .i64 0, .int .i64 0, .int .i64 0, .int .i64 0, .int .i64 0, .int .i64 0] 126) (fun i _ => gs.length - (intOf i).toNat)
  case atStart => exact ⟨0, by omega, rfl, hb3, by omega, b0, b1⟩
  case round =>
    clear b0 b1 hb3
    obtain ⟨k, hk, rfl, hB, hsz2, b0, b1⟩ := hrel
    by_cases hlt : k < gs.length
    · have hlti : (k : Int) < gs.length := by omega
      have hk7 : (k : Int) < 7 := by omega
      obtain ⟨gb, go, rfl, e1, e2, e3⟩ := hg k hlt
      have f1 := cell_later hB e1
      have f2 := cell_later hB e2
      have f3 := cell_later hB e3
      have hgb : gb < w.heap.size := World.block_lt_of_cell? w _ e1
      have hbit : inG gs v k = hasB gs[k].1 v := by simp [inG, hlt]
      have hvo := hv _ (List.getElem_mem hlt)
      have hbI := bit_u64 gs[k].1 v hvo
      have hself := withTo_self gs s v k
      have hsk := hs k
      have hcell := scells_at (withTo gs s v k) k (by omega)
      have hset := Lib.hid (scells_set (withTo gs s v k) k (by omega))
      rw [hself] at hcell
      have hst := Lib.hid (withTo_succ gs s v k)
      generalize gs[k] = g at *
      obtain ⟨vo, lo, hi⟩ := g
      simp only at *
      clear e1 e2 e3 hg
      have HSELF := Lib.hid hself
      clear hself
      generalize hsv : s k = sk at *
      have HSV := Lib.hid hsv
      clear hsv
      have hst2 := hst.out
      rw [hbit] at hst2
      clear hst hbit
      have r0 := b0.cell
      have r1 := b0.free
      cases hbb : hasB vo v
      · rw [hbb] at hbI hst2
        rw [if_neg (by simp)] at hst2
        have HST := Lib.hid hst2
        clear hst2 hbb
        go_wp2
        refine ⟨⟨k + 1, by omega, by go_num, by (repeat (first | assumption | exact Below.refl _ _ | refine Below.drew ?_ | refine Below.alloc ?_ (by first | omega | (simp; done) | (simp; omega)) _ | refine Below.setCell ?_ (by first | omega | (simp; done) | (simp; omega)) _ | refine Below.trans ?_ (Below.mono (by assumption) (by first | omega | (simp; done) | (simp; omega))))), by simp; omega, ?_, b1.alloc _⟩, by simp [intOf]; omega⟩
        rw [HST.out]
        exact b0.alloc _
      · rw [hbb] at hbI hst2
        rw [if_pos rfl] at hst2
        have HST := Lib.hid hst2
        clear hst2 hbb
        go_wp2
        refine ⟨⟨k + 1, by omega, by go_num, by (repeat (first | assumption | exact Below.refl _ _ | refine Below.drew ?_ | refine Below.alloc ?_ (by first | omega | (simp; done) | (simp; omega)) _ | refine Below.setCell ?_ (by first | omega | (simp; done) | (simp; omega)) _ | refine Below.trans ?_ (Below.mono (by assumption) (by first | omega | (simp; done) | (simp; omega))))), by simp; omega, ?_, (b1.alloc _).other (by show w.heap.size + 1 ≠ w.heap.size; omega) _⟩, by simp [intOf]; omega⟩
        rw [HST.out, ← hset.out, HSELF.out]
        exact (b0.alloc _).set _ _
    · have hkl : k = gs.length := by omega
      subst hkl
      have hszE := scells_size (withTo gs s v gs.length)
      have honesE := ones_st (withTo gs s v gs.length)
      rw [← HE.out] at b0 hszE honesE
      generalize withS gs s v = E at *
      generalize scells E = EC at *
      go_wp2_with (first
        | (refine wpList_load_blk 126 (.tmp 3) agg_st rfl rfl rfl b0 hszE ?_)
        | (refine wpList_store_blk 126 (.tmp 6) (.tmp 30) agg_st rfl rfl rfl rfl b1 rfl hszE honesE ?_; intro w5 h5))
      (try simp only [Exit.inBlock, Exit.then])
      refine bodyPost_ret (v := .agg EC) (results_cell_blk rfl _ agg_st rfl h5.blk hszE) rfl ⟨rfl, ?_⟩
      exact h5.below hB (by omega)

/-- Are all groups right? -/
def fitsTo (gs : List Gr) (s : St) (k : Nat) : Bool := (List.range k).all fun j => match gs[j]? with | some g => inB (s j) g.2.1 g.2.2 | none => true
def fitsB (gs : List Gr) (s : St) : Bool := fitsTo gs s gs.length
theorem fitsTo_succ (gs : List Gr) (s : St) (k : Nat) (h : k < gs.length) : fitsTo gs s (k + 1) = (fitsTo gs s k && inB (s k) gs[k].2.1 gs[k].2.2) := by
  unfold fitsTo
  rw [List.range_succ, List.all_append]
  simp [h]
theorem fitsTo_no (gs : List Gr) (s : St) (k n : Nat) (h : k ≤ n) (hf : fitsTo gs s k = false) : fitsTo gs s n = false := by
  unfold fitsTo at *
  rw [List.all_eq_false] at *
  obtain ⟨x, hx, hp⟩ := hf
  exact ⟨x, List.mem_range.2 (by have := List.mem_range.1 hx; omega), hp⟩

set_option maxHeartbeats 4000000 in
set_option maxRecDepth 100000 in
theorem b_sfits (s : St) (ga : Option Addr) (gc : Nat) (gs : List Gr) (hl : gs.length ≤ 7) (w : World) (hg : GrAt w ga gs) :
    Calls Try.prog 100 #[.agg (scells s), .slice ga gs.length gc] w (Gives (.bool (fitsB gs s)) w) := by
  have HE : Hid (fitsB gs s = fitsTo gs s gs.length) := rfl
  have HF := Lib.hid b_gfits
  have H0 : Hid (fitsTo gs s 0 = true) := rfl
  go_enter Try.func100, Try.ntmps100
  go_wp2
  have b0 : Blk (w.alloc (.cells (scells s) 126)) w.heap.size (scells s) 126 := Blk.new _ _ _
  go_loopw [10] (fun i wr => ∃ k : Nat, k ≤ gs.length ∧ i = .int .i64 k ∧ Below w.heap.size w wr ∧ w.heap.size < wr.heap.size ∧ Blk wr w.heap.size (scells s) 126 ∧ Hid (fitsTo gs s k = true)) (fun i _ => gs.length - (intOf i).toNat)
  case atStart => exact ⟨0, by omega, rfl, by (repeat (first | assumption | exact Below.refl _ _ | refine Below.drew ?_ | refine Below.alloc ?_ (by first | omega | (simp; done) | (simp; omega)) _ | refine Below.setCell ?_ (by first | omega | (simp; done) | (simp; omega)) _ | refine Below.trans ?_ (Below.mono (by assumption) (by first | omega | (simp; done) | (simp; omega))))), by simp, b0, H0⟩
  case round =>
    clear b0 H0
    obtain ⟨k, hk, rfl, hB, hsz2, b0, hF⟩ := hrel
    by_cases hlt : k < gs.length
    · have hlti : (k : Int) < gs.length := by omega
      have hk7 : (k : Int) < 7 := by omega
      obtain ⟨gb, go, rfl, e1, e2, e3⟩ := hg k hlt
      have f1 := cell_later hB e1
      have f2 := cell_later hB e2
      have f3 := cell_later hB e3
      have hgb : gb < w.heap.size := World.block_lt_of_cell? w _ e1
      have hst := Lib.hid (fitsTo_succ gs s k hlt)
      have hno := Lib.hid (fitsTo_no gs s (k + 1) gs.length (by omega))
      have hcell := scells_at s k (by omega)
      generalize gs[k] = g at *
      obtain ⟨vo, lo, hi⟩ := g
      simp only at *
      clear e1 e2 e3 hg
      have r0 := b0.cell
      cases hbb : inB (s k) lo hi
      · have HBB := Lib.hid hbb
        clear hbb
        go_wp2_with (go_at_call 107; refine (HF.out _ _ _ _ _).mono ?_; rw [HBB.out]; rintro e w4 ⟨rfl, hb4⟩; obtain ⟨c4, f4, z4⟩ := after hb4 (by simp; rfl))
        go_ret
        refine ⟨ret_bool ?_, ?_⟩
        · rw [HE.out]; exact (hno.out (by rw [hst.out, HBB.out]; simp)).symm
        · (repeat (first | assumption | exact Below.refl _ _ | refine Below.drew ?_ | refine Below.alloc ?_ (by first | omega | (simp; done) | (simp; omega)) _ | refine Below.setCell ?_ (by first | omega | (simp; done) | (simp; omega)) _ | refine Below.trans ?_ (Below.mono (by assumption) (by first | omega | (simp; done) | (simp; omega)))))
      · have HBB := Lib.hid hbb
        clear hbb
        go_wp2_with (go_at_call 107; refine (HF.out _ _ _ _ _).mono ?_; rw [HBB.out]; rintro e w4 ⟨rfl, hb4⟩; obtain ⟨c4, f4, z4⟩ := after hb4 (by simp; rfl))
        refine ⟨⟨k + 1, by omega, by go_num, by (repeat (first | assumption | exact Below.refl _ _ | refine Below.drew ?_ | refine Below.alloc ?_ (by first | omega | (simp; done) | (simp; omega)) _ | refine Below.setCell ?_ (by first | omega | (simp; done) | (simp; omega)) _ | refine Below.trans ?_ (Below.mono (by assumption) (by first | omega | (simp; done) | (simp; omega))))), by omega, (b0.alloc _).below hb4 (by simp; omega), ?_⟩, by simp [intOf]; omega⟩
        show _ = _
        rw [hst.out, HBB.out, hF.out]; rfl
    · have hkl : k = gs.length := by omega
      subst hkl
      go_wp2
      go_ret
      refine ⟨ret_bool ?_, hB⟩
      rw [HE.out]; exact hF.out.symm
end Go.Proofs.Ytjbjmoghloabpaa
set_option linter.unusedVariables false
set_option linter.unusedSimpArgs false
namespace Go.Proofs.Ytjbjmoghloabpaa
open Go.RowKit Go.Proofs

/-- A state as its seven numbers. -/
abbrev SL := List Nat
def lcells (x : SL) : Array Value := (x.map fun n : Nat => Value.int .i64 n).toArray
def SL7 (x : SL) : Prop := x.length = 7 ∧ ∀ n ∈ x, n < 1000
theorem lcells_inj {x y : SL} (h : lcells x = lcells y) : x = y := by
  unfold lcells at h
  have h2 : x.map (fun n : Nat => Value.int .i64 n) = y.map (fun n : Nat => Value.int .i64 n) := by simpa using h
  refine List.map_inj_right (f := fun n : Nat => Value.int .i64 n) (fun a b hab => ?_) |>.1 h2
  simp only [Value.int.injEq, true_and] at hab
  omega

theorem laid_out : laidOutB Try.prog = true := by kernel_rfl
theorem st_law : WideMaps.KeyLaw Try.prog 126 :=
  deep_law_gate laid_out (of_decide_eq_true (by kernel_rfl)) (of_decide_eq_true (by kernel_rfl)) (by kernel_rfl) (by rw [Try.underlying126])

theorem st_key {x : SL} (h : SL7 x) : ∃ l, keyOf Try.prog 126 (.agg (lcells x)) = some l := by
  obtain ⟨h7, hx⟩ := h
  match x, h7 with
  | [a, b, c, d, e, f, g], _ =>
    simp only [List.mem_cons, List.not_mem_nil, or_false, forall_eq_or_imp, forall_eq] at hx
    obtain ⟨ha, hb, hc, hd, he, hf, hg⟩ := hx
    have hk : Try.prog.keyType 126 = true := by kernel_rfl
    obtain ⟨n, hn⟩ : ∃ n, Try.prog.types.size + 1 = n + 3 := ⟨Try.prog.types.size - 2, by have : 2 ≤ Try.prog.types.size := of_decide_eq_true (by kernel_rfl); omega⟩
    unfold keyOf
    rw [Try.underlying126]
    simp only [hk, hn]
    have c1 : Try.prog.cellsOf 126 = 7 := by kernel_rfl
    have c2 : Try.prog.cellsOf 124 = 7 := by kernel_rfl
    have c3 : Try.prog.cellsOf 3 = 1 := by kernel_rfl
    have hform : (Value.agg (lcells [a, b, c, d, e, f, g])).formed Try.prog 126 = true := by
      simp [Value.formed, Try.underlying126, c1, lcells]
    rw [hform]
    have hr : List.range 7 = [0, 1, 2, 3, 4, 5, 6] := rfl
    have hw : ∀ n : Nat, n < 1000 → (Lit.int .i64 n).wf = true := fun n hn => by have : IntKind.i64.min = -9223372036854775808 := rfl; simp [Lit.wf, this]; omega
    simp [Program.keyLits, Try.underlying126, Try.underlying124, Try.underlying3, lcells, c1, c2, c3, Value.cells, hr, hw a ha, hw b hb, hw c hc, hw d hd, hw e he, hw f hf, hw g hg]

/-- A map's entries. -/
def entsFrom : Nat → List (SL × Nat) → List MapEntry
  | _, [] => []
  | i, p :: l => { key := .agg (lcells p.1), val := .int .i64 p.2, born := i } :: entsFrom (i + 1) l
def ents (l : List (SL × Nat)) : Array MapEntry := (entsFrom 0 l).toArray
def MapIs (w : World) (m : Nat) (l : List (SL × Nat)) : Prop := w.heap[m]? = some (.map (ents l) l.length)
def MapOk (l : List (SL × Nat)) : Prop := (∀ p ∈ l, SL7 p.1) ∧ (l.map (·.1)).Nodup
def getM (l : List (SL × Nat)) (x : SL) : Nat := ((l.find? (fun p => p.1 == x)).map (·.2)).getD 0
def putM (l : List (SL × Nat)) (x : SL) (v : Nat) : List (SL × Nat) := if x ∈ l.map (·.1) then l.map (fun p => if p.1 = x then (x, v) else p) else l ++ [(x, v)]
theorem entsFrom_length (i : Nat) (l : List (SL × Nat)) : (entsFrom i l).length = l.length := by
  induction l generalizing i with
  | nil => rfl
  | cons p l ih => simp [entsFrom, ih]
theorem entsFrom_get (i : Nat) (l : List (SL × Nat)) (j : Nat) : (entsFrom i l)[j]? = l[j]?.map fun p => { key := .agg (lcells p.1), val := .int .i64 p.2, born := i + j } := by
  induction l generalizing i j with
  | nil => simp [entsFrom]
  | cons p l ih =>
    cases j with
    | zero => simp [entsFrom]
    | succ j => simp [entsFrom, ih]; congr 1; funext q; congr 1; omega
theorem entsFrom_mem {i : Nat} {l : List (SL × Nat)} {e : MapEntry} (h : e ∈ entsFrom i l) : ∃ p ∈ l, e.key = .agg (lcells p.1) ∧ e.val = .int .i64 p.2 := by
  induction l generalizing i with
  | nil => simp [entsFrom] at h
  | cons p l ih =>
    simp only [entsFrom, List.mem_cons] at h
    rcases h with rfl | h
    · exact ⟨p, by simp, rfl, rfl⟩
    · obtain ⟨q, h1, h2, h3⟩ := ih h
      exact ⟨q, by simp [h1], h2, h3⟩
theorem MapOk.keyed {l : List (SL × Nat)} (h : MapOk l) : ∀ e ∈ (ents l).toList, ∃ k, keyOf Try.prog 126 e.key = some k := by
  intro e he
  obtain ⟨p, hp, hk, -⟩ := entsFrom_mem (show e ∈ entsFrom 0 l by simpa [ents] using he)
  rw [hk]
  exact st_key (h.1 p hp)

theorem getM_at {l : List (SL × Nat)} (h : MapOk l) {j : Nat} {p : SL × Nat} (hj : l[j]? = some p) : getM l p.1 = p.2 := by
  unfold getM
  have hm : p ∈ l := List.mem_of_getElem? hj
  have h1 : ∀ q ∈ l, q.1 = p.1 → q = p := by
    have hn := h.2
    intro q hq he
    obtain ⟨i, hi⟩ := List.getElem?_of_mem hq
    have hi' : (l.map (·.1))[i]? = some q.1 := by simp [hi]
    have hj' : (l.map (·.1))[j]? = some p.1 := by simp [hj]
    rw [he] at hi'
    have hij : i = j := (List.getElem?_inj (by simpa using (List.getElem?_eq_some_iff.1 hi).1) hn).1 (hi'.trans hj'.symm)
    subst hij
    rw [hi] at hj
    simpa using hj
  cases hf : l.find? (fun q => q.1 == p.1) with
  | none =>
    have := List.find?_eq_none.1 hf p hm
    simp at this
  | some q =>
    have h2 := List.find?_some hf
    have h3 := List.mem_of_find?_eq_some hf
    have h4 := h1 q h3 (by simpa using h2)
    subst h4
    rfl
theorem getM_none {l : List (SL × Nat)} {x : SL} (h : ∀ p ∈ l, p.1 ≠ x) : getM l x = 0 := by
  unfold getM
  rw [List.find?_eq_none.2 (fun p hp => by simpa using h p hp)]
  rfl
/-- What is found at a key. -/
theorem run_find_st {l : List (SL × Nat)} (h : MapOk l) {x : SL} (hx : SL7 x) (w : World) :
    ((Instr.findKey 126 (.agg (lcells x)) (ents l).toList).run Try.prog w = .ok none w ∧ ∀ p ∈ l, p.1 ≠ x) ∨
    ∃ j p, (Instr.findKey 126 (.agg (lcells x)) (ents l).toList).run Try.prog w = .ok (some (j, .int .i64 p.2)) w ∧ l[j]? = some p ∧ p.1 = x := by
  obtain ⟨k, hk⟩ := st_key hx
  rcases st_law.find w hk (ents l).toList h.keyed with ⟨h1, h2⟩ | ⟨j, e, h1, h2, h3⟩
  · refine .inl ⟨h1, fun p hp he => ?_⟩
    obtain ⟨i, hi⟩ := List.getElem?_of_mem hp
    have : ({ key := .agg (lcells p.1), val := .int .i64 p.2, born := 0 + i } : MapEntry) ∈ (ents l).toList := by
      refine List.mem_of_getElem? (i := i) ?_
      simp [ents, entsFrom_get, hi]
    exact h2 _ this (by rw [he])
  · have h4 : (entsFrom 0 l)[j]? = some e := by simpa [ents] using h2
    rw [entsFrom_get] at h4
    cases hp : l[j]? with
    | none => simp [hp] at h4
    | some p =>
      simp only [hp, Option.map_some, Option.some.injEq] at h4
      subst h4
      exact .inr ⟨j, p, h1, hp, lcells_inj (by simpa using h3)⟩
theorem run_lookup_st {w : World} {m : Nat} {l : List (SL × Nat)} (hm : MapIs w m l) (h : MapOk l) {x : SL} (hx : SL7 x) :
    (Instr.lookup 127 (.map (some m)) (.agg (lcells x)) false).run Try.prog w = .ok (.int .i64 (getM l x)) w := by
  obtain ⟨k, hk⟩ := st_key hx
  have hc := fun em => st_law.check w em hk
  have hz : (zeroValue 3).run Try.prog w = .ok (.int .i64 0) w := by simp [go_sem]
  rcases run_find_st h hx w with ⟨h1, h2⟩ | ⟨j, p, h1, h2, h3⟩
  · simp [Instr.lookup, Try.underlying127, MapKept.run_getObj_map hm, hc, h1, hz, getM_none h2]
  · subst h3
    simp [Instr.lookup, Try.underlying127, MapKept.run_getObj_map hm, hc, h1, getM_at h h2]

/-- A world in which block b alone has turned. -/
structure Turn1 (w : World) (b : Nat) (w' : World) : Prop where
  size : w'.heap.size = w.heap.size
  other : ∀ {c : Nat}, c ≠ b → w'.heap[c]? = w.heap[c]?
  cell : ∀ c i, w'.cell? ⟨c, i, none⟩ = if c = b then cellX w' b i else w.cell? ⟨c, i, none⟩
  free : ∀ c i, w'.frozen? ⟨c, i, none⟩ = if c = b then frozenX w' b i else w.frozen? ⟨c, i, none⟩
  below : ∀ {n : Nat} {W : World}, Below n W w → n ≤ b → Below n W w'
theorem Turn1.blk {w w' : World} {b c : Nat} {A : Array Value} {t : TypeId} (h : Turn1 w b w') (hb : Blk w c A t) (hc : c ≠ b) : Blk w' c A t := (h.other hc).trans hb
theorem Turn1.of {w w1 : World} {b : Nat} {o : Obj} (hw : w1 = w ∨ w1 = w.drew) (hb : b < w.heap.size) : Turn1 w b (Go.ChangeMaps.setBlock w1 b o) ∧ (Go.ChangeMaps.setBlock w1 b o).heap[b]? = some o := by
  have hh : w1.heap = w.heap := by rcases hw with rfl | rfl <;> rfl
  have hot : ∀ {c : Nat}, c ≠ b → (Go.ChangeMaps.setBlock w1 b o).heap[c]? = w.heap[c]? := by
    intro c hc
    simp only [Go.ChangeMaps.setBlock]
    rw [Array.getElem?_setIfInBounds, if_neg (Ne.symm hc), hh]
  have hsz : (Go.ChangeMaps.setBlock w1 b o).heap.size = w.heap.size := by simp [Go.ChangeMaps.setBlock, hh]
  refine ⟨⟨hsz, hot, fun c i => ?_, fun c i => ?_, fun hB hn => hB.trans ⟨?_, ?_, ?_, Nat.le_of_eq hsz.symm, fun k hk => hot (by omega)⟩⟩, ?_⟩
  · by_cases hc : c = b
    · subst hc; rw [if_pos rfl]; rfl
    · rw [if_neg hc]; exact World.cell?_of_block (a := ⟨c, i, none⟩) (hot hc)
  · by_cases hc : c = b
    · subst hc; rw [if_pos rfl]; rfl
    · rw [if_neg hc]; exact World.frozen?_of_block (a := ⟨c, i, none⟩) (hot hc)
  · rcases hw with rfl | rfl <;> rfl
  · rcases hw with rfl | rfl <;> rfl
  · rcases hw with rfl | rfl <;> rfl
  · simp only [Go.ChangeMaps.setBlock]
    rw [Array.getElem?_setIfInBounds, if_pos rfl, if_pos (by rw [hh]; exact hb)]

theorem putM_old {l : List (SL × Nat)} (h : MapOk l) {j : Nat} {p : SL × Nat} (hj : l[j]? = some p) (v : Nat) :
    (ents l).modify j (fun e => { e with key := .agg (lcells p.1), val := .int .i64 v }) = ents (putM l p.1 v) ∧ (putM l p.1 v).length = l.length := by
  have hm : p ∈ l := List.mem_of_getElem? hj
  have hin : p.1 ∈ l.map (·.1) := List.mem_map_of_mem hm
  unfold putM
  rw [if_pos hin]
  refine ⟨?_, by simp⟩
  apply Array.ext_getElem?
  intro i
  rw [Array.getElem?_modify]
  simp only [ents, List.getElem?_toArray, entsFrom_get, List.getElem?_map, Option.map_map]
  by_cases hij : j = i
  · subst hij
    rw [if_pos rfl, hj]
    simp
  · rw [if_neg hij]
    cases hq : l[i]? with
    | none => rfl
    | some q =>
      have hne : q.1 ≠ p.1 := by
        intro he
        have hi' : (l.map (·.1))[i]? = some q.1 := by simp [hq]
        have hj' : (l.map (·.1))[j]? = some p.1 := by simp [hj]
        rw [he] at hi'
        exact hij ((List.getElem?_inj (by simpa using (List.getElem?_eq_some_iff.1 hj).1) h.2).1 (hj'.trans hi'.symm))
      simp [hne]
theorem putM_new {l : List (SL × Nat)} {x : SL} (hn : ∀ p ∈ l, p.1 ≠ x) (v : Nat) :
    (ents l).push { key := .agg (lcells x), val := .int .i64 v, born := l.length } = ents (putM l x v) ∧ (putM l x v).length = l.length + 1 := by
  have hni : x ∉ l.map (·.1) := by
    intro h
    obtain ⟨p, hp, he⟩ := List.mem_map.1 h
    exact hn p hp he
  unfold putM
  rw [if_neg hni]
  refine ⟨?_, by simp⟩
  apply Array.ext_getElem?
  intro i
  rw [Array.getElem?_push]
  simp only [ents, List.getElem?_toArray, entsFrom_get, List.size_toArray, entsFrom_length]
  by_cases hi : i = l.length
  · subst hi
    simp
  · rw [if_neg hi]
    by_cases h2 : i < l.length
    · rw [List.getElem?_append_left h2]
    · rw [List.getElem?_eq_none (by omega), List.getElem?_eq_none (by simp; omega)]
theorem MapOk.put {l : List (SL × Nat)} (h : MapOk l) {x : SL} (hx : SL7 x) (v : Nat) : MapOk (putM l x v) := by
  unfold putM
  split
  · rename_i hin
    refine ⟨fun p hp => ?_, ?_⟩
    · obtain ⟨q, hq, rfl⟩ := List.mem_map.1 hp
      split
      · exact hx
      · exact h.1 q hq
    · have : (l.map (fun p => if p.1 = x then (x, v) else p)).map (·.1) = l.map (·.1) := by
        rw [List.map_map]
        apply List.map_congr_left
        intro p _
        by_cases he : p.1 = x
        · simp [he]
        · simp [he]
      rw [this]
      exact h.2
  · rename_i hni
    refine ⟨fun p hp => ?_, ?_⟩
    · rcases List.mem_append.1 hp with hp | hp
      · exact h.1 p hp
      · simp at hp; subst hp; exact hx
    · rw [List.map_append, List.nodup_append]
      refine ⟨h.2, by simp, fun a ha b hb => ?_⟩
      simp at hb
      subst hb
      exact fun e => hni (e ▸ ha)

theorem run_mapUpdate_st {w : World} {m : Nat} {l : List (SL × Nat)} (hm : MapIs w m l) (h : MapOk l) {x : SL} (hx : SL7 x) (v : Nat) :
    ∃ w', (Instr.mapUpdate 127 (.map (some m)) (.agg (lcells x)) (.int .i64 v)).run Try.prog w = .ok () w' ∧ Turn1 w m w' ∧ MapIs w' m (putM l x v) := by
  obtain ⟨k, hk⟩ := st_key hx
  have hc := fun em => st_law.check w em hk
  have hst := st_law.stays w hk
  have hlt : m < w.heap.size := by
    rcases Nat.lt_or_ge m w.heap.size with h' | h'
    · exact h'
    · unfold MapIs at hm; simp [Array.getElem?_eq_none h'] at hm
  rcases run_find_st h hx w with ⟨h1, h2⟩ | ⟨j, p, h1, h2, h3⟩
  · obtain ⟨e1, e2⟩ := putM_new h2 v
    obtain ⟨t1, t2⟩ := Turn1.of (w := w) (w1 := w) (b := m) (o := .map ((ents l).push { key := .agg (lcells x), val := .int .i64 v, born := l.length }) (l.length + 1)) (.inl rfl) hlt
    refine ⟨_, ?_, t1, ?_⟩
    · simp [Instr.mapUpdate, Try.underlying127, MapKept.run_getObj_map hm, hc, h1, MapKept.run_setObj_map _ hm, Go.ChangeMaps.setBlock]
    · unfold MapIs; rw [t2, e1, e2]
  · subst h3
    obtain ⟨e1, e2⟩ := putM_old h h2 v
    have hent : (ents l)[j]? = some { key := .agg (lcells p.1), val := .int .i64 p.2, born := 0 + j } := by simp [ents, entsFrom_get, h2]
    obtain ⟨t1, t2⟩ := Turn1.of (w := w) (w1 := w) (b := m) (o := .map ((ents l).modify j fun e => { e with key := .agg (lcells p.1), val := .int .i64 v }) l.length) (.inl rfl) hlt
    refine ⟨_, ?_, t1, ?_⟩
    · simp [Instr.mapUpdate, Try.underlying127, MapKept.run_getObj_map hm, hc, h1, hent, hst, MapKept.run_setObj_map _ hm, Go.ChangeMaps.setBlock]
    · unfold MapIs; rw [t2, e1, e2]
end Go.Proofs.Ytjbjmoghloabpaa
