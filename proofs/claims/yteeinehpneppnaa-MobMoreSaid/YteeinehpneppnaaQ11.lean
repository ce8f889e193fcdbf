/- Parts of a proof: MoF. -/
import Derived.Test.YteeinehpneppnaaQ10
import Derived.Test.YteeinehpneppnaaQ03
import Derived.Outline
set_option linter.unusedVariables false
set_option linter.unusedSimpArgs false
namespace Go.Proofs.Yteeinehpneppnaa
open Go.RowKit Go.Proofs
attribute [local irreducible] Ord.walk
/-- On which day a mob that leaves on the day 0 comes to a place. -/
def comesM (m : Mb) (L : List Int) (h p : Nat) : Int := inK m L (startN m h) 0 (p - startN m h)
/-- When a mob can have left, by the first things that were seen, and by a set of them. -/
def lvTo (m : Mb) (L : List Int) (h set : Nat) : Nat → Int × Int
  | 0 => ((m.herds.getD h (0, 0, 0, 0)).2.1, (m.herds.getD h (0, 0, 0, 0)).2.2.1)
  | k + 1 =>
    let x := m.seen.getD k (0, 0, 0, 0)
    if hasB set k = true ∧ x.1 = (h : Int) then (max (lvTo m L h set k).1 (x.2.2.1 - comesM m L h x.2.1.toNat), min (lvTo m L h set k).2 (x.2.2.2 - comesM m L h x.2.1.toNat)) else lvTo m L h set k
def leavesM (m : Mb) (L : List Int) (h set : Nat) : Int × Int := lvTo m L h set m.seen.length
def qk (L : List Int) (h set : Nat) : QK := [lg L 0, lg L 1, lg L 2, lg L 3, lg L 4, (h : Int), (set : Int)]
def leavesQ (m : Mb) (x : QK) : Int × Int := leavesM m (x.take m.legs.length) (x.getD 5 0).toNat (x.getD 6 0).toNat
theorem leavesQ_qk {m : Mb} {L : List Int} (hl : L.length = m.legs.length) (h5 : m.legs.length ≤ 5) (h set : Nat) : leavesQ m (qk L h set) = leavesM m L h set := by
  unfold leavesQ
  have e : (qk L h set).take m.legs.length = L := by
    rw [← hl]
    rw [← hl] at h5
    match L, h5 with
    | [], _ => rfl
    | [a], _ => rfl
    | [a, b], _ => rfl
    | [a, b, c], _ => rfl
    | [a, b, c, d], _ => rfl
    | [a, b, c, d, e], _ => rfl
  rw [e]
  have e1 : ((qk L h set).getD 5 0).toNat = h := by simp [qk]
  have e2 : ((qk L h set).getD 6 0).toNat = set := by simp [qk]
  rw [e1, e2]
/-- The map of what was found out. -/
def KeptAt (w : World) (mb : Nat) (m : Mb) : Prop := ∃ l, MapIs w mb l ∧ MapOk l ∧ ∀ p ∈ l, p.2 = leavesQ m p.1
theorem qk_ok {m : Mb} (hv : validM m = true) {L : List Int} (hL : L ∈ prodL m.legs) {h set : Nat} (hh : h < 1000000) (hs : set < 1000000) : QK7 (qk L h set) := by
  refine ⟨rfl, fun n hn => ?_⟩
  have hb := leg_bound hv hL
  simp only [qk, List.mem_cons, List.not_mem_nil, or_false] at hn
  have h0 := hb 0
  have h1 := hb 1
  have h2 := hb 2
  have h3 := hb 3
  have h4 := hb 4
  unfold lg at hn
  omega
theorem getM_kept {m : Mb} {l : List (QK × (Int × Int))} (ho : MapOk l) (hg : ∀ p ∈ l, p.2 = leavesQ m p.1) {x : QK} (h : hasQ l x = true) : getM l x = leavesQ m x := by
  unfold hasQ at h
  simp only [decide_eq_true_eq, List.mem_map] at h
  obtain ⟨p, hp, rfl⟩ := h
  obtain ⟨j, hj⟩ := List.getElem?_of_mem hp
  rw [getM_at ho hj]
  exact hg p hp
theorem kept_put {m : Mb} {l : List (QK × (Int × Int))} (hg : ∀ p ∈ l, p.2 = leavesQ m p.1) (x : QK) : ∀ p ∈ putM l x (leavesQ m x), p.2 = leavesQ m p.1 := by
  unfold putM
  split
  · intro p hp
    obtain ⟨q, hq, rfl⟩ := List.mem_map.1 hp
    split
    · rfl
    · exact hg q hq
  · intro p hp
    rcases List.mem_append.1 hp with hp | hp
    · exact hg p hp
    · simp only [List.mem_singleton] at hp; subst hp; rfl
theorem comesM_in {m : Mb} (hv : validM m = true) {L : List Int} (hL : L ∈ prodL m.legs) (h p : Nat) (hp : p < m.places.length) : 0 ≤ comesM m L h p ∧ comesM m L h p ≤ 100 := by
  have h1 := inK_bound hv hL (startN m h) (d := 0) (by omega) (by omega) (p - startN m h)
  have := validM_len hv
  unfold comesM
  omega
theorem lvTo_in {m : Mb} (hv : validM m = true) {L : List Int} (hL : L ∈ prodL m.legs) (h set : Nat) : ∀ k, k ≤ m.seen.length → -200 ≤ (lvTo m L h set k).1 ∧ (lvTo m L h set k).1 ≤ 200 ∧ -200 ≤ (lvTo m L h set k).2 ∧ (lvTo m L h set k).2 ≤ 200
  | 0, _ => by
    simp only [lvTo]
    by_cases hh : h < m.herds.length
    · have := validM_herd hv hh
      omega
    · rw [List.getD_eq_getElem?_getD, List.getElem?_eq_none (by omega)]; simp
  | k + 1, hk => by
    have ih := lvTo_in hv hL h set k (by omega)
    have hs := validM_seen hv (show k < m.seen.length by omega)
    have hc := comesM_in hv hL h (m.seen[k]).2.1.toNat (by omega)
    simp only [lvTo]
    rw [List.getD_eq_getElem?_getD, List.getElem?_eq_getElem (by omega), Option.getD_some]
    split
    · simp only; omega
    · exact ih
theorem agg_herd : AggTy Try.prog 116 4 := ⟨_, Try.underlying116, rfl, by kernel_rfl⟩
theorem agg_seen : AggTy Try.prog 64 4 := ⟨_, Try.underlying64, rfl, by kernel_rfl⟩
theorem agg_q : AggTy Try.prog 119 7 := ⟨_, Try.underlying119, rfl, by kernel_rfl⟩
theorem agg_legs : AggTy Try.prog 90 5 := ⟨_, Try.underlying90, rfl, by kernel_rfl⟩
theorem bit_u64 (vo v : Nat) (h : vo < 2 ^ 62) : (bits .and .u64 ((vo : Int) / 2 ^ v) 1 == 1) = hasB vo v := by
  have h1 : ((vo : Int) / 2 ^ v) = ((vo / 2 ^ v : Nat) : Int) := by simp
  have h2 : vo / 2 ^ v ≤ vo := Nat.div_le_self _ _
  have h3 : (1 : Int) = ((1 : Nat) : Int) := rfl
  rw [h1]
  conv => lhs; arg 1; rw [h3]
  rw [u64_and_nat _ _ (by omega) (by omega), nat_mask1]
  unfold hasB
  rw [Bool.eq_iff_iff, beq_iff_eq, beq_iff_eq]
  omega

theorem Turn1.lets {w w' : World} {b : Nat} (h : Turn1 w b w') : Lets (fun k _ => k = b) w w' := by
  have hb := h.below (Below.refl 0 w) (Nat.zero_le _)
  exact ⟨hb.os, hb.tape, hb.output, by rw [h.size]; exact Nat.le_refl _, fun k _ hk => h.other hk⟩
theorem MapIs.drew {w : World} {m : Nat} {l : List (QK × (Int × Int))} (h : MapIs w m l) : MapIs w.drew m l := h
/-- What leaves returns, and keeps. -/
def LeavesPost (m : Mb) (mb : Nat) (v : Int × Int) (w : World) (e : Ending) (w' : World) : Prop := e = .returned (spv v) ∧ KeptAt w' mb m ∧ Lets (fun k _ => k = mb) w w'
set_option maxHeartbeats 40000000 in
set_option maxRecDepth 100000 in
theorem m_leaves {m : Mb} {A : Ma} {pa : Option Addr} {pc wp mb : Nat} {L : List Int} (hv : validM m = true) (hL : L ∈ prodL m.legs) (i set : Nat) (hh : i < m.herds.length) (hset : set < 1000) (w : World) (hw : WayAt w wp m A pa pc mb) (hk : KeptAt w mb m) :
    Calls Try.prog 80 #[.pointer (some ⟨wp, 0, none⟩), .agg (qcells (qk L i set))] w (LeavesPost m mb (leavesM m L i set) w) := by
  obtain ⟨l, hml, hmo, hgl⟩ := hk
  have hlen := validM_len hv
  have hq7 := qk_ok (h := i) (set := set) hv hL (by omega) (by omega)
  have HLk := Lib.hid (fun W (hm : MapIs W mb l) => run_lookup_qk hm hmo hq7)
  have hlq := leavesQ_qk (m := m) (L := L) ((mem_prodL _ _).1 hL).1 (by omega) i set
  have hqc : qcells (qk L i set) = #[.int .i64 (lg L 0), .int .i64 (lg L 1), .int .i64 (lg L 2), .int .i64 (lg L 3), .int .i64 (lg L 4), .int .i64 (i : Int), .int .u64 (set : Int)] := rfl
  have HQC := Lib.hid hqc
  rw [hqc] at HLk ⊢
  clear hqc
  have hmlt := hml.lt
  obtain ⟨gb, go, e0, e1, e2, e3, e4⟩ := hw.args.herds.get4 hh
  have hgb := World.block_lt_of_cell? w _ e1
  simp only at hgb
  have hsn := hw.args.seen
  have hspt := hw.spots
  have hbk := hw.blk
  have hii : (i : Int) < (m.herds.length : Int) := by omega
  have hh4 : (m.herds.length : Int) ≤ 4 := by omega
  have hs5 : (m.seen.length : Int) ≤ 5 := by omega
  have HZ : Hid (lvTo m L i set 0 = ((m.herds[i]).2.1, (m.herds[i]).2.2.1)) := by
    show _ = _
    simp only [lvTo]
    rw [List.getD_eq_getElem?_getD, List.getElem?_eq_getElem hh]; rfl
  have HST := Lib.hid (startN_eq hv hh)
  have hhv := validM_herd hv hh
  rw [List.getD_eq_getElem?_getD, List.getElem?_eq_getElem hh, Option.getD_some] at hhv
  have HCO := Lib.hid (fun (p : Nat) (hp : startN m i ≤ p) (hpn : p < m.places.length) W hr => m_comes (pc := pc) hv hL (m.herds[i]) (startN m i) (startN_eq hv hh).1 p hp hpn pa W hr)
  have HSE := Lib.hid (fun (k : Nat) (hk : k < m.seen.length) => validM_seen hv hk)
  have HSI : Hid (∀ h : Nat, startN m h = (startI m h).toNat) := fun _ => rfl
  have HLI := Lib.hid (fun k (hk : k ≤ m.seen.length) => lvTo_in hv hL i set k hk)
  have HCI := Lib.hid (fun p (hp : p < m.places.length) => comesM_in hv hL i p hp)
  clear hw
  rcases A with ⟨qa, qc, la, lc, ha, hc, sa, sc⟩
  simp only at e0 hsn hspt hbk
  subst e0
  generalize m.herds[i] = hd at *
  obtain ⟨d1, d2, d3, d4⟩ := hd
  simp only at *
  obtain ⟨W2, hW2⟩ : ∃ W2, W2 = (w.alloc (.cells #[.int .i64 (lg L 0), .int .i64 (lg L 1), .int .i64 (lg L 2), .int .i64 (lg L 3), .int .i64 (lg L 4), .int .i64 (i : Int), .int .u64 (set : Int)] 119)).alloc (.cells #[.int .i64 0, .int .i64 0] 39) := ⟨_, rfl⟩
  have hB2 : Below w.heap.size w W2 := by rw [hW2]; (repeat (first | assumption | exact Below.refl _ _ | refine Below.drew ?_ | refine Below.alloc ?_ (by first | omega | (simp; done) | (simp; omega)) _ | refine Below.setCell ?_ (by first | omega | (simp; done) | (simp; omega)) _ | refine Below.trans ?_ (Below.mono (by assumption) (by first | omega | (simp; done) | (simp; omega)))))
  have hs2 : W2.heap.size = w.heap.size + 2 := by rw [hW2]; simp
  have bq : Blk W2 w.heap.size #[.int .i64 (lg L 0), .int .i64 (lg L 1), .int .i64 (lg L 2), .int .i64 (lg L 3), .int .i64 (lg L 4), .int .i64 (i : Int), .int .u64 (set : Int)] 119 := by rw [hW2]; exact (Blk.new _ _ _).alloc _
  have br : Blk W2 (w.heap.size + 1) #[.int .i64 0, .int .i64 0] 39 := by rw [hW2]; exact Blk.new' _ _ _ _ (by simp)
  have bw := hbk.below hB2 hbk.lt
  have hm2 := hml.below hB2 hmlt
  go_enter Try.func80, Try.ntmps80
  go_upto_region 1 with fail
  rw [← hW2]
  clear hW2
  have rw' := bw.cell
  have rq := bq.cell
  have hwl := bw.lt
  have hml2 := hm2.lt
  go_wp2_with fail
  generalize hn0 : w.heap.size = n0 at *
  have HN0 := Lib.hid hn0
  clear hn0
  cases hf : hasQ l (qk L i set)
  · rw [hf] at HLk
    refine Ord.wp_region [(0, 1), (1, 1), (2, 1), (3, 1), (4, 1), (5, 1), (6, 1), (7, 1), (8, 1), (9, 2), (10, 2), (11, 0)] (fun W' => Below (n0 + 2) W2 W') (by kernel_rfl) (by kernel_rfl) (fun c a d v w h => by cases d <;> exact h) (Below.refl _ _).drew ?_
    go_wp2_with (first
      | ((with_reducible refine Ord.at_wild ?_); refine Ord.wild_load (ad := ⟨wp, 5, none⟩) (.map (some mb)) rfl rfl ?_ ?_; (focus (intro W hW; obtain ⟨cW, _, zW⟩ := below_rules hW rfl; simp [go_sem, cW, ↓IntWalk.iteOmega, rw']; done)); intro K hK)
      | ((with_reducible refine Ord.at_wild ?_); refine Ord.wild_load (ad := ⟨n0, 0, none⟩) (.agg #[.int .i64 (lg L 0), .int .i64 (lg L 1), .int .i64 (lg L 2), .int .i64 (lg L 3), .int .i64 (lg L 4), .int .i64 (i : Int), .int .u64 (set : Int)]) rfl rfl ?_ ?_; (focus (intro W hW; exact loadVar_blk agg_q (bq.below hW (by omega)) rfl)); intro K hK)
      | ((with_reducible refine Ord.at_wild ?_); refine Ord.walk_wild_as rfl (.tuple #[spv (getM l (qk L i set)), .bool false]) ?_ ?_; (focus (intro W hW; have := HLk.out W (hm2.below hW (by omega)); simp [go_sem, Ord.yields, Ord.yieldUpon, this]; done)); intro K hK)
      | ((with_reducible refine Ord.at_wild ?_); refine Ord.walk_wild_as rfl (spv (getM l (qk L i set))) ?_ ?_; (focus (intro W hW; simp [go_sem, Ord.yields, Ord.yieldUpon, ]; done)); intro K hK)
      | ((with_reducible refine Ord.at_wild ?_); refine Ord.walk_wild_as rfl (.bool false) ?_ ?_; (focus (intro W hW; simp [go_sem, Ord.yields, Ord.yieldUpon, ]; done)); intro K hK)
      | (refine wpList_store_blk 39 (.tmp 5) (.tmp 20) agg_span rfl rfl rfl rfl (Blk.new _ _ _) rfl rfl (by simp [Value.oneCell']) ?_; intro w5 h5; have c5 := h5.cell; have f5 := h5.free; have z5 := h5.size)
      | ((with_reducible refine Ord.at_calm ?_); refine Ord.calm_skip rfl ?_ (fun K hK => ?_); (focus (simp [Region.wanted, yielded]; done))) | with_reducible refine Ord.walk_calm rfl rfl (fun K hK => ?_) | ((with_reducible refine Ord.at_wild ?_); refine Ord.wild_fieldAddr rfl rfl (fun W => by simp [go_sem]; rfl) (fun K hK => ?_)) | ((with_reducible refine Ord.at_wild ?_); refine Ord.wild_move rfl rfl (fun K hK => ?_)) | ((with_reducible refine Ord.at_wild ?_); refine Ord.wild_nilCheck rfl rfl (fun K hK => ?_)) | with_reducible refine Ord.walk_eff rfl (by first | (simp; done) | assumption | (go_simp; done) | (repeat (first | assumption | exact Below.refl _ _ | refine Below.drew ?_ | refine Below.alloc ?_ (by first | omega | (simp; done) | (simp; omega)) _ | refine Below.setCell ?_ (by first | omega | (simp; done) | (simp; omega)) _ | refine Below.trans ?_ (Below.mono (by assumption) (by first | omega | (simp; done) | (simp; omega)))))) (fun K hK => ?_) | with_reducible refine Ord.at_fork ?_ ?_ | with_reducible refine Ord.walk_nil ?_ | (with_reducible refine Ord.next_of (by first | (simp; done) | (go_simp; done) | (repeat (first | assumption | exact Below.refl _ _ | refine Below.drew ?_ | refine Below.alloc ?_ (by first | omega | (simp; done) | (simp; omega)) _ | refine Below.setCell ?_ (by first | omega | (simp; done) | (simp; omega)) _ | refine Below.trans ?_ (Below.mono (by assumption) (by first | omega | (simp; done) | (simp; omega)))))) (fun _ => ?_)))
    obtain ⟨W3, hW3⟩ : ∃ W3, (W2.alloc (.cells #[.int .i64 (getM l (qk L i set)).1, .int .i64 (getM l (qk L i set)).2] 39)).drew = W3 := ⟨_, rfl⟩
    rw [hW3]
    have hB23 : Below (n0 + 2) W2 W3 := by rw [← hW3]; exact ((Below.refl _ _).alloc (by omega) _).drew
    have hs3 : W3.heap.size = n0 + 3 := by rw [← hW3]; show (W2.alloc _).heap.size = _; simp; omega
    have hB3 := hB2.trans (hB23.mono (by omega))
    have bq3 := bq.below hB23 (by omega)
    have br3 := br.below hB23 (by omega)
    have bw3 := bw.below hB23 (by omega)
    have hm3 := hm2.below hB23 (by omega)
    have g1 := (hB3.cell (p := ⟨gb, go + i * 4, none⟩) (by simp only; omega)).trans e1
    have g2 := (hB3.cell (p := ⟨gb, go + i * 4 + 1, none⟩) (by simp only; omega)).trans e2
    have g3 := (hB3.cell (p := ⟨gb, go + i * 4 + 2, none⟩) (by simp only; omega)).trans e3
    have g4 := (hB3.cell (p := ⟨gb, go + i * 4 + 3, none⟩) (by simp only; omega)).trans e4
    clear hW3 rw' rq e1 e2 e3 e4 br bq bw HLk hf
    generalize getM l (qk L i set) = gm at *
    have rw' := bw3.cell
    have rq := bq3.cell
    refine Ord.wp_region [(0, 1), (1, 1), (2, 1), (3, 1), (4, 1), (5, 1), (6, 1), (7, 1), (8, 1), (9, 2), (10, 2)] (fun W' => Below (n0 + 3) W3 W') (by kernel_rfl) (by kernel_rfl) (fun c a d v w h => by cases d <;> exact h) (Below.refl _ _).drew ?_
    go_wp2_with (first
      | ((with_reducible refine Ord.at_wild ?_); refine Ord.wild_move (v := .pointer (some ⟨wp, 0, none⟩)) rfl rfl (fun K hK => ?_))
      | ((with_reducible refine Ord.at_wild ?_); refine Ord.wild_load (ad := ⟨wp, 2, none⟩) (.slice (some ⟨gb, go, none⟩) m.herds.length hc) rfl rfl ?_ ?_; (focus (intro W hW; obtain ⟨cW, _, zW⟩ := below_rules hW rfl; simp [go_sem, cW, ↓IntWalk.iteOmega, rw']; done)); intro K hK)
      | ((with_reducible refine Ord.at_wild ?_); refine Ord.wild_load (ad := ⟨n0, 5, none⟩) (.int .i64 (i : Int)) rfl rfl ?_ ?_; (focus (intro W hW; obtain ⟨cW, _, zW⟩ := below_rules hW rfl; simp [go_sem, cW, ↓IntWalk.iteOmega, rq]; done)); intro K hK)
      | ((with_reducible refine Ord.at_wild ?_); refine Ord.wild_idx (.pointer (some ⟨gb, go + i * 4, none⟩)) rfl ?_ ?_; (focus (intro W hW; simp [go_sem, hii]; done)); intro K hK)
      | ((with_reducible refine Ord.at_wild ?_); refine Ord.wild_load (ad := ⟨gb, go + i * 4, none⟩) (.agg #[.int .i64 d1, .int .i64 d2, .int .i64 d3, .int .i64 d4]) rfl rfl ?_ ?_; (focus (intro W hW; obtain ⟨cW, _, zW⟩ := below_rules hW rfl; simp [go_sem, cW, ↓IntWalk.iteOmega, g1, g2, g3, g4]; done)); intro K hK)
      | ((with_reducible refine Ord.at_calm ?_); refine Ord.calm_skip rfl ?_ (fun K hK => ?_); (focus (simp [Region.wanted, yielded]; done))) | with_reducible refine Ord.walk_calm rfl rfl (fun K hK => ?_) | ((with_reducible refine Ord.at_wild ?_); refine Ord.wild_fieldAddr rfl rfl (fun W => by simp [go_sem]; rfl) (fun K hK => ?_)) | ((with_reducible refine Ord.at_wild ?_); refine Ord.wild_move rfl rfl (fun K hK => ?_)) | ((with_reducible refine Ord.at_wild ?_); refine Ord.wild_nilCheck rfl rfl (fun K hK => ?_)) | with_reducible refine Ord.walk_eff rfl (by first | (simp; done) | assumption | (go_simp; done) | (repeat (first | assumption | exact Below.refl _ _ | refine Below.drew ?_ | refine Below.alloc ?_ (by first | omega | (simp; done) | (simp; omega)) _ | refine Below.setCell ?_ (by first | omega | (simp; done) | (simp; omega)) _ | refine Below.trans ?_ (Below.mono (by assumption) (by first | omega | (simp; done) | (simp; omega)))))) (fun K hK => ?_) | with_reducible refine Ord.at_fork ?_ ?_ | with_reducible refine Ord.walk_nil ?_ | (with_reducible refine Ord.next_of (by first | (simp; done) | (go_simp; done) | (repeat (first | assumption | exact Below.refl _ _ | refine Below.drew ?_ | refine Below.alloc ?_ (by first | omega | (simp; done) | (simp; omega)) _ | refine Below.setCell ?_ (by first | omega | (simp; done) | (simp; omega)) _ | refine Below.trans ?_ (Below.mono (by assumption) (by first | omega | (simp; done) | (simp; omega)))))) (fun _ => ?_)))
    obtain ⟨W4, hW4⟩ : ∃ W4, (W3.alloc (.cells #[.int .i64 d1, .int .i64 d2, .int .i64 d3, .int .i64 d4] 116)).drew = W4 := ⟨_, rfl⟩
    rw [hW4]
    have hB34 : Below (n0 + 3) W3 W4 := by rw [← hW4]; exact ((Below.refl _ _).alloc (by omega) _).drew
    have hs4 : W4.heap.size = n0 + 4 := by rw [← hW4]; show (W3.alloc _).heap.size = _; simp; omega
    have b4 : Blk W4 (n0 + 3) #[.int .i64 d1, .int .i64 d2, .int .i64 d3, .int .i64 d4] 116 := by rw [← hW4]; exact (Blk.new' _ _ _ _ hs3).drew
    have hB4 := hB3.trans (hB34.mono (by omega))
    have bq4 := bq3.below hB34 (by omega)
    have br4 := br3.below hB34 (by omega)
    have bw4 := bw3.below hB34 (by omega)
    have hm4 := hm3.below hB34 (by omega)
    have r4 := b4.cell
    clear hW4 g1 g2 g3 g4 rw' rq bq3 br3 bw3
    have rw' := bw4.cell
    have hwl4 := bw4.lt
    refine Ord.wp_region [(0, 1), (1, 1), (2, 1), (3, 1), (4, 2), (5, 2), (6, 0)] (fun W' => Below (n0 + 4) W4 W') (by kernel_rfl) (by kernel_rfl) (fun c a d v w h => by cases d <;> exact h) (Below.refl _ _).drew ?_
    go_wp2_with (first
      | ((with_reducible refine Ord.at_wild ?_); refine Ord.wild_load (ad := ⟨n0 + 3, 1, none⟩) (.agg #[.int .i64 d2, .int .i64 d3]) rfl rfl ?_ ?_; (focus (intro W hW; obtain ⟨cW, _, zW⟩ := below_rules hW rfl; simp [go_sem, cW, ↓IntWalk.iteOmega, r4]; done)); intro K hK)
      | ((with_reducible refine Ord.at_wild ?_); refine Ord.wild_load (ad := ⟨n0 + 3, 0, none⟩) (.agg #[.int .i64 d1, .int .i64 d2, .int .i64 d3, .int .i64 d4]) rfl rfl ?_ ?_; (focus (intro W hW; obtain ⟨cW, _, zW⟩ := below_rules hW rfl; simp [go_sem, cW, ↓IntWalk.iteOmega, r4]; done)); intro K hK)
      | ((with_reducible refine Ord.at_wild ?_); refine Ord.walk_wild_as rfl (.func (.func 104) #[.agg #[.int .i64 d1, .int .i64 d2, .int .i64 d3, .int .i64 d4]] #[]) ?_ ?_; (focus (intro W hW; simp [go_sem, Ord.yields, Ord.yieldUpon, ]; done)); intro K hK)
      | ((with_reducible refine Ord.at_calm ?_); refine Ord.calm_skip rfl ?_ (fun K hK => ?_); (focus (simp [Region.wanted, yielded]; done))) | with_reducible refine Ord.walk_calm rfl rfl (fun K hK => ?_) | ((with_reducible refine Ord.at_wild ?_); refine Ord.wild_fieldAddr rfl rfl (fun W => by simp [go_sem]; rfl) (fun K hK => ?_)) | ((with_reducible refine Ord.at_wild ?_); refine Ord.wild_move rfl rfl (fun K hK => ?_)) | ((with_reducible refine Ord.at_wild ?_); refine Ord.wild_nilCheck rfl rfl (fun K hK => ?_)) | with_reducible refine Ord.walk_eff rfl (by first | (simp; done) | assumption | (go_simp; done) | (repeat (first | assumption | exact Below.refl _ _ | refine Below.drew ?_ | refine Below.alloc ?_ (by first | omega | (simp; done) | (simp; omega)) _ | refine Below.setCell ?_ (by first | omega | (simp; done) | (simp; omega)) _ | refine Below.trans ?_ (Below.mono (by assumption) (by first | omega | (simp; done) | (simp; omega)))))) (fun K hK => ?_) | with_reducible refine Ord.at_fork ?_ ?_ | with_reducible refine Ord.walk_nil ?_ | (with_reducible refine Ord.next_of (by first | (simp; done) | (go_simp; done) | (repeat (first | assumption | exact Below.refl _ _ | refine Below.drew ?_ | refine Below.alloc ?_ (by first | omega | (simp; done) | (simp; omega)) _ | refine Below.setCell ?_ (by first | omega | (simp; done) | (simp; omega)) _ | refine Below.trans ?_ (Below.mono (by assumption) (by first | omega | (simp; done) | (simp; omega)))))) (fun _ => ?_)))
    obtain ⟨W5, hW5⟩ : ∃ W5, (W4.alloc (.cells #[.int .i64 d2, .int .i64 d3] 39)).drew = W5 := ⟨_, rfl⟩
    rw [hW5]
    have hB45 : Below (n0 + 4) W4 W5 := by rw [← hW5]; exact ((Below.refl _ _).alloc (by omega) _).drew
    have hs5' : W5.heap.size = n0 + 5 := by rw [← hW5]; show (W4.alloc _).heap.size = _; simp; omega
    have b5 : Blk W5 (n0 + 4) #[.int .i64 (lvTo m L i set 0).1, .int .i64 (lvTo m L i set 0).2] 39 := by rw [← hW5, HZ.out]; exact (Blk.new' _ _ _ _ hs4).drew
    have hB5 := hB4.trans (hB45.mono (by omega))
    have bq5 := bq4.below hB45 (by omega)
    have br5 := br4.below hB45 (by omega)
    have bw5 := bw4.below hB45 (by omega)
    have b45 := b4.below hB45 (by omega)
    have hm5 := hm4.below hB45 (by omega)
    clear hW5 r4 rw' b4 bq4 br4 bw4
    go_loopw [43] (fun x wr => ∃ k : Nat, k ≤ m.seen.length ∧ x = .int .i64 k ∧ Below (n0 + 4) W5 wr ∧ Blk wr (n0 + 4) #[.int .i64 (lvTo m L i set k).1, .int .i64 (lvTo m L i set k).2] 39) (fun x _ => m.seen.length - (intOf x).toNat)
    case atStart => exact ⟨0, Nat.zero_le _, rfl, Below.refl _ _, b5⟩
    case round =>
      clear b5
      obtain ⟨k, hk, rfl, hBr, b5⟩ := hrel
      have bqr := bq5.below hBr (by omega)
      have rq := bqr.cell
      have r5 := b5.cell
      have f5 := b5.free
      have hsr := hBr.size
      have hBw := hB5.trans (hBr.mono (by omega))
      by_cases hlt : k < m.seen.length
      · obtain ⟨sb, so, rfl, x1, x2, x3, x4⟩ := hsn.get4 hlt
        have hsb : sb < n0 := by have h := World.block_lt_of_cell? w _ x1; rw [HN0.out] at h; exact h
        have y1 := (hBw.cell (p := ⟨sb, so + k * 4, none⟩) hsb).trans x1
        have y2 := (hBw.cell (p := ⟨sb, so + k * 4 + 1, none⟩) hsb).trans x2
        have y3 := (hBw.cell (p := ⟨sb, so + k * 4 + 2, none⟩) hsb).trans x3
        have y4 := (hBw.cell (p := ⟨sb, so + k * 4 + 3, none⟩) hsb).trans x4
        have hlti : (k : Int) < m.seen.length := by omega
        clear x1 x2 x3 x4
        have hsk := HSE.out k hlt
        have hst := HST.out.1
        have hl1 : lvTo m L i set (k + 1) = if hasB set k = true ∧ (m.seen[k]).1 = (i : Int) then (max (lvTo m L i set k).1 ((m.seen[k]).2.2.1 - comesM m L i (m.seen[k]).2.1.toNat), min (lvTo m L i set k).2 ((m.seen[k]).2.2.2 - comesM m L i (m.seen[k]).2.1.toNat)) else lvTo m L i set k := by
          rw [lvTo]; simp only [List.getD_eq_getElem?_getD, List.getElem?_eq_getElem hlt, Option.getD_some]
        have HL1 := Lib.hid hl1
        clear hl1
        have hlb := HLI.out k (by omega)
        generalize lvTo m L i set k = cur at *
        generalize m.seen[k] = x at *
        obtain ⟨x1, x2, x3, x4⟩ := x
        obtain ⟨c1, c2⟩ := cur
        simp only at *
        have hbt := bit_u64 set k (by omega)
        by_cases hc : hasB set k = true ∧ x1 = (i : Int)
        · obtain ⟨hb, rfl⟩ := hc
          have HR : Hid (lvTo m L i set (k + 1) = (max c1 (x3 - comesM m L i x2.toNat), min c2 (x4 - comesM m L i x2.toNat))) := by show _ = _; rw [HL1.out, if_pos ⟨hb, rfl⟩]
          clear HL1
          obtain ⟨p, rfl⟩ : ∃ p : Nat, x2 = (p : Int) := ⟨x2.toNat, by omega⟩
          rw [hb] at hbt
          have hsi := HSI.out i
          have hpn : p < m.places.length := by omega
          have hcb := HCI.out p hpn
          have HC := Lib.hid (fun W hr => HCO.out p (by omega) hpn W hr)
          simp only [Int.toNat_natCast] at HR
          change Hid (∀ W (hr : RowsAt W pa 1 (fun p => [spotV p]) m.places), Calls Try.prog 104 #[.agg (hdC (d1, d2, d3, d4)), .slice pa m.places.length pc, .agg (legC L), .int .i64 p] W (Gives (.int .i64 (comesM m L i p)) W)) at HC
          generalize comesM m L i p = cm at *
          have HSP : Hid (∀ W, Below n0 w W → RowsAt W pa 1 (fun p => [spotV p]) m.places) := fun W hW => hspt.below (by rw [HN0.out]; exact hW)
          have hwl5 := bw5.lt
          have bwr := bw5.below hBr (by omega)
          have hx34 : 0 ≤ x3 ∧ x3 ≤ x4 ∧ x4 ≤ 100 := by omega
          have hwn : IntKind.i64.wrap (-cm) = -cm := wrapI (by omega)
          clear HCO HSE HST hst hsk hspt hsn
          go_wp2_with fail
          obtain ⟨W6, hW6⟩ : ∃ W6, wr.alloc (.cells #[.int .i64 (i : Int), .int .i64 (p : Int), .int .i64 x3, .int .i64 x4] 64) = W6 := ⟨_, rfl⟩
          rw [hW6]
          have hB6 : Below wr.heap.size wr W6 := by rw [← hW6]; exact (Below.refl _ _).alloc (Nat.le_refl _) _
          have hs6 : W6.heap.size = wr.heap.size + 1 := by rw [← hW6]; simp
          have b11 : Blk W6 wr.heap.size #[.int .i64 (i : Int), .int .i64 (p : Int), .int .i64 x3, .int .i64 x4] 64 := by rw [← hW6]; exact Blk.new _ _ _
          have bq6 := bqr.below hB6 bqr.lt
          have bw6 := bwr.below hB6 bwr.lt
          have b56 := b5.below hB6 b5.lt
          have hBw6 := hBw.trans (hB6.mono (by omega))
          clear hW6 y1 y2 y3 y4 rq r5 f5
          have rq := bq6.cell
          have r11 := b11.cell
          have rw' := bw6.cell
          have r5 := b56.cell
          have f5 := b56.free
          have HBA : Hid (∀ W, Below (wr.heap.size + 1) W6 W → Below n0 w W) := fun W hW => hBw6.trans (hW.mono (by omega))
          have hll := b56.lt
          have HQ : Hid (∀ (v1 v2 : Int) (W : World), Below (wr.heap.size + 1) W6 W → v1 = max c1 (x3 - cm) → v2 = min c2 (x4 - cm) → Blk ((W.setCell ⟨n0 + 4, 0, none⟩ (.int .i64 v1)).setCell ⟨n0 + 4, 1, none⟩ (.int .i64 v2)) (n0 + 4) #[.int .i64 (max c1 (x3 - cm)), .int .i64 (min c2 (x4 - cm))] 39) := by
            rintro v1 v2 W hW rfl rfl
            exact ((b56.below hW (by omega)).set 0 _).set 1 _
          have hBr6 : Below (n0 + 4) W5 W6 := hBr.trans (hB6.mono (by omega))
          refine Ord.wp_regionT 4 (.fork2 [(0, 1), (1, 1), (2, 1), (3, 1), (4, 1), (5, 1), (6, 1), (7, 1), (8, 1), (9, 1), (10, 1)] 11 (.fork2 [(12, 1)] 13 (.leaf [(14, 2), (15, 2)]) 14 (.leaf [(13, 2), (15, 2)])) 14 (.leaf [(11, 2), (12, 0), (13, 2), (15, 2)])) (fun W' => Below (wr.heap.size + 1) W6 W') (by kernel_rfl) (by kernel_rfl) (fun c a d v w h => by cases d <;> exact h) (Below.refl _ _).drew ?_
          go_wp2_with (first
            | (go_at_call 104; refine (HC.out _ (HSP.out _ (HBA.out _ (by (repeat (first | assumption | exact Below.refl _ _ | refine Below.drew ?_ | refine Below.alloc ?_ (by first | omega | (simp; done) | (simp; omega)) _ | refine Below.setCell ?_ (by first | omega | (simp; done) | (simp; omega)) _ | refine Below.trans ?_ (Below.mono (by assumption) (by first | omega | (simp; done) | (simp; omega))))))))).mono ?_; rintro e w7 ⟨rfl, hb7⟩; obtain ⟨c7, f7, z7⟩ := after hb7 rfl; (try simp only [World.size_drew, World.size_alloc, hs6] at z7))
            | (go_at_call 103; refine (m_moved x3 x4 (-cm) (by omega) (by omega) (by omega) _).mono ?_; rintro e w8 ⟨rfl, hb8⟩; obtain ⟨c8, f8, z8⟩ := after hb8 rfl; (try simp only [World.size_drew, World.size_alloc, hs6] at z8))
            | ((with_reducible refine Ord.at_wild ?_); refine Ord.wild_move (v := .func (.func 104) #[.agg #[.int .i64 d1, .int .i64 d2, .int .i64 d3, .int .i64 d4]] #[]) rfl rfl (fun K hK => ?_))
            | ((with_reducible refine Ord.at_wild ?_); refine Ord.walk_wild_as rfl (.int .i64 (-cm)) ?_ ?_; (focus (intro W hW; simp [go_sem, Ord.yields, Ord.yieldUpon, hwn]; done)); intro K hK)
            | ((with_reducible refine Ord.at_wild ?_); refine Ord.wild_load (ad := ⟨wr.heap.size, 2, none⟩) (.agg #[.int .i64 x3, .int .i64 x4]) rfl rfl ?_ ?_; (focus (intro W hW; obtain ⟨cW, _, zW⟩ := below_rules hW rfl; simp [go_sem, cW, ↓IntWalk.iteOmega, r11]; done)); intro K hK)
            | ((with_reducible refine Ord.at_wild ?_); refine Ord.wild_load (ad := ⟨wr.heap.size, 1, none⟩) (.int .i64 (p : Int)) rfl rfl ?_ ?_; (focus (intro W hW; obtain ⟨cW, _, zW⟩ := below_rules hW rfl; simp [go_sem, cW, ↓IntWalk.iteOmega, r11]; done)); intro K hK)
            | ((with_reducible refine Ord.at_wild ?_); refine Ord.wild_load (ad := ⟨wp, 4, none⟩) (.slice pa m.places.length pc) rfl rfl ?_ ?_; (focus (intro W hW; obtain ⟨cW, _, zW⟩ := below_rules hW rfl; simp [go_sem, cW, ↓IntWalk.iteOmega, rw']; done)); intro K hK)
            | ((with_reducible refine Ord.at_wild ?_); refine Ord.wild_load (ad := ⟨n0, 0, none⟩) (.agg #[.int .i64 (lg L 0), .int .i64 (lg L 1), .int .i64 (lg L 2), .int .i64 (lg L 3), .int .i64 (lg L 4)]) rfl rfl ?_ ?_; (focus (intro W hW; obtain ⟨cW, _, zW⟩ := below_rules hW rfl; simp [go_sem, cW, ↓IntWalk.iteOmega, rq]; done)); intro K hK)
            | with_reducible refine Ord.top_two ?_ | with_reducible refine Ord.top_three ?_ | with_reducible refine Ord.at_two ?_ ?_ | with_reducible refine Ord.at_three ?_ ?_ ?_ | with_reducible refine Ord.tree_leaf ?_ | with_reducible refine Ord.tree_two ?_ | ((with_reducible refine Ord.at_calm ?_); refine Ord.calm_skip rfl ?_ (fun K hK => ?_); (focus (simp [Region.wanted, yielded]; done))) | with_reducible refine Ord.walk_calm rfl rfl (fun K hK => ?_) | ((with_reducible refine Ord.at_wild ?_); refine Ord.wild_fieldAddr rfl rfl (fun W => by simp [go_sem]; rfl) (fun K hK => ?_)) | ((with_reducible refine Ord.at_wild ?_); refine Ord.wild_move rfl rfl (fun K hK => ?_)) | ((with_reducible refine Ord.at_wild ?_); refine Ord.wild_nilCheck rfl rfl (fun K hK => ?_)) | with_reducible refine Ord.walk_eff rfl (by first | (simp; done) | assumption | (go_simp; done) | (repeat (first | assumption | exact Below.refl _ _ | refine Below.drew ?_ | refine Below.alloc ?_ (by first | omega | (simp; done) | (simp; omega)) _ | refine Below.setCell ?_ (by first | omega | (simp; done) | (simp; omega)) _ | refine Below.trans ?_ (Below.mono (by assumption) (by first | omega | (simp; done) | (simp; omega)))))) (fun K hK => ?_) | with_reducible refine Ord.at_fork ?_ ?_ | with_reducible refine Ord.walk_nil ?_ | (with_reducible refine Ord.next_of (by first | (simp; done) | (go_simp; done) | (repeat (first | assumption | exact Below.refl _ _ | refine Below.drew ?_ | refine Below.alloc ?_ (by first | omega | (simp; done) | (simp; omega)) _ | refine Below.setCell ?_ (by first | omega | (simp; done) | (simp; omega)) _ | refine Below.trans ?_ (Below.mono (by assumption) (by first | omega | (simp; done) | (simp; omega)))))) (fun _ => ?_)))
          all_goals
            refine ⟨⟨k + 1, by omega, by go_num, by (repeat (first | assumption | exact Below.refl _ _ | refine Below.drew ?_ | refine Below.alloc ?_ (by first | omega | (simp; done) | (simp; omega)) _ | refine Below.setCell ?_ (by first | omega | (simp; done) | (simp; omega)) _ | refine Below.trans ?_ (Below.mono (by assumption) (by first | omega | (simp; done) | (simp; omega))))), ?_⟩, by simp [intOf]; omega⟩
            rw [HR.out]
            exact HQ.out _ _ _ (by (repeat (first | assumption | exact Below.refl _ _ | refine Below.drew ?_ | refine Below.alloc ?_ (by first | omega | (simp; done) | (simp; omega)) _ | refine Below.setCell ?_ (by first | omega | (simp; done) | (simp; omega)) _ | refine Below.trans ?_ (Below.mono (by assumption) (by first | omega | (simp; done) | (simp; omega)))))) (by omega) (by omega)
        · have HR : Hid (lvTo m L i set (k + 1) = (c1, c2)) := by show _ = _; rw [HL1.out, if_neg hc]
          clear HL1
          cases hb : hasB set k
          · rw [hb] at hbt
            go_wp2_with fail
            exact ⟨⟨k + 1, by omega, by go_num, hBr.alloc (by omega) _, by rw [HR.out]; exact b5.alloc _⟩, by simp [intOf]; omega⟩
          · rw [hb] at hbt
            have hxe : (x1 == (i : Int)) = false := by
              rw [beq_eq_false_iff_ne]; exact fun e => hc ⟨hb, e⟩
            go_wp2_with fail
            exact ⟨⟨k + 1, by omega, by go_num, hBr.alloc (by omega) _, by rw [HR.out]; exact b5.alloc _⟩, by simp [intOf]; omega⟩
      · have hlti : ¬ (k : Int) < m.seen.length := by omega
        have e : k = m.seen.length := by omega
        subst e
        have bwr := bw5.below hBr (by omega)
        have brr := br5.below hBr (by omega)
        have hmr := hm5.below hBr (by omega)
        have rw' := bwr.cell
        have hlv : leavesM m L i set = lvTo m L i set m.seen.length := rfl
        rw [hlv] at hlq
        generalize lvTo m L i set m.seen.length = lv at *
        obtain ⟨v1, v2⟩ := lv
        simp only at *
        have HLV := Lib.hid hlv
        clear hlv
        clear HCO HSE HST HLI HCI hsn hspt HSI
        have bqd := bqr.drew
        have b5d := b5.drew
        go_wp2_with fail
        refine Ord.wp_region [(0, 0), (1, 0), (2, 0), (3, 0), (4, 0), (5, 0), (6, 2)] (fun W' => True) (by kernel_rfl) (by kernel_rfl) (fun c a d v w h => by cases d <;> exact h) trivial ?_
        go_wp2_with (first
          | (refine wpList_load_blk 119 (.tmp 3) agg_q rfl rfl rfl bqd rfl ?_)
          | (refine wpList_load_blk 39 (.tmp 8) agg_span rfl rfl rfl b5d rfl ?_)
          | (refine wpList_mapUpdate_qk (.tmp 90) (.tmp 91) (.tmp 92) rfl (.inl rfl) rfl (k := qk L i set) rfl (v := (v1, v2)) rfl hmr.drew hmo hq7 ?_; intro w7 ht7 hm7; have b57 := ht7.blk b5d (by omega); have br7 := ht7.blk brr.drew (by omega))
          | (refine wpList_load_blk 39 (.tmp 8) agg_span rfl rfl rfl b57 rfl ?_)
          | (refine wpList_store_blk 39 (.tmp 4) (.tmp 93) agg_span rfl rfl rfl rfl (br7) rfl rfl (by simp [Value.oneCell']) ?_; intro w8 h8; have c8 := h8.cell; have f8 := h8.free; have z8 := h8.size)
          | ((with_reducible refine Ord.at_calm ?_); refine Ord.calm_skip rfl ?_ (fun K hK => ?_); (focus (simp [Region.wanted, yielded]; done))) | with_reducible refine Ord.walk_calm rfl rfl (fun K hK => ?_) | ((with_reducible refine Ord.at_wild ?_); refine Ord.wild_fieldAddr rfl rfl (fun W => by simp [go_sem]; rfl) (fun K hK => ?_)) | ((with_reducible refine Ord.at_wild ?_); refine Ord.wild_move rfl rfl (fun K hK => ?_)) | ((with_reducible refine Ord.at_wild ?_); refine Ord.wild_nilCheck rfl rfl (fun K hK => ?_)) | with_reducible refine Ord.walk_eff rfl (by first | (simp; done) | assumption | (go_simp; done) | (repeat (first | assumption | exact Below.refl _ _ | refine Below.drew ?_ | refine Below.alloc ?_ (by first | omega | (simp; done) | (simp; omega)) _ | refine Below.setCell ?_ (by first | omega | (simp; done) | (simp; omega)) _ | refine Below.trans ?_ (Below.mono (by assumption) (by first | omega | (simp; done) | (simp; omega)))))) (fun K hK => ?_) | with_reducible refine Ord.at_fork ?_ ?_ | with_reducible refine Ord.walk_nil ?_ | (with_reducible refine Ord.next_of (by first | (simp; done) | (go_simp; done) | (repeat (first | assumption | exact Below.refl _ _ | refine Below.drew ?_ | refine Below.alloc ?_ (by first | omega | (simp; done) | (simp; omega)) _ | refine Below.setCell ?_ (by first | omega | (simp; done) | (simp; omega)) _ | refine Below.trans ?_ (Below.mono (by assumption) (by first | omega | (simp; done) | (simp; omega)))))) (fun _ => ?_)))
        (try simp only [Exit.inBlock, Exit.then])
        refine bodyPost_ret (v := spv (v1, v2)) (results_cell_blk rfl _ agg_span rfl h8.blk rfl) rfl ⟨by rw [HLV.out], ⟨_, (h8.heap mb (by omega)).trans hm7, hmo.put hq7 _, ?_⟩, ?_⟩
        · have := kept_put hgl (qk L i set)
          rw [hlq] at this
          exact this
        · have hl1 : Lets (fun k _ => k = mb) w wr.drew := (Lets.of_below (by rw [HN0.out]; exact hBw)).drew
          have hl2 : Lets (fun k _ => k = mb) w w7 := hl1.trans ht7.lets
          exact hl2.next (Y := fun k _ => k = n0 + 1) ((Lets.refl _ _).rowed h8 rfl) (fun i hi _ => by have := HN0.out; omega)
  · rw [hf] at HLk
    have hgm := getM_kept hmo hgl hf
    rw [hlq] at hgm
    rw [hgm] at HLk
    refine Ord.wp_region [(0, 1), (1, 1), (2, 1), (3, 1), (4, 1), (5, 1), (6, 1), (7, 1), (8, 1), (9, 2), (10, 2), (11, 0)] (fun W' => Below (n0 + 2) W2 W') (by kernel_rfl) (by kernel_rfl) (fun c a d v w h => by cases d <;> exact h) (Below.refl _ _).drew ?_
    go_wp2_with (first
      | ((with_reducible refine Ord.at_wild ?_); refine Ord.wild_load (ad := ⟨wp, 5, none⟩) (.map (some mb)) rfl rfl ?_ ?_; (focus (intro W hW; obtain ⟨cW, _, zW⟩ := below_rules hW rfl; simp [go_sem, cW, ↓IntWalk.iteOmega, rw']; done)); intro K hK)
      | ((with_reducible refine Ord.at_wild ?_); refine Ord.wild_load (ad := ⟨n0, 0, none⟩) (.agg #[.int .i64 (lg L 0), .int .i64 (lg L 1), .int .i64 (lg L 2), .int .i64 (lg L 3), .int .i64 (lg L 4), .int .i64 (i : Int), .int .u64 (set : Int)]) rfl rfl ?_ ?_; (focus (intro W hW; exact loadVar_blk agg_q (bq.below hW (by omega)) rfl)); intro K hK)
      | ((with_reducible refine Ord.at_wild ?_); refine Ord.walk_wild_as rfl (.tuple #[spv (leavesM m L i set), .bool true]) ?_ ?_; (focus (intro W hW; have := HLk.out W (hm2.below hW (by omega)); simp [go_sem, Ord.yields, Ord.yieldUpon, this]; done)); intro K hK)
      | ((with_reducible refine Ord.at_wild ?_); refine Ord.walk_wild_as rfl (spv (leavesM m L i set)) ?_ ?_; (focus (intro W hW; simp [go_sem, Ord.yields, Ord.yieldUpon, ]; done)); intro K hK)
      | ((with_reducible refine Ord.at_wild ?_); refine Ord.walk_wild_as rfl (.bool true) ?_ ?_; (focus (intro W hW; simp [go_sem, Ord.yields, Ord.yieldUpon, ]; done)); intro K hK)
      | (refine wpList_store_blk 39 (.tmp 5) (.tmp 20) agg_span rfl rfl rfl rfl (Blk.new _ _ _) rfl rfl (by simp [Value.oneCell']) ?_; intro w5 h5; have c5 := h5.cell; have f5 := h5.free; have z5 := h5.size)
      | (refine wpList_store_blk 39 (.tmp 4) (.tmp 23) agg_span rfl rfl rfl rfl ((br.alloc _).drew) rfl rfl (by simp [Value.oneCell']) ?_; intro w6 h6; have c6 := h6.cell; have f6 := h6.free; have z6 := h6.size)
      | ((with_reducible refine Ord.at_calm ?_); refine Ord.calm_skip rfl ?_ (fun K hK => ?_); (focus (simp [Region.wanted, yielded]; done))) | with_reducible refine Ord.walk_calm rfl rfl (fun K hK => ?_) | ((with_reducible refine Ord.at_wild ?_); refine Ord.wild_fieldAddr rfl rfl (fun W => by simp [go_sem]; rfl) (fun K hK => ?_)) | ((with_reducible refine Ord.at_wild ?_); refine Ord.wild_move rfl rfl (fun K hK => ?_)) | ((with_reducible refine Ord.at_wild ?_); refine Ord.wild_nilCheck rfl rfl (fun K hK => ?_)) | with_reducible refine Ord.walk_eff rfl (by first | (simp; done) | assumption | (go_simp; done) | (repeat (first | assumption | exact Below.refl _ _ | refine Below.drew ?_ | refine Below.alloc ?_ (by first | omega | (simp; done) | (simp; omega)) _ | refine Below.setCell ?_ (by first | omega | (simp; done) | (simp; omega)) _ | refine Below.trans ?_ (Below.mono (by assumption) (by first | omega | (simp; done) | (simp; omega)))))) (fun K hK => ?_) | with_reducible refine Ord.at_fork ?_ ?_ | with_reducible refine Ord.walk_nil ?_ | (with_reducible refine Ord.next_of (by first | (simp; done) | (go_simp; done) | (repeat (first | assumption | exact Below.refl _ _ | refine Below.drew ?_ | refine Below.alloc ?_ (by first | omega | (simp; done) | (simp; omega)) _ | refine Below.setCell ?_ (by first | omega | (simp; done) | (simp; omega)) _ | refine Below.trans ?_ (Below.mono (by assumption) (by first | omega | (simp; done) | (simp; omega)))))) (fun _ => ?_)))
    (try simp only [Exit.inBlock, Exit.then])
    have hB6 : Below n0 w w6 := by rw [HN0.out] at *; exact h6.below (hB2.trans (((Below.refl _ _).alloc (by omega) _).drew)) (by omega)
    refine bodyPost_ret (v := spv (leavesM m L i set)) (results_cell_blk rfl _ agg_span rfl h6.blk rfl) rfl ⟨rfl, ⟨l, hml.below hB6 hmlt, hmo, hgl⟩, Lets.of_below (by rw [HN0.out]; exact hB6)⟩
end Go.Proofs.Yteeinehpneppnaa
