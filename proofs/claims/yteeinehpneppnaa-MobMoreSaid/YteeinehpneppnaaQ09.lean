/- Parts of a proof: MoD. -/
import Derived.Test.YteeinehpneppnaaQ08
set_option linter.unusedVariables false
set_option linter.unusedSimpArgs false
namespace Go.Proofs.Yteeinehpneppnaa
open Go.RowKit Go.Proofs
attribute [local irreducible] Ord.walk
attribute [local go_sem] Oper.semAt_some
set_option maxHeartbeats 40000000 in
set_option maxRecDepth 100000 in
theorem m_comes {m : Mb} {L : List Int} (hv : validM m = true) (hL : L ∈ prodL m.legs) (h : Int × Int × Int × Int) (s : Nat) (hs : h.1 = (s : Int)) (p : Nat) (hsp : s ≤ p) (hpn : p < m.places.length) (pa : Option Addr) (pc : Nat) (w : World) (hr : RowsAt w pa 1 (fun p => [spotV p]) m.places) :
    Calls Try.prog 104 #[.agg (hdC h), .slice pa m.places.length pc, .agg (legC L), .int .i64 p] w (Gives (.int .i64 (inK m L s 0 (p - s))) w) := by
  rcases h with ⟨h1, h2, h3, h4⟩
  simp only at hs
  subst hs
  have HD := Lib.hid (fun W => m_days ((s : Int), h2, h3, h4) pa m.places.length pc L 0 W)
  refine callsIn_wide.1 (callsIn_of_wp_marks (F := Fence.wide) (n := 0) Try.func104 rfl trivial (wpIn_wide.2 ?_) rfl)
  simp only [Try.ntmps104, List.size_toArray, List.length_cons, List.length_nil, Nat.reduceAdd, Nat.reduceSub, Array.replicate_succ, Array.replicate_zero, List.push_toArray, List.append_toArray, List.nil_append, List.cons_append]
  go_wp2_with (first
    | (go_at_call 81; refine (HD.out _).mono ?_; rintro e w2 ⟨rfl, hD2, hb2, hs2⟩; refine at_stop ?_))
  unfold Stop
  have hn2 : w2.heap.size = w.heap.size + 8 := by rw [hs2]; simp
  have hB : Below w.heap.size w w2 := (by (repeat (first | assumption | exact Below.refl _ _ | refine Below.drew ?_ | refine Below.alloc ?_ (by first | omega | (simp; done) | (simp; omega)) _ | refine Below.setCell ?_ (by first | omega | (simp; done) | (simp; omega)) _ | refine Below.trans ?_ (Below.mono (by assumption) (by first | omega | (simp; done) | (simp; omega))))) : Below w.heap.size w _).trans (hb2.mono (by simp; omega))
  have bp : Blk w2 (w.heap.size + 2) #[.int .i64 (p : Int)] 3 := ((Blk.new' _ _ _ _ (by simp)).alloc _).below hb2 (by simp)
  have br : Blk w2 (w.heap.size + 3) #[.int .i64 0] 3 := (Blk.new' _ _ _ _ (by simp)).below hb2 (by simp)
  have hD3 : DaysAt w2 (w.heap.size + 4) ((s : Int), h2, h3, h4) pa m.places.length pc L 0 := by simpa using hD2
  have hpa : ∀ g go, pa = some ⟨g, go, none⟩ → g < w.heap.size := fun g go e => by
    obtain ⟨gb, go', h0, h1⟩ := hr 0 (by omega)
    rw [e] at h0
    simp only [Option.some.injEq, Addr.mk.injEq] at h0
    obtain ⟨rfl, -, -⟩ := h0
    exact World.block_lt_of_cell? w _ (h1 0 _ rfl)
  have hrd := hr.below hB
  clear hD2 hb2 hs2
  generalize hn0 : w.heap.size = n0 at *
  have HN0 := Lib.hid hn0
  have hle : n0 ≤ w.heap.size := by omega
  clear hn0
  go_wp2_with fail
  refine (wpIn_wide (n := 0)).1 (wp_range (encs := dayV) (xs := daysL m L s 0) (XI := fun k _ => k = n0 + 4 + 3) (XB := fun k _ => k = n0 + 3) (Mid := fun _ => True)
    (fun k W => k ≤ p - s ∧ Below n0 w W ∧ Blk W (n0 + 2) #[.int .i64 (p : Int)] 3 ∧ Blk W (n0 + 3) #[.int .i64 0] 3)
    (fun c W => c = .ret ∧ Below n0 w W ∧ Blk W (n0 + 3) #[.int .i64 (inK m L s 0 (p - s))] 3)
    rfl Try.call105 (fun _ => rfl)
    (fun W1 hb1 hs1 => days_seq hv hL _ s rfl (by omega) pa pc (n0 + 4) 0 (by omega) (by omega) _ W1 ⟨hD3.b0.below hb1 hD3.b0.lt, hD3.b1.below hb1 hD3.b1.lt, hD3.b2.below hb1 hD3.b2.lt, hD3.b3.below hb1 hD3.b3.lt⟩ (hrd.below hb1) (fun g go e => by have := hpa g go e; omega) _ (fun k o h => ⟨by omega, fun g go e => by have := hpa g go e; omega⟩))
    (fun j o h1 h2 => by omega) (fun j o h1 h2 => by omega)
    (fun k A B h hl => ⟨h.1, below_lets h.2.1 hl hle (fun _ _ _ => by omega), blk_lets h.2.2.1 hl (fun _ => by omega), blk_lets h.2.2.2 hl (fun _ => by omega)⟩)
    (fun c A B h hl => ⟨h.1, below_lets h.2.1 hl hle (fun _ _ _ => by omega), blk_lets h.2.2 hl (fun _ => by omega)⟩)
    (fun k A B h hl => ⟨h.1, below_lets h.2.1 hl hle (fun _ _ _ => by omega), blk_lets h.2.2.1 hl (fun _ => by omega), blk_lets h.2.2.2 hl (fun _ => by omega)⟩)
    (fun c A B h hl => ⟨h.1, below_lets h.2.1 hl hle (fun _ _ _ => by omega), blk_lets h.2.2 hl (fun _ => by omega)⟩)
    (fun _ _ _ _ => trivial) ⟨by omega, hB, bp, br⟩ ?round ?done ?stop)
  case round =>
    intro k hk W hI _ hsz hrec
    unfold RoundOk
    rw [daysL_get]
    unfold dayV
    gi_wp2_with fail
    refine ⟨Lets.refl _ _, fun W₂ hl2 hs2 hI2 _ => ?_⟩
    obtain ⟨hk2, hB2, bp2, br2⟩ := hI2
    have rp := bp2.cell
    have fr := br2.free
    have rr := br2.cell
    have ltr := br2.lt
    clear hI hl2 hs2 hD3 bp br hrd hr hpa
    by_cases hkp : k = p - s
    · have e1 : (((s : Int) + (k : Int)) == (p : Int)) = true := by simp; omega
      gi_wp2_with fail
      refine ⟨(Lets.refl _ _).setCell rfl _, trivial, rfl, hB2.setCell (by simp; omega) _, ?_⟩
      rw [← hkp]
      exact br2.set 0 _
    · have e1 : (((s : Int) + (k : Int)) == (p : Int)) = false := by simp; omega
      gi_wp2_with fail
      exact ⟨Lets.refl _ _, trivial, by omega, hB2, bp2, br2⟩
  case done =>
    intro W hI
    rw [daysL_len] at hI
    omega
  case stop =>
    rintro c W ⟨rfl, hBW, hbr⟩ _ hD
    refine wpIn_ret ?_
    simp only [Exit.inBlock, Exit.then]
    refine post_ret1 (v := .int .i64 (inK m L s 0 (p - s))) rfl hD fun w' hl hs => ⟨?_, rfl, ?_⟩
    · have hb := blk_lets hbr hl (fun _ => by omega)
      have rb := hb.cell
      simp [results, Try.results104, go_sem, rb]
    · rw [HN0.out]
      exact below_lets hBW hl hle (fun _ _ _ => by omega)
theorem wrapI {x : Int} (h : -1000000 ≤ x ∧ x ≤ 1000000) : IntKind.i64.wrap x = x := (IntWalk.i64_left x).trans (IntWalk.wrap64_in _ (by omega))
/-- The longest stretch, and when it last drank, behind some places. -/
def dryTo (m : Mb) (L : List Int) (s : Nat) : Nat → Int × Int
  | 0 => (0, 0)
  | k + 1 => if k = 0 ∨ (waterB m (s + k) = false ∧ s + k + 1 < m.places.length) then dryTo m L s k else (max (dryTo m L s k).1 (inK m L s 0 k - (dryTo m L s k).2), inK m L s 0 k + if waterB m (s + k) = true then restI m (s + k) else 0)
def dryM (m : Mb) (L : List Int) (s : Nat) : Int := (dryTo m L s (m.places.length - s)).1
theorem dryTo_in {m : Mb} (hv : validM m = true) {L : List Int} (hL : L ∈ prodL m.legs) (s : Nat) : ∀ k, k ≤ 6 → 0 ≤ (dryTo m L s k).1 ∧ (dryTo m L s k).1 ≤ 200 ∧ 0 ≤ (dryTo m L s k).2 ∧ (dryTo m L s k).2 ≤ 200
  | 0, _ => by simp [dryTo]
  | k + 1, hk => by
    have ih := dryTo_in hv hL s k (by omega)
    have h1 := inK_bound hv hL s (d := 0) (by omega) (by omega) k
    have h2 := validM_rest hv (s + k)
    simp only [dryTo]
    split
    · exact ih
    · simp only
      split <;> omega
set_option maxHeartbeats 40000000 in
set_option maxRecDepth 100000 in
theorem m_stretch {m : Mb} {L : List Int} (hv : validM m = true) (hL : L ∈ prodL m.legs) (h : Int × Int × Int × Int) (s : Nat) (hs : h.1 = (s : Int)) (hsn : s < m.places.length) (pa : Option Addr) (pc : Nat) (w : World) (hr : RowsAt w pa 1 (fun p => [spotV p]) m.places) :
    Calls Try.prog 106 #[.agg (hdC h), .slice pa m.places.length pc, .agg (legC L)] w (Gives (.int .i64 (dryM m L s)) w) := by
  rcases h with ⟨h1, h2, h3, h4⟩
  simp only at hs
  subst hs
  have HD := Lib.hid (fun W => m_days ((s : Int), h2, h3, h4) pa m.places.length pc L 0 W)
  refine callsIn_wide.1 (callsIn_of_wp_marks (F := Fence.wide) (n := 0) Try.func106 rfl trivial (wpIn_wide.2 ?_) rfl)
  simp only [Try.ntmps106, List.size_toArray, List.length_cons, List.length_nil, Nat.reduceAdd, Nat.reduceSub, Array.replicate_succ, Array.replicate_zero, List.push_toArray, List.append_toArray, List.nil_append, List.cons_append]
  go_wp2_with (first
    | (go_at_call 81; refine (HD.out _).mono ?_; rintro e w2 ⟨rfl, hD2, hb2, hs2⟩; refine at_stop ?_))
  unfold Stop
  have hn2 : w2.heap.size = w.heap.size + 9 := by rw [hs2]; simp
  have hB : Below w.heap.size w w2 := (by (repeat (first | assumption | exact Below.refl _ _ | refine Below.drew ?_ | refine Below.alloc ?_ (by first | omega | (simp; done) | (simp; omega)) _ | refine Below.setCell ?_ (by first | omega | (simp; done) | (simp; omega)) _ | refine Below.trans ?_ (Below.mono (by assumption) (by first | omega | (simp; done) | (simp; omega))))) : Below w.heap.size w _).trans (hb2.mono (by simp; omega))
  have bh : Blk w2 w.heap.size (hdC ((s : Int), h2, h3, h4)) 116 := (((((Blk.new _ _ _).alloc _).alloc _).alloc _).alloc _).below hb2 (by simp; omega)
  have bs : Blk w2 (w.heap.size + 1) #[.slice pa m.places.length pc] 123 := ((((Blk.new' _ _ _ _ (by simp)).alloc _).alloc _).alloc _).below hb2 (by simp)
  have bl : Blk w2 (w.heap.size + 3) #[.int .i64 0] 3 := ((Blk.new' _ _ _ _ (by simp)).alloc _).below hb2 (by simp)
  have bd : Blk w2 (w.heap.size + 4) #[.int .i64 0] 3 := (Blk.new' _ _ _ _ (by simp)).below hb2 (by simp)
  have hD3 : DaysAt w2 (w.heap.size + 5) ((s : Int), h2, h3, h4) pa m.places.length pc L 0 := by simpa using hD2
  have hpa : ∀ g go, pa = some ⟨g, go, none⟩ → g < w.heap.size := fun g go e => by
    obtain ⟨gb, go', h0, h1⟩ := hr 0 (by omega)
    rw [e] at h0
    simp only [Option.some.injEq, Addr.mk.injEq] at h0
    obtain ⟨rfl, -, -⟩ := h0
    exact World.block_lt_of_cell? w _ (h1 0 _ rfl)
  have hrd := hr.below hB
  have HDr := Lib.hid (fun k (hk : k ≤ 6) => dryTo_in hv hL s k hk)
  have HI := Lib.hid (fun k => inK_bound hv hL s (d := 0) (by omega) (by omega) k)
  have HR := Lib.hid (fun p => validM_rest hv p)
  have hlen := validM_len hv
  have hni : (m.places.length : Int) ≤ 6 := by omega
  clear hD2 hb2 hs2
  generalize hn0 : w.heap.size = n0 at *
  have HN0 := Lib.hid hn0
  have hle : n0 ≤ w.heap.size := by omega
  clear hn0
  go_wp2_with fail
  refine (wpIn_wide (n := 0)).1 (wp_range (encs := dayV) (xs := daysL m L s 0) (XI := fun k _ => k = n0 + 5 + 3) (XB := fun k _ => k = n0 + 3 ∨ k = n0 + 4) (Mid := fun _ => True)
    (fun k W => Below (n0 + 3) w2 W ∧ Blk W (n0 + 3) #[.int .i64 (dryTo m L s k).1] 3 ∧ Blk W (n0 + 4) #[.int .i64 (dryTo m L s k).2] 3)
    (fun _ _ => False)
    rfl Try.call105 (fun _ => rfl)
    (fun W1 hb1 hs1 => days_seq hv hL _ s rfl (by omega) pa pc (n0 + 5) 0 (by omega) (by omega) _ W1 ⟨hD3.b0.below hb1 hD3.b0.lt, hD3.b1.below hb1 hD3.b1.lt, hD3.b2.below hb1 hD3.b2.lt, hD3.b3.below hb1 hD3.b3.lt⟩ (hrd.below hb1) (fun g go e => by have := hpa g go e; omega) _ (fun k o h => ⟨by omega, fun g go e => by have := hpa g go e; omega⟩))
    (fun j o h1 h2 => by omega) (fun j o h1 h2 => by omega)
    (fun k A B h hl => ⟨below_lets h.1 hl (by omega) (fun _ _ _ => by omega), blk_lets h.2.1 hl (fun _ => by omega), blk_lets h.2.2 hl (fun _ => by omega)⟩)
    (fun c A B h hl => h)
    (fun k A B h hl => ⟨below_lets h.1 hl (by omega) (fun _ _ _ => by omega), blk_lets h.2.1 hl (fun _ => by omega), blk_lets h.2.2 hl (fun _ => by omega)⟩)
    (fun c A B h hl => h)
    (fun _ _ _ _ => trivial) ⟨Below.refl _ _, bl, bd⟩ ?round ?done ?stop)
  case round =>
    intro k hk W hI _ hsz hrec
    rw [daysL_len] at hk
    unfold RoundOk
    rw [daysL_get]
    unfold dayV
    gi_wp2_with fail
    refine ⟨Lets.refl _ _, fun W₂ hl2 hs2 hI2 _ => ?_⟩
    clear hI hD3 bl bd hr hl2 hs2
    obtain ⟨hB2, bl, bd⟩ := hI2
    have bh2 := bh.below hB2 (by omega)
    have bs2 := bs.below hB2 (by omega)
    have hsp : ∃ gb go, pa = some ⟨gb, go, none⟩ ∧ W₂.cell? ⟨gb, go + (s + k), none⟩ = some (spotV (m.places[s + k]'(by omega))) := by
      obtain ⟨gb, go, h0, h1⟩ := hrd (s + k) (by omega)
      have := h1 0 _ rfl
      rw [Nat.mul_one, Nat.add_zero] at this
      exact ⟨gb, go, h0, (hB2.cell (p := ⟨gb, go + (s + k), none⟩) (by have := hpa gb go h0; simp only; omega)).trans this⟩
    have hw1 : waterB m (s + k) = (m.places[s + k]'(by omega)).1 := by unfold waterB; rw [List.getElem?_eq_getElem (by omega)]; rfl
    have hw2 : restI m (s + k) = (m.places[s + k]'(by omega)).2 := by unfold restI; rw [List.getElem?_eq_getElem (by omega)]; rfl
    have hdi := HDr.out k (by omega)
    have hii := HI.out k
    have hrr := HR.out (s + k)
    have HS : Hid (dryTo m L s (k + 1) = if k = 0 ∨ (waterB m (s + k) = false ∧ s + k + 1 < m.places.length) then dryTo m L s k else (max (dryTo m L s k).1 (inK m L s 0 k - (dryTo m L s k).2), inK m L s 0 k + if waterB m (s + k) = true then restI m (s + k) else 0)) := rfl
    rw [hw2] at hrr
    rw [hw1, hw2] at HS
    clear hw1 hw2 HI HDr HR hrd hpa bh bs
    obtain ⟨gb, go, rfl, e1⟩ := hsp
    generalize m.places[s + k]'(by omega) = pl at *
    obtain ⟨wt, rs⟩ := pl
    generalize dryTo m L s k = dd at *
    obtain ⟨d1, d2⟩ := dd
    generalize inK m L s 0 k = x at *
    simp only at *
    have r0 := bh2.cell
    have r1 := bs2.cell
    have r3 := bl.cell
    have f3 := bl.free
    have r4 := bd.cell
    have f4 := bd.free
    have hlt3 := bl.lt
    have hlt4 := bd.lt
    by_cases h0 : k = 0
    · have e2 : (((s : Int) + (k : Int)) == (s : Int)) = true := by simp [h0]
      rw [if_pos (.inl h0)] at HS
      (repeat (first | ((with_reducible refine wpIn_region_of ?_ ?_ ?_); (focus exact fun ⟨_, _, h⟩ => h); (focus rfl)) | gi_step))
      go_wp2_with fail
      gi_wp2_with fail
      exact ⟨Lets.refl _ _, trivial, hB2, by rw [HS.out]; exact bl, by rw [HS.out]; exact bd⟩
    · have e2 : (((s : Int) + (k : Int)) == (s : Int)) = false := by simp; omega
      cases wt
      · have e3 : W₂.cell? ⟨gb, go + (s + k), none⟩ = some (.iface 136 (.agg #[])) := e1
        have hm : ∀ w, (method 275 136 (.agg #[]) "shearworks/mob.drinks").run Try.prog w = .ok (131, .agg #[]) w := fun _ => by kernel_rfl
        have hm2 : ∀ w, (method 275 136 (.agg #[]) "shearworks/mob.on").run Try.prog w = .ok (132, .agg #[]) w := fun _ => by kernel_rfl
        clear e1
        have hix : ((s : Int) + (k : Int)) = ((s + k : Nat) : Int) := by omega
        have hp6 : ((s + k : Nat) : Int) < (m.places.length : Int) := by omega
        rw [hix] at e2 ⊢
        generalize hpp : s + k = p at *
        by_cases hlast : p + 1 < m.places.length
        · have hls : (p : Int) < (m.places.length : Int) - 1 := by omega
          rw [if_pos (.inr ⟨rfl, hlast⟩)] at HS
          (repeat (first | ((with_reducible refine wpIn_region_of ?_ ?_ ?_); (focus exact fun ⟨_, _, h⟩ => h); (focus rfl)) | gi_step))
          go_wp2_with (first
            | (go_at_call 131; refine (m_bare_drinks _).mono ?_; rintro e w5 ⟨rfl, hb5⟩; obtain ⟨c5, g5, z5⟩ := after hb5 rfl))
          gi_wp2_with fail
          exact ⟨Lets.of_below hb5, trivial, hB2.trans (hb5.mono (by omega)), by rw [HS.out]; exact bl.below hb5 hlt3, by rw [HS.out]; exact bd.below hb5 hlt4⟩
        · have hls : ¬ (p : Int) < (m.places.length : Int) - 1 := by omega
          rw [if_neg (by rintro (h | h); exact h0 h; exact hlast h.2)] at HS
          simp only [if_neg (show ¬ (false = true) by simp)] at HS
          (repeat (first | ((with_reducible refine wpIn_region_of ?_ ?_ ?_); (focus exact fun ⟨_, _, h⟩ => h); (focus rfl)) | gi_step))
          go_wp2_with (first
            | (go_at_call 131; refine (m_bare_drinks _).mono ?_; rintro e w5 ⟨rfl, hb5⟩; obtain ⟨c5, g5, z5⟩ := after hb5 rfl))
          have bl5 := bl.below hb5 hlt3
          have bd5 := bd.below hb5 hlt4
          have bs5 := bs2.below hb5 (by omega)
          have e5 := (hb5.cell (p := ⟨gb, go + p, none⟩) (World.block_lt_of_cell? W₂ _ e3)).trans e3
          have r1' := bs5.cell
          have r3' := bl5.cell
          have r4' := bd5.cell
          have f3' := bl5.free
          have f4' := bd5.free
          have hB5 := hB2.trans (hb5.mono (by omega))
          have hz5 := hb5.size
          have hl5 : Lets (fun k _ => k = n0 + 3 ∨ k = n0 + 4) W₂ w5 := Lets.of_below hb5
          clear c5 g5 z5 hb5 r0 r1 r3 r4 f3 f4 e3 bh2 bs2 bl bd hB2
          have hwx : IntKind.i64.wrap (x - d2) = x - d2 := wrapI (by omega)
          gi_wp2_with fail
          refine Ord.Two.wpIn_region (fun ⟨_, _, h⟩ => h) [(0, 1), (1, 1), (2, 1), (3, 1), (4, 1), (5, 0), (6, 0), (7, 0), (8, 0), (9, 0), (10, 2)] [(11, 2), (12, 2)] (fun W => Below w5.heap.size w5 W) (by kernel_rfl) (by kernel_rfl) (by kernel_rfl) (fun c a d v w h => by cases d <;> exact h) (Below.refl _ _).drew ?_
          go_wp2_with (first
            | (with_reducible refine Ord.Two.walk_next ?_)
            | (go_at_call 132; refine (m_bare_on _ _).mono ?_; rintro e w6 ⟨rfl, hb6⟩; obtain ⟨c6, g6, z6⟩ := after hb6 rfl)
            | ((with_reducible refine Ord.at_wild ?_); refine Ord.wild_load (ad := ⟨n0 + 3, 0, none⟩) (.int .i64 d1) rfl rfl ?_ ?_; (focus (intro W hW; obtain ⟨cW, _, zW⟩ := below_rules hW rfl; simp [go_sem, cW, ↓IntWalk.iteOmega, r3']; done)); intro K hK)
            | ((with_reducible refine Ord.at_wild ?_); refine Ord.wild_load (ad := ⟨n0 + 4, 0, none⟩) (.int .i64 d2) rfl rfl ?_ ?_; (focus (intro W hW; obtain ⟨cW, _, zW⟩ := below_rules hW rfl; simp [go_sem, cW, ↓IntWalk.iteOmega, r4']; done)); intro K hK)
            | ((with_reducible refine Ord.at_wild ?_); refine Ord.walk_wild_as rfl (.int .i64 (x - d2)) ?_ ?_; (focus (intro W hW; simp [go_sem, Ord.yields, Ord.yieldUpon, hwx]; done)); intro K hK)
            | ((with_reducible refine Ord.at_wild ?_); refine Ord.walk_wild_as rfl (.int .i64 (if d1 < x - d2 then x - d2 else d1)) ?_ ?_; (focus (intro W hW; simp [go_sem, Ord.yields, Ord.yieldUpon, hwx]; done)); intro K hK)
            | ((with_reducible refine Ord.at_calm ?_); refine Ord.calm_skip rfl ?_ (fun K hK => ?_); (focus (simp [Region.wanted, yielded]; done))) | with_reducible refine Ord.walk_calm rfl rfl (fun K hK => ?_) | ((with_reducible refine Ord.at_wild ?_); refine Ord.wild_fieldAddr rfl rfl (fun W => by simp [go_sem]; rfl) (fun K hK => ?_)) | ((with_reducible refine Ord.at_wild ?_); refine Ord.wild_move rfl rfl (fun K hK => ?_)) | ((with_reducible refine Ord.at_wild ?_); refine Ord.wild_nilCheck rfl rfl (fun K hK => ?_)) | with_reducible refine Ord.walk_eff rfl (by first | (simp; done) | assumption | (go_simp; done) | (repeat (first | assumption | exact Below.refl _ _ | refine Below.drew ?_ | refine Below.alloc ?_ (by first | omega | (simp; done) | (simp; omega)) _ | refine Below.setCell ?_ (by first | omega | (simp; done) | (simp; omega)) _ | refine Below.trans ?_ (Below.mono (by assumption) (by first | omega | (simp; done) | (simp; omega)))))) (fun K hK => ?_) | with_reducible refine Ord.at_fork ?_ ?_ | with_reducible refine Ord.walk_nil ?_ | (with_reducible refine Ord.next_of (by first | (simp; done) | (go_simp; done) | (repeat (first | assumption | exact Below.refl _ _ | refine Below.drew ?_ | refine Below.alloc ?_ (by first | omega | (simp; done) | (simp; omega)) _ | refine Below.setCell ?_ (by first | omega | (simp; done) | (simp; omega)) _ | refine Below.trans ?_ (Below.mono (by assumption) (by first | omega | (simp; done) | (simp; omega)))))) (fun _ => ?_)))
          all_goals
            have bl6 := bl5.below hb6.undrew (by omega)
            have bd6 := bd5.below hb6.undrew (by omega)
            refine ⟨(((hl5.trans (Lets.of_below hb6.undrew)).setCell (.inl rfl) _).setCell (.inr rfl) _), trivial, (((hB5.trans (hb6.undrew.mono (by omega))).setCell (by first | omega | (simp; done) | (simp; omega)) _).setCell (by first | omega | (simp; done) | (simp; omega)) _), ?_, ?_⟩
            · rw [HS.out]
              first
                | (have e9 : max d1 (x - d2) = d1 := by omega
                   simp only [e9]; exact (bl6.set 0 _).other (by first | omega | (simp; done) | (simp; omega)) _)
                | (have e9 : max d1 (x - d2) = x - d2 := by omega
                   simp only [e9]; exact (bl6.set 0 _).other (by first | omega | (simp; done) | (simp; omega)) _)
            · rw [HS.out]
              simpa using ((bd6.other (by first | omega | (simp; done) | (simp; omega)) _).set 0 _)
      · have e3 : W₂.cell? ⟨gb, go + (s + k), none⟩ = some (.iface 140 (.agg #[.int .i64 rs])) := e1
        have hm : ∀ w, (method 275 140 (.agg #[.int .i64 rs]) "shearworks/mob.drinks").run Try.prog w = .ok (133, .agg #[.int .i64 rs]) w := fun _ => by kernel_rfl
        have hm2 : ∀ w, (method 275 140 (.agg #[.int .i64 rs]) "shearworks/mob.on").run Try.prog w = .ok (134, .agg #[.int .i64 rs]) w := fun _ => by kernel_rfl
        clear e1
        have hix : ((s : Int) + (k : Int)) = ((s + k : Nat) : Int) := by omega
        have hp6 : ((s + k : Nat) : Int) < (m.places.length : Int) := by omega
        rw [hix] at e2 ⊢
        generalize hpp : s + k = p at *
        rw [if_neg (by rintro (h | h); exact h0 h; exact absurd h.1 (by simp))] at HS
        simp only [if_true] at HS
        (repeat (first | ((with_reducible refine wpIn_region_of ?_ ?_ ?_); (focus exact fun ⟨_, _, h⟩ => h); (focus rfl)) | gi_step))
        go_wp2_with (first
          | (go_at_call 133; refine (m_pool_drinks _ _).mono ?_; rintro e w5 ⟨rfl, hb5⟩; obtain ⟨c5, g5, z5⟩ := after hb5 rfl))
        have bl5 := bl.below hb5 hlt3
        have bd5 := bd.below hb5 hlt4
        have bs5 := bs2.below hb5 (by omega)
        have e5 := (hb5.cell (p := ⟨gb, go + p, none⟩) (World.block_lt_of_cell? W₂ _ e3)).trans e3
        have r1' := bs5.cell
        have r3' := bl5.cell
        have r4' := bd5.cell
        have f3' := bl5.free
        have f4' := bd5.free
        have hB5 := hB2.trans (hb5.mono (by omega))
        have hz5 := hb5.size
        have hl5 : Lets (fun k _ => k = n0 + 3 ∨ k = n0 + 4) W₂ w5 := Lets.of_below hb5
        clear c5 g5 z5 hb5 r0 r1 r3 r4 f3 f4 e3 bh2 bs2 bl bd hB2
        have hwx : IntKind.i64.wrap (x - d2) = x - d2 := wrapI (by omega)
        gi_wp2_with fail
        refine Ord.Two.wpIn_region (fun ⟨_, _, h⟩ => h) [(0, 1), (1, 1), (2, 1), (3, 1), (4, 1), (5, 0), (6, 0), (7, 0), (8, 0), (9, 0), (10, 2)] [(11, 2), (12, 2)] (fun W => Below w5.heap.size w5 W) (by kernel_rfl) (by kernel_rfl) (by kernel_rfl) (fun c a d v w h => by cases d <;> exact h) (Below.refl _ _).drew ?_
        go_wp2_with (first
          | (with_reducible refine Ord.Two.walk_next ?_)
          | (go_at_call 134; refine (m_pool_on _ _ (by omega) (by omega) _).mono ?_; rintro e w6 ⟨rfl, hb6⟩; obtain ⟨c6, g6, z6⟩ := after hb6 rfl)
          | ((with_reducible refine Ord.at_wild ?_); refine Ord.wild_load (ad := ⟨n0 + 3, 0, none⟩) (.int .i64 d1) rfl rfl ?_ ?_; (focus (intro W hW; obtain ⟨cW, _, zW⟩ := below_rules hW rfl; simp [go_sem, cW, ↓IntWalk.iteOmega, r3']; done)); intro K hK)
          | ((with_reducible refine Ord.at_wild ?_); refine Ord.wild_load (ad := ⟨n0 + 4, 0, none⟩) (.int .i64 d2) rfl rfl ?_ ?_; (focus (intro W hW; obtain ⟨cW, _, zW⟩ := below_rules hW rfl; simp [go_sem, cW, ↓IntWalk.iteOmega, r4']; done)); intro K hK)
          | ((with_reducible refine Ord.at_wild ?_); refine Ord.walk_wild_as rfl (.int .i64 (x - d2)) ?_ ?_; (focus (intro W hW; simp [go_sem, Ord.yields, Ord.yieldUpon, hwx]; done)); intro K hK)
          | ((with_reducible refine Ord.at_wild ?_); refine Ord.walk_wild_as rfl (.int .i64 (if d1 < x - d2 then x - d2 else d1)) ?_ ?_; (focus (intro W hW; simp [go_sem, Ord.yields, Ord.yieldUpon, hwx]; done)); intro K hK)
          | ((with_reducible refine Ord.at_calm ?_); refine Ord.calm_skip rfl ?_ (fun K hK => ?_); (focus (simp [Region.wanted, yielded]; done))) | with_reducible refine Ord.walk_calm rfl rfl (fun K hK => ?_) | ((with_reducible refine Ord.at_wild ?_); refine Ord.wild_fieldAddr rfl rfl (fun W => by simp [go_sem]; rfl) (fun K hK => ?_)) | ((with_reducible refine Ord.at_wild ?_); refine Ord.wild_move rfl rfl (fun K hK => ?_)) | ((with_reducible refine Ord.at_wild ?_); refine Ord.wild_nilCheck rfl rfl (fun K hK => ?_)) | with_reducible refine Ord.walk_eff rfl (by first | (simp; done) | assumption | (go_simp; done) | (repeat (first | assumption | exact Below.refl _ _ | refine Below.drew ?_ | refine Below.alloc ?_ (by first | omega | (simp; done) | (simp; omega)) _ | refine Below.setCell ?_ (by first | omega | (simp; done) | (simp; omega)) _ | refine Below.trans ?_ (Below.mono (by assumption) (by first | omega | (simp; done) | (simp; omega)))))) (fun K hK => ?_) | with_reducible refine Ord.at_fork ?_ ?_ | with_reducible refine Ord.walk_nil ?_ | (with_reducible refine Ord.next_of (by first | (simp; done) | (go_simp; done) | (repeat (first | assumption | exact Below.refl _ _ | refine Below.drew ?_ | refine Below.alloc ?_ (by first | omega | (simp; done) | (simp; omega)) _ | refine Below.setCell ?_ (by first | omega | (simp; done) | (simp; omega)) _ | refine Below.trans ?_ (Below.mono (by assumption) (by first | omega | (simp; done) | (simp; omega)))))) (fun _ => ?_)))
        all_goals
          have bl6 := bl5.below hb6.undrew (by omega)
          have bd6 := bd5.below hb6.undrew (by omega)
          refine ⟨(((hl5.trans (Lets.of_below hb6.undrew)).setCell (.inl rfl) _).setCell (.inr rfl) _), trivial, (((hB5.trans (hb6.undrew.mono (by omega))).setCell (by first | omega | (simp; done) | (simp; omega)) _).setCell (by first | omega | (simp; done) | (simp; omega)) _), ?_, ?_⟩
          · rw [HS.out]
            first
              | (have e9 : max d1 (x - d2) = d1 := by omega
                 simp only [e9]; exact (bl6.set 0 _).other (by first | omega | (simp; done) | (simp; omega)) _)
              | (have e9 : max d1 (x - d2) = x - d2 := by omega
                 simp only [e9]; exact (bl6.set 0 _).other (by first | omega | (simp; done) | (simp; omega)) _)
          · rw [HS.out]
            simpa using ((bd6.other (by first | omega | (simp; done) | (simp; omega)) _).set 0 _)
  case done =>
    intro W hI _ hD
    rw [daysL_len] at hI
    obtain ⟨hBW, bl, bd⟩ := hI
    have r3 := bl.cell
    simp only [Exit.inBlock, Exit.then]
    go_wp2_with fail
    refine post_ret1 (v := .int .i64 (dryTo m L s (m.places.length - s)).1) rfl hD fun w' hl hs => ⟨by simp [results, Try.results106, go_sem], rfl, ?_⟩
    rw [HN0.out]
    exact below_lets (hB.trans (hBW.mono (by omega))) hl hle (fun _ _ _ => by omega)
  case stop =>
    intro c W h
    exact h.elim
end Go.Proofs.Yteeinehpneppnaa
