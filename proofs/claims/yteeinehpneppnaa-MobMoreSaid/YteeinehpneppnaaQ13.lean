/- Parts of a proof: MoI, MoJ. -/
import Derived.Test.YteeinehpneppnaaQ12
import Derived.Test.YteeinehpneppnaaQ08
import Derived.Laws.EntriesVeiled
set_option linter.unusedVariables false
set_option linter.unusedSimpArgs false
namespace Go.Proofs.Yteeinehpneppnaa
open Go.RowKit Go.Proofs
attribute [local irreducible] Ord.walk
attribute [local go_sem] Oper.semAt_some
/-- What a call that looks at an open way returns. -/
def GivesW (W0 : World) (mb : Nat) (m : Mb) (v : Value) (w : World) (e : Ending) (w' : World) : Prop := e = .returned v ∧ Way W0 mb m w' ∧ Lets (fun k _ => k = mb) w w'
def canM (m : Mb) (set : Nat) : Bool := decide (0 < (toldL m set).length)
set_option maxHeartbeats 40000000 in
set_option maxRecDepth 100000 in
theorem m_can {m : Mb} {A : Ma} {pa : Option Addr} {pc wp mb : Nat} {W0 : World} (hv : validM m = true) (hO : Opened W0 wp m A pa pc mb) (set : Nat) (hset : set < 1000) (w : World) (hW : Way W0 mb m w) :
    Calls Try.prog 67 #[.pointer (some ⟨wp, 0, none⟩), .int .u64 (set : Int)] w (GivesW W0 mb m (.bool (canM m set)) w) := by
  have HT := Lib.hid (fun W => m_told wp set W)
  have hmb := hO.mb_lt
  have hsz := hW.2.size
  refine callsIn_wide.1 (callsIn_of_wp_marks (F := Fence.wide) (n := 0) Try.func67 rfl trivial (wpIn_wide.2 ?_) rfl)
  simp only [Try.ntmps67, List.size_toArray, List.length_cons, List.length_nil, Nat.reduceAdd, Nat.reduceSub, Array.replicate_succ, Array.replicate_zero, List.push_toArray, List.append_toArray, List.nil_append, List.cons_append]
  go_wp2_with (first
    | (go_at_call 46; refine (HT.out _).mono ?_; rintro e w2 ⟨rfl, hT2, hb2, hs2⟩; refine at_stop ?_))
  unfold Stop
  have hn2 : w2.heap.size = w.heap.size + 3 := by rw [hs2]; simp
  have b2 : Blk w2 w.heap.size #[.bool false] 4 := (Blk.new _ _ _).below hb2 (by simp)
  have hT : ToldAt w2 (w.heap.size + 1) wp set := by simpa using hT2
  have hB : Below w.heap.size w w2 := ((Below.refl _ _).alloc (Nat.le_refl _) _).trans (hb2.mono (by simp))
  have hL2 : Lets (fun k _ => k = mb) w w2 := Lets.of_below hB
  have hW2 : Way W0 mb m w2 := hW.lets (X := fun _ _ => False) (Lets.of_below hB) hmb (fun _ _ e => e.elim)
  clear hb2 hs2 hT2
  generalize hN : w.heap.size = N at *
  have HN := Lib.hid hN
  clear hN
  unfold toldF
  go_wp2_with fail
  refine (wpIn_wide (n := 0)).1 (wp_range (encs := fun L => #[.agg (legC L)]) (xs := toldL m set) (XI := fun k _ => k = mb ∨ (N + 5 ≤ k ∧ k < N + 12)) (XB := fun k _ => k = N) (Mid := fun W' => Way W0 mb m W' ∧ N + 12 ≤ W'.heap.size)
    (fun k A => k = 0 ∧ Blk A N #[.bool false] 4 ∧ Lets (fun k _ => k = mb) w A)
    (fun c A => c = .ret ∧ 0 < (toldL m set).length ∧ Blk A N #[.bool true] 4 ∧ Lets (fun k _ => k = mb) w A)
    rfl Try.call94 (fun _ => rfl)
    (fun W1 hb1 hs1 => ?seq)
    (fun j o h1 h2 => by omega) (fun j o h1 h2 => by omega)
    (fun k A B h hl => ⟨h.1, blk_lets h.2.1 hl (fun _ => by omega), h.2.2.next hl (fun i hi hx => by have := HN.out; omega)⟩)
    (fun c A B h hl => ⟨h.1, h.2.1, blk_lets h.2.2.1 hl (fun _ => by omega), h.2.2.2.next hl (fun i hi hx => by have := HN.out; omega)⟩)
    (fun k A B h hl => ⟨h.1, blk_lets h.2.1 hl (fun _ => by omega), h.2.2.next hl (fun i hi hx => by have := HN.out; omega)⟩)
    (fun c A B h hl => ⟨h.1, h.2.1, blk_lets h.2.2.1 hl (fun _ => by omega), h.2.2.2.next hl (fun i hi hx => by have := HN.out; omega)⟩)
    (fun A B h hl => ⟨h.1.lets hl hmb (fun _ _ e => by omega), Nat.le_trans h.2 hl.size⟩) ⟨rfl, b2, hL2⟩ ?round ?done ?stop)
  case seq =>
    have hs4 : W1.heap.size = N + 5 := by omega
    have hWy1 : Way W0 mb m W1 := hW2.lets (X := fun _ _ => False) (Lets.of_below hb1) hmb (fun _ _ e => e.elim)
    have := told_seq hv hO set hset (N + 1) (w2.heap.size + 1) W1 hWy1 ⟨hT.b0.below hb1 hT.b0.lt, hT.b1.below hb1 hT.b1.lt⟩ (by omega) (fun j o => j = N ∨ j = w2.heap.size + 1) (fun k o e => by omega)
    rw [hs4] at this
    exact this
  case round =>
    rintro k hk A' ⟨rfl, hbl, hlt⟩ hM hsz hrec
    unfold RoundOk
    gi_wp2_with fail
    refine ⟨Lets.refl _ _, fun W₂ hl2 hs2 ⟨_, hb, hlt2⟩ ⟨hWy, hbig⟩ => ?_⟩
    have r := hb.cell
    have f := hb.free
    have lt := hb.lt
    gi_wp2_with fail
    exact ⟨(Lets.refl _ _).setCell rfl _, ⟨hWy.lets ((Lets.refl (fun k _ => k = N) _).setCell rfl _) hmb (fun _ _ e => by omega), by simpa using hbig⟩, rfl, by omega, hb.set 0 _, hlt2.next ((Lets.refl (fun k _ => k = N) _).setCell rfl _) (fun i hi hx => by have := HN.out; omega)⟩
  case done =>
    rintro W ⟨h0, hbl, hlt⟩ hM hD
    have r := hbl.cell
    have f := hbl.free
    have lt := hbl.lt
    have hcn : canM m set = false := by unfold canM; rw [h0]; rfl
    simp only [Exit.inBlock, Exit.then]
    go_wp2_with fail
    have hD' : (W.setCell ⟨N, 0, none⟩ (.bool false)).heap[w2.heap.size]? = some (.deferred (some [])) := (Below.heap_setCell W ⟨N, 0, none⟩ _ _ (by simp only; omega)).trans hD
    have hlN : Lets (fun k _ => k = N ∨ k = w2.heap.size) W (W.setCell ⟨N, 0, none⟩ (.bool false)) := (Lets.refl _ _).setCell (.inl rfl) _
    refine post_ret1 (v := .bool false) rfl hD' fun w' hl hs => ⟨?_, by rw [hcn], hM.1.lets (hlN.trans (hl.mono fun _ _ e => .inr e)) hmb (fun _ _ e => by omega), hlt.next (hlN.trans (hl.mono fun _ _ e => .inr e)) (fun i hi hx => by have := HN.out; omega)⟩
    have rb := (blk_lets (hbl.set 0 (.bool false)) hl (fun _ => by omega)).cell
    simp [results, Try.results67, go_sem, rb]
  case stop =>
    rintro c W ⟨rfl, h0, hbl, hlt⟩ hM hD
    have hcn : canM m set = true := by unfold canM; simpa using h0
    refine wpIn_ret ?_
    simp only [Exit.inBlock, Exit.then]
    refine post_ret1 (v := .bool true) rfl hD fun w' hl hs => ⟨?_, by rw [hcn], hM.1.lets hl hmb (fun _ _ e => by omega), hlt.next hl (fun i hi hx => by have := HN.out; omega)⟩
    have rb := (blk_lets hbl hl (fun _ => by omega)).cell
    simp [results, Try.results67, go_sem, rb]
/-- It panics with this error; the way stays open. -/
def StopsW (W0 : World) (mb : Nat) (m : Mb) (e : Int) (w : World) (x : Ending) (w' : World) : Prop := x = .panicked [{ v := stopV e, recovered := false }] ∧ Way W0 mb m w' ∧ Lets (fun k _ => k = mb) w w'
def knownM (m : Mb) : Bool := canM m (everyN m)
theorem everyN_lt {m : Mb} (hv : validM m = true) : everyN m < 32 := by
  have := validM_len hv
  unfold everyN
  have h1 : 2 ^ m.seen.length ≤ 2 ^ 5 := Nat.pow_le_pow_right (by omega) (by omega)
  omega
theorem m_everyW {m : Mb} {A : Ma} {pa : Option Addr} {pc wp mb : Nat} {W0 : World} (hv : validM m = true) (hO : Opened W0 wp m A pa pc mb) (w : World) (hW : Way W0 mb m w) :
    Calls Try.prog 47 #[.pointer (some ⟨wp, 0, none⟩)] w (Same (.int .u64 ((everyN m : Nat) : Int)) w) := by
  have := validM_len hv
  exact m_every wp m.seen.length A.sc A.sa w (by omega) ((hO.at_ hW).blk.cell 3)
set_option maxHeartbeats 4000000 in
set_option maxRecDepth 100000 in
theorem m_known_yes {m : Mb} {A : Ma} {pa : Option Addr} {pc wp mb : Nat} {W0 : World} (hv : validM m = true) (hO : Opened W0 wp m A pa pc mb) (w : World) (hW : Way W0 mb m w) (hk : knownM m = true) :
    Calls Try.prog 45 #[.pointer (some ⟨wp, 0, none⟩)] w (GivesW W0 mb m (.pointer (some ⟨wp, 0, none⟩)) w) := by
  have HE := Lib.hid (m_everyW hv hO w hW)
  have HC := Lib.hid (m_can hv hO (everyN m) (by have := everyN_lt hv; omega) w hW)
  unfold knownM at hk
  rw [hk] at HC
  generalize everyN m = E at *
  go_enter Try.func45, Try.ntmps45
  go_wp2_with (first
    | (go_at_call 47; refine HE.out.mono ?_; rintro e w' ⟨rfl, rfl⟩)
    | (go_at_call 67; refine HC.out.mono ?_; rintro e w2 ⟨rfl, hW2, hl2⟩)
    | (go_at_call 68; refine (m_must_yes _ _).mono ?_; rintro e w' ⟨rfl, rfl⟩))
  go_ret
  exact ⟨rfl, hW2, hl2⟩
set_option maxHeartbeats 4000000 in
set_option maxRecDepth 100000 in
theorem m_known_no {m : Mb} {A : Ma} {pa : Option Addr} {pc wp mb : Nat} {W0 : World} (hv : validM m = true) (hO : Opened W0 wp m A pa pc mb) (w : World) (hW : Way W0 mb m w) (hk : knownM m = false) :
    Calls Try.prog 45 #[.pointer (some ⟨wp, 0, none⟩)] w (StopsW W0 mb m 10 w) := by
  have HE := Lib.hid (m_everyW hv hO w hW)
  have HC := Lib.hid (m_can hv hO (everyN m) (by have := everyN_lt hv; omega) w hW)
  unfold knownM at hk
  rw [hk] at HC
  generalize everyN m = E at *
  go_enter Try.func45, Try.ntmps45
  go_wp2_with (first
    | (go_at_call 47; refine HE.out.mono ?_; rintro e w' ⟨rfl, rfl⟩)
    | (go_at_call 67; refine HC.out.mono ?_; rintro e w2 ⟨rfl, hW2, hl2⟩)
    | (go_at_call 68; refine (m_must_no _ _).mono ?_; rintro e w' ⟨rfl, rfl⟩))
  exact ⟨rfl, rfl, hW2, hl2⟩
theorem Way.cell_ne {W0 W : World} {mb : Nat} {m : Mb} (h : Way W0 mb m W) {a : Addr} {v : Value} (hc : W.cell? a = some v) : a.block ≠ mb := by
  obtain ⟨o, ho, hk⟩ := cells_of_cell hc
  obtain ⟨l, h1, -⟩ := h.1
  rintro rfl
  rw [show W.heap[a.block]? = _ from h1] at ho
  simp only [Option.some.injEq] at ho
  subst ho
  simp [Obj.isCells] at hk
theorem Way.below {W0 W W' : World} {mb : Nat} {m : Mb} (h : Way W0 mb m W) (hb : Below W.heap.size W W') (hmb : mb < W0.heap.size) : Way W0 mb m W' := h.lets (X := fun _ _ => False) (Lets.of_below hb) hmb (fun _ _ e => e.elim)
theorem Way.drew {W0 W : World} {mb : Nat} {m : Mb} (h : Way W0 mb m W) : Way W0 mb m W.drew := ⟨h.1, h.2.drew⟩
/-- When a mob comes to a place, with how long legs take. -/
def comeS (m : Mb) (L : List Int) (i p : Nat) : Int × Int := ((leavesM m L i (everyN m)).1 + comesM m L i p, (leavesM m L i (everyN m)).2 + comesM m L i p)
theorem leavesM_in {m : Mb} (hv : validM m = true) {L : List Int} (hL : L ∈ prodL m.legs) (h set : Nat) : -200 ≤ (leavesM m L h set).1 ∧ (leavesM m L h set).1 ≤ 200 ∧ -200 ≤ (leavesM m L h set).2 ∧ (leavesM m L h set).2 ≤ 200 := lvTo_in hv hL h set m.seen.length (Nat.le_refl _)
set_option maxHeartbeats 40000000 in
set_option maxRecDepth 100000 in
theorem m_comesW {m : Mb} {A : Ma} {pa : Option Addr} {pc wp mb : Nat} {W0 : World} (hv : validM m = true) (hO : Opened W0 wp m A pa pc mb) {L : List Int} (hL : L ∈ prodL m.legs) (i p : Nat) (hi : i < m.herds.length) (hp : startN m i ≤ p) (hpn : p < m.places.length) (w : World) (hW : Way W0 mb m w) :
    Calls Try.prog 77 #[.pointer (some ⟨wp, 0, none⟩), .int .i64 (i : Int), .int .i64 (p : Int), .agg (legC L)] w (GivesW W0 mb m (spv (comeS m L i p)) w) := by
  have hmb := hO.mb_lt
  have hsz := hW.2.size
  have hlen := validM_len hv
  have hE5 := everyN_lt hv
  obtain ⟨W2, hW2⟩ : ∃ W2, W2 = (w.alloc (.cells (legC L) 90)).alloc (.cells #[.int .i64 0, .int .i64 0] 39) := ⟨_, rfl⟩
  have hB2 : Below w.heap.size w W2 := by rw [hW2]; (repeat (first | assumption | exact Below.refl _ _ | refine Below.drew ?_ | refine Below.alloc ?_ (by first | omega | (simp; done) | (simp; omega)) _ | refine Below.setCell ?_ (by first | omega | (simp; done) | (simp; omega)) _ | refine Below.trans ?_ (Below.mono (by assumption) (by first | omega | (simp; done) | (simp; omega)))))
  have hs2 : W2.heap.size = w.heap.size + 2 := by rw [hW2]; simp
  have b1 : Blk W2 w.heap.size (legC L) 90 := by rw [hW2]; exact (Blk.new _ _ _).alloc _
  have b2 : Blk W2 (w.heap.size + 1) #[.int .i64 0, .int .i64 0] 39 := by rw [hW2]; exact Blk.new' _ _ _ _ (by simp)
  have hWy2 : Way W0 mb m W2 := hW.lets (X := fun _ _ => False) (Lets.of_below hB2) hmb (fun _ _ e => e.elim)
  have hw2 := hO.at_ hWy2
  obtain ⟨gb, go, e0, f1, f2, f3, f4⟩ := (hO.at_ hW).args.herds.get4 hi
  have hgb := World.block_lt_of_cell? w _ f1
  have hne4 := hW.cell_ne f1
  simp only at hgb hne4
  have e1 := (hB2.cell (p := ⟨gb, go + i * 4, none⟩) hgb).trans f1
  have e2 := (hB2.cell (p := ⟨gb, go + i * 4 + 1, none⟩) hgb).trans f2
  have e3 := (hB2.cell (p := ⟨gb, go + i * 4 + 2, none⟩) hgb).trans f3
  have e4 := (hB2.cell (p := ⟨gb, go + i * 4 + 3, none⟩) hgb).trans f4
  clear f1 f2 f3 f4
  have hbw := hw2.blk
  have HL := Lib.hid (fun W (hw : Way W0 mb m W) => m_leaves hv hL i (everyN m) hi (by omega) W (hO.at_ hw) hw.1)
  have HC : Hid (∀ W, Way W0 mb m W → Calls Try.prog 104 #[.agg (hdC m.herds[i]), .slice pa m.places.length pc, .agg (legC L), .int .i64 p] W (Gives (.int .i64 (comesM m L i p)) W)) := fun W hw => m_comes (pc := pc) hv hL (m.herds[i]) (startN m i) (startN_eq hv hi).1 p hp hpn pa W (hO.at_ hw).spots
  have HE := Lib.hid (fun W hw => m_everyW hv hO W hw)
  have hlv := leavesM_in hv hL i (everyN m)
  have hcm := comesM_in hv hL i p hpn
  have HS : Hid (comeS m L i p = ((leavesM m L i (everyN m)).1 + comesM m L i p, (leavesM m L i (everyN m)).2 + comesM m L i p)) := rfl
  have hcne : ∀ k : Nat, (k = mb ∨ k = w.heap.size + 1) → k ≠ w.heap.size ∧ k ≠ wp := fun k e => by
    have := hO.wp_lt; have := hO.wp_ne; omega
  have hH0 : Lets (fun k _ => k = mb ∨ k = w.heap.size + 1) W2 W2.drew := (Lets.refl _ _).drew
  have hL2 : Lets (fun k _ => k = mb) w W2 := Lets.of_below hB2
  rcases A with ⟨qa, qc, la, lc, ha, hc, sa, sc⟩
  simp only at e0
  subst e0
  clear hw2
  generalize m.herds[i] = hd at *
  obtain ⟨d1, d2, d3, d4⟩ := hd
  generalize leavesM m L i (everyN m) = lv at *
  generalize comesM m L i p = cm at *
  generalize everyN m = E at *
  obtain ⟨v1, v2⟩ := lv
  simp only at *
  have hgn : ¬ (gb = mb ∨ gb = w.heap.size + 1) := by omega
  have hii : (i : Int) < (m.herds.length : Int) := by omega
  have hh4 : (m.herds.length : Int) ≤ 4 := by omega
  have rw2 := hbw.cell
  have r1 := b1.cell
  go_enter Try.func77, Try.ntmps77
  go_upto_region 1 with fail
  rw [← hW2]
  clear hW2
  go_wp2_with fail
  refine Ord.wp_region [(0, 0), (1, 0), (2, 0), (3, 0), (4, 0), (5, 0), (7, 1), (8, 1), (9, 1), (10, 1), (11, 1), (12, 1), (13, 1), (14, 1), (15, 1), (16, 1), (17, 1), (18, 1), (19, 1), (20, 1), (6, 2), (21, 2), (22, 2), (23, 2)] (fun W' => Lets (fun k _ => k = mb ∨ k = w.heap.size + 1) W2 W') (by kernel_rfl) (by kernel_rfl) (fun c a d v w h => by cases d <;> exact h) hH0 ?_
  go_wp2_with (first
    | ((with_reducible refine Ord.at_wild ?_); refine Ord.wild_load (ad := ⟨wp, 2, none⟩) (.slice (some ⟨gb, go, none⟩) m.herds.length hc) rfl rfl ?_ ?_; (focus (intro W hW; have r := (hW.blk hbw (fun e => (hcne _ e).2 rfl)).cell; simp [go_sem, r]; done)); intro K hK)
    | ((with_reducible refine Ord.at_wild ?_); refine Ord.wild_load (ad := ⟨wp, 4, none⟩) (.slice pa m.places.length pc) rfl rfl ?_ ?_; (focus (intro W hW; have r := (hW.blk hbw (fun e => (hcne _ e).2 rfl)).cell; simp [go_sem, r]; done)); intro K hK)
    | ((with_reducible refine Ord.at_wild ?_); refine Ord.wild_load (ad := ⟨w.heap.size, 0, none⟩) (.agg (legC L)) rfl rfl ?_ ?_; (focus (intro W hW; have r := (hW.blk b1 (fun e => (hcne _ e).1 rfl)).cell; simp [go_sem, r]; done)); intro K hK)
    | ((with_reducible refine Ord.at_wild ?_); refine Ord.wild_load (ad := ⟨gb, go + i * 4, none⟩) (.agg #[.int .i64 d1, .int .i64 d2, .int .i64 d3, .int .i64 d4]) rfl rfl ?_ ?_; (focus (intro W hW; have x1 := hW.cell e1 hgn; have x2 := hW.cell e2 hgn; have x3 := hW.cell e3 hgn; have x4 := hW.cell e4 hgn; simp [go_sem, x1, x2, x3, x4]; done)); intro K hK)
    | ((with_reducible refine Ord.at_wild ?_); refine Ord.wild_idx (.pointer (some ⟨gb, go + i * 4, none⟩)) rfl ?_ ?_; (focus (intro W hW; simp [go_sem, hii]; done)); intro K hK)
    | (go_at_call 80; refine (HL.out _ hWy2.drew).mono ?_; rintro e w5 ⟨rfl, hk5, hl5⟩; have hW5 := hWy2.drew.leaves hk5 hl5; have hH5 : Lets (fun k _ => k = mb ∨ k = w.heap.size + 1) W2 w5 := hH0.trans (hl5.mono fun _ _ e => .inl e); have hL5 := (hL2.drew).trans hl5)
    | (go_at_call 104; refine (HC.out _ hW5).mono ?_; rintro e w6 ⟨rfl, hb6⟩; have hW6 := hW5.below hb6 hmb; have hH6 : Lets (fun k _ => k = mb ∨ k = w.heap.size + 1) W2 w6 := hH5.trans (Lets.of_below hb6); have hL6 := hL5.trans (Lets.of_below hb6 : Lets (fun k _ => k = mb) w5 w6))
    | (go_at_call 103; refine (m_moved v1 v2 cm (by omega) (by omega) (by omega) _).mono ?_; rintro e w7 ⟨rfl, hb7⟩; have hW7 := hW6.below hb7 hmb; have hH7 : Lets (fun k _ => k = mb ∨ k = w.heap.size + 1) W2 w7 := hH6.trans (Lets.of_below hb7); have hL7 := hL6.trans (Lets.of_below hb7 : Lets (fun k _ => k = mb) w6 w7); have b27 : Blk w7 (w.heap.size + 1) #[.int .i64 0, .int .i64 0] 39 := ((Lets.of_below hb7 : Lets (fun _ _ => False) w6 w7).blk ((Lets.of_below hb6 : Lets (fun _ _ => False) w5 w6).blk (hl5.blk b2.drew (by omega)) (fun e => e)) (fun e => e)))
    | (refine wpList_store_blk 39 (.tmp 8) (.tmp 31) agg_span rfl rfl rfl rfl b27 rfl rfl (by simp [Value.oneCell']) ?_; intro w8 h8; have hH8 : Lets (fun k _ => k = mb ∨ k = w.heap.size + 1) W2 w8 := hH7.rowed h8 (.inr rfl))
    | ((with_reducible refine Ord.at_calm ?_); refine Ord.calm_skip rfl ?_ (fun K hK => ?_); (focus (simp [Region.wanted, yielded]; done))) | with_reducible refine Ord.walk_calm rfl rfl (fun K hK => ?_) | ((with_reducible refine Ord.at_wild ?_); refine Ord.wild_fieldAddr rfl rfl (fun W => by simp [go_sem]; rfl) (fun K hK => ?_)) | ((with_reducible refine Ord.at_wild ?_); refine Ord.wild_move rfl rfl (fun K hK => ?_)) | ((with_reducible refine Ord.at_wild ?_); refine Ord.wild_nilCheck rfl rfl (fun K hK => ?_)) | with_reducible refine Ord.walk_eff rfl (by first | (simp; done) | assumption | (go_simp; done) | (repeat (first | assumption | exact Below.refl _ _ | refine Below.drew ?_ | refine Below.alloc ?_ (by first | omega | (simp; done) | (simp; omega)) _ | refine Below.setCell ?_ (by first | omega | (simp; done) | (simp; omega)) _ | refine Below.trans ?_ (Below.mono (by assumption) (by first | omega | (simp; done) | (simp; omega)))))) (fun K hK => ?_) | with_reducible refine Ord.at_fork ?_ ?_ | with_reducible refine Ord.walk_nil ?_ | (with_reducible refine Ord.next_of (by first | (simp; done) | (go_simp; done) | (repeat (first | assumption | exact Below.refl _ _ | refine Below.drew ?_ | refine Below.alloc ?_ (by first | omega | (simp; done) | (simp; omega)) _ | refine Below.setCell ?_ (by first | omega | (simp; done) | (simp; omega)) _ | refine Below.trans ?_ (Below.mono (by assumption) (by first | omega | (simp; done) | (simp; omega)))))) (fun _ => ?_))
    | ((with_reducible refine Ord.at_calm ?_); refine Ord.calm_call rfl (fun W => Try.call47 _ W) (HE.out _ hWy2.drew) (fun K hK => ?_)) | ((with_reducible refine Ord.at_wild ?_); refine Ord.wild_call rfl (fun W => Try.call47 _ W) (fun W hW => HE.out _ hWy2.drew) (fun K hK => ?_)))
  (try simp only [Exit.inBlock, Exit.then])
  have hl8 : Lets (fun k _ => k = w.heap.size + 1) w7 w8 := (Lets.refl _ _).rowed h8 rfl
  refine bodyPost_ret (v := spv (v1 + cm, v2 + cm)) (results_cell_blk rfl _ agg_span rfl h8.blk rfl) rfl ⟨by rw [HS.out], hW7.lets hl8 hmb (fun _ _ e => by omega), hL7.next hl8 (fun i hi hx => by omega)⟩
end Go.Proofs.Yteeinehpneppnaa
set_option linter.unusedVariables false
set_option linter.unusedSimpArgs false
namespace Go.Proofs.Yteeinehpneppnaa
open Go.RowKit Go.Proofs
attribute [local irreducible] Ord.walk
attribute [local go_sem] Oper.semAt_some
set_option maxHeartbeats 40000000 in
set_option maxRecDepth 100000 in
theorem m_shedW {m : Mb} {A : Ma} {pa : Option Addr} {pc wp mb : Nat} {W0 : World} (hv : validM m = true) (hO : Opened W0 wp m A pa pc mb) {L : List Int} (hL : L ∈ prodL m.legs) (i : Nat) (hi : i < m.herds.length) (w : World) (hW : Way W0 mb m w) :
    Calls Try.prog 48 #[.pointer (some ⟨wp, 0, none⟩), .int .i64 (i : Int), .agg (legC L)] w (GivesW W0 mb m (spv (comeS m L i (shedN m))) w) := by
  have hmb := hO.mb_lt
  have hsz := hW.2.size
  have hlen := validM_len hv
  have hst := startN_eq hv hi
  obtain ⟨W2, hW2⟩ : ∃ W2, W2 = (w.alloc (.cells (legC L) 90)).alloc (.cells #[.int .i64 0, .int .i64 0] 39) := ⟨_, rfl⟩
  have hB2 : Below w.heap.size w W2 := by rw [hW2]; (repeat (first | assumption | exact Below.refl _ _ | refine Below.drew ?_ | refine Below.alloc ?_ (by first | omega | (simp; done) | (simp; omega)) _ | refine Below.setCell ?_ (by first | omega | (simp; done) | (simp; omega)) _ | refine Below.trans ?_ (Below.mono (by assumption) (by first | omega | (simp; done) | (simp; omega)))))
  have hs2 : W2.heap.size = w.heap.size + 2 := by rw [hW2]; simp
  have b1 : Blk W2 w.heap.size (legC L) 90 := by rw [hW2]; exact (Blk.new _ _ _).alloc _
  have b2 : Blk W2 (w.heap.size + 1) #[.int .i64 0, .int .i64 0] 39 := by rw [hW2]; exact Blk.new' _ _ _ _ (by simp)
  have hWy2 : Way W0 mb m W2 := hW.below hB2 hmb
  have hbw := (hO.at_ hWy2).blk
  have HC : Hid (∀ W x, x = ((shedN m : Nat) : Int) → Way W0 mb m W → Calls Try.prog 77 #[.pointer (some ⟨wp, 0, none⟩), .int .i64 (i : Int), .int .i64 x, .agg (legC L)] W (GivesW W0 mb m (spv (comeS m L i (shedN m))) W)) := fun W x hx hw => by
    subst hx; exact m_comesW hv hO hL i (shedN m) hi (by unfold shedN; omega) (by unfold shedN; omega) W hw
  have hsn : ((shedN m : Nat) : Int) = (m.places.length : Int) - 1 := by unfold shedN; omega
  have hHS := Lib.hid hsn
  generalize shedN m = sh at *
  generalize comeS m L i sh = cs at *
  have rw2 := hbw.cell
  have r1 := b1.cell
  have hL2 : Lets (fun k _ => k = mb) w W2 := Lets.of_below hB2
  obtain ⟨c1, c2⟩ := cs
  have hpl : (m.places.length : Int) ≤ 6 := by omega
  have hpl2 : 2 ≤ (m.places.length : Int) := by omega
  have b1d := b1.drew
  clear hsn
  go_enter Try.func48, Try.ntmps48
  go_upto_region 1 with fail
  rw [← hW2]
  clear hW2
  go_wp2_with fail
  refine Ord.wp_region [(0, 0), (1, 0), (2, 0), (3, 0), (4, 0), (5, 0), (6, 0), (7, 0), (8, 0), (9, 0), (10, 2), (11, 2)] (fun _ => True) (by kernel_rfl) (by kernel_rfl) (fun c a d v w h => by cases d <;> exact h) trivial ?_
  go_wp2_with (first
    | (refine wpList_load_blk 90 (.tmp 5) agg_legs rfl rfl rfl b1d rfl ?_)
    | (go_at_call 77; refine (HC.out _ _ (by rw [hHS.out]) hWy2.drew).mono ?_; rintro e w6 ⟨rfl, hW6, hl6⟩; have b26 := hl6.blk b2.drew (by omega))
    | (refine wpList_store_blk 39 (.tmp 6) (.tmp 17) agg_span rfl rfl rfl rfl b26 rfl rfl (by simp [Value.oneCell']) ?_; intro w8 h8)
    | ((with_reducible refine Ord.at_calm ?_); refine Ord.calm_skip rfl ?_ (fun K hK => ?_); (focus (simp [Region.wanted, yielded]; done))) | with_reducible refine Ord.walk_calm rfl rfl (fun K hK => ?_) | ((with_reducible refine Ord.at_wild ?_); refine Ord.wild_fieldAddr rfl rfl (fun W => by simp [go_sem]; rfl) (fun K hK => ?_)) | ((with_reducible refine Ord.at_wild ?_); refine Ord.wild_move rfl rfl (fun K hK => ?_)) | ((with_reducible refine Ord.at_wild ?_); refine Ord.wild_nilCheck rfl rfl (fun K hK => ?_)) | with_reducible refine Ord.walk_eff rfl (by first | (simp; done) | assumption | (go_simp; done) | (repeat (first | assumption | exact Below.refl _ _ | refine Below.drew ?_ | refine Below.alloc ?_ (by first | omega | (simp; done) | (simp; omega)) _ | refine Below.setCell ?_ (by first | omega | (simp; done) | (simp; omega)) _ | refine Below.trans ?_ (Below.mono (by assumption) (by first | omega | (simp; done) | (simp; omega)))))) (fun K hK => ?_) | with_reducible refine Ord.at_fork ?_ ?_ | with_reducible refine Ord.walk_nil ?_ | (with_reducible refine Ord.next_of (by first | (simp; done) | (go_simp; done) | (repeat (first | assumption | exact Below.refl _ _ | refine Below.drew ?_ | refine Below.alloc ?_ (by first | omega | (simp; done) | (simp; omega)) _ | refine Below.setCell ?_ (by first | omega | (simp; done) | (simp; omega)) _ | refine Below.trans ?_ (Below.mono (by assumption) (by first | omega | (simp; done) | (simp; omega)))))) (fun _ => ?_)))
  (try simp only [Exit.inBlock, Exit.then])
  have hl8 : Lets (fun k _ => k = w.heap.size + 1) w6 w8 := (Lets.refl _ _).rowed h8 rfl
  refine bodyPost_ret (v := spv (c1, c2)) (results_cell_blk rfl _ agg_span rfl h8.blk rfl) rfl ⟨rfl, hW6.lets hl8 hmb (fun _ _ e => by omega), (hL2.drew.trans hl6).next hl8 (fun i hi hx => by omega)⟩
/-- What a range over told keeps in hull. -/
structure HullAt (W0 : World) (m : Mb) (mb n : Nat) (w : World) (Cap : World → Prop) (mv : Value) (xs : List (Int × Int)) (k : Nat) (A : World) : Prop where
  meas : Blk A n #[mv] 102
  res : Blk A (n + 1) #[.int .i64 0, .int .i64 0] 39
  row : ∃ v, Blk A (n + 2) #[v] 23 ∧ A.ownsRow (n + 12) 39 2 v k ((xs.take k).flatMap spc)
  cap : Cap A
  lets : Lets (fun k _ => k = mb) w A
theorem own_lets {X : Nat → Option Obj → Prop} {w w' : World} {base n s : Nat} {e : TypeId} {v : Value} {xs : List Value} (h : w.ownsRow base e s v n xs) (hl : Lets X w w') (hx : ∀ k o, base ≤ k → ¬ X k o) : w'.ownsRow base e s v n xs := by
  obtain ⟨hl0, h | ⟨g, cap, cur, hv, hg, hh, hn, hc, hs, ht⟩⟩ := h
  · exact ⟨hl0, .inl h⟩
  · exact ⟨hl0, .inr ⟨g, cap, cur, hv, hg, (hl.block g (lt_of_block hh) (hx _ _ hg)).trans hh, hn, hc, hs, ht⟩⟩
theorem HullAt.lets_ {X : Nat → Option Obj → Prop} {W0 : World} {m : Mb} {mb n : Nat} {w : World} {Cap : World → Prop} {mv : Value} {xs : List (Int × Int)} {k : Nat} {A B : World} (h : HullAt W0 m mb n w Cap mv xs k A) (hl : Lets X A B) (hn : n = w.heap.size) (hcap : ∀ A B, Cap A → Lets (fun k _ => k = mb ∨ n ≤ k) A B → Cap B) (hmb : mb < n)
    (hx : ∀ k o, X k o → k = mb ∨ (n + 3 ≤ k ∧ k < n + 12)) : HullAt W0 m mb n w Cap mv xs k B := by
  have h0 : ∀ j o, j = n ∨ j = n + 1 ∨ j = n + 2 → ¬ X j o := fun j o hj e => by have := hx _ _ e; omega
  obtain ⟨v, r1, r2⟩ := h.row
  exact ⟨hl.blk h.meas (h0 _ _ (.inl rfl)), hl.blk h.res (h0 _ _ (.inr (.inl rfl))), ⟨v, hl.blk r1 (h0 _ _ (.inr (.inr rfl))), own_lets r2 hl (fun k o hk e => by have := hx _ _ e; omega)⟩, hcap _ _ h.cap (hl.mono fun k _ e => by have := hx _ _ e; omega), h.lets.next hl (fun i hi hn' e => by have := hx _ _ e; omega)⟩
set_option maxHeartbeats 40000000 in
set_option maxRecDepth 100000 in
theorem m_hull {m : Mb} {A : Ma} {pa : Option Addr} {pc wp mb : Nat} {W0 : World} (hv : validM m = true) (hO : Opened W0 wp m A pa pc mb) (set : Nat) (hset : set < 1000) (tb : Nat) (w : World) (hW : Way W0 mb m w) (hT : ToldAt w tb wp set) (htb : W0.heap.size ≤ tb)
    (g : FuncId) (cap : Array Value) (f : List Int → Int × Int) (Cap : World → Prop) (hc0 : Cap w) (hcap : ∀ A B, Cap A → Lets (fun k _ => k = mb ∨ w.heap.size ≤ k) A B → Cap B)
    (eg : ∀ args w, (callFunc g args).run Try.prog w = .ok (.enter g args) w)
    (HF : ∀ L ∈ toldL m set, ∀ W, Way W0 mb m W → Cap W → Calls Try.prog g (#[.agg (legC L)] ++ cap) W (GivesW W0 mb m (spv (f L)) W)) :
    Calls Try.prog 56 #[toldF tb, .agg #[.func (.func g) #[] cap]] w (GivesW W0 mb m (spv (joinL ((toldL m set).map f))) w) := by
  have hmb := hO.mb_lt
  have hsz := hW.2.size
  obtain ⟨i0, hi0, hz0, hz1, hz2⟩ := info_of Try.info39
  have hlen : (toldL m set).length ≤ 243 := Nat.le_trans (List.length_filter_le _ _) (legs_len hv)
  have htl := hT.b1.lt
  refine callsIn_wide.1 (callsIn_of_wp_marks (F := Fence.wide) (n := 0) Try.func56 rfl trivial (wpIn_wide.2 ?_) rfl)
  simp only [Try.ntmps56, List.size_toArray, List.length_cons, List.length_nil, Nat.reduceAdd, Nat.reduceSub, Array.replicate_succ, Array.replicate_zero, List.push_toArray, List.append_toArray, List.nil_append, List.cons_append]
  unfold toldF
  go_wp2_with fail
  obtain ⟨w2, hw2⟩ : ∃ w2, ((w.alloc (.cells #[.func (.func g) #[] cap] 102)).alloc (.cells #[.int .i64 0, .int .i64 0] 39)).alloc (.cells #[.slice none 0 0] 23) = w2 := ⟨_, rfl⟩
  rw [hw2]
  have hB2 : Below w.heap.size w w2 := by rw [← hw2]; (repeat (first | assumption | exact Below.refl _ _ | refine Below.drew ?_ | refine Below.alloc ?_ (by first | omega | (simp; done) | (simp; omega)) _ | refine Below.setCell ?_ (by first | omega | (simp; done) | (simp; omega)) _ | refine Below.trans ?_ (Below.mono (by assumption) (by first | omega | (simp; done) | (simp; omega)))))
  have hs2 : w2.heap.size = w.heap.size + 3 := by rw [← hw2]; simp
  have b0 : Blk w2 w.heap.size #[.func (.func g) #[] cap] 102 := by rw [← hw2]; exact ((Blk.new _ _ _).alloc _).alloc _
  have b1 : Blk w2 (w.heap.size + 1) #[.int .i64 0, .int .i64 0] 39 := by rw [← hw2]; exact (Blk.new' _ _ _ _ (by simp)).alloc _
  have b2 : Blk w2 (w.heap.size + 2) #[.slice none 0 0] 23 := by rw [← hw2]; exact Blk.new' _ _ _ _ (by simp)
  have hW2 : Way W0 mb m w2 := hW.below hB2 hmb
  have hmbn : mb < w.heap.size := by omega
  have hT2 : ToldAt w2 tb wp set := hT.lets (X := fun _ _ => False) (Lets.of_below hB2) (fun _ e => e) (fun _ e => e)
  have h0 : HullAt W0 m mb w.heap.size w Cap (.func (.func g) #[] cap) ((toldL m set).map f) 0 w2 := ⟨b0, b1, ⟨_, b2, ⟨rfl, .inl ⟨rfl, rfl⟩⟩⟩, hcap _ _ hc0 (Lets.of_below hB2), Lets.of_below hB2⟩
  clear hw2 hB2 b0 b1 b2 hT hW
  generalize hN : w.heap.size = N at *
  have HN := Lib.hid hN
  have hN' := Lib.hid hN.symm
  clear hN
  have HCap := Lib.hid hcap
  clear hcap
  refine (wpIn_wide (n := 0)).1 (wp_range (encs := fun L => #[.agg (legC L)]) (xs := toldL m set) (XI := fun k _ => k = mb ∨ (N + 5 ≤ k ∧ k < N + 12)) (XB := fun k _ => k = mb ∨ k = N + 2 ∨ N + 12 ≤ k) (Mid := fun W' => Way W0 mb m W' ∧ N + 12 ≤ W'.heap.size)
    (fun k A => HullAt W0 m mb N w Cap (.func (.func g) #[] cap) ((toldL m set).map f) k A)
    (fun c A => False)
    rfl Try.call94 (fun _ => rfl)
    (fun W1 hb1 hs1 => ?seq)
    (fun j o h1 h2 => by omega) (fun j o h1 h2 => by omega)
    (fun k A B h hl => h.lets_ hl hN'.out HCap.out hmbn (fun k _ e => by omega))
    (fun c A B h hl => h)
    (fun k A B h hl => h.lets_ hl hN'.out HCap.out hmbn (fun k _ e => by omega))
    (fun c A B h hl => h)
    (fun A B h hl => ⟨h.1.lets hl hmb (fun _ _ e => by omega), Nat.le_trans h.2 hl.size⟩) h0 ?round ?done ?stop)
  case seq =>
    have hs4 : W1.heap.size = N + 5 := by omega
    have hWy1 : Way W0 mb m W1 := hW2.below hb1 hmb
    have := told_seq hv hO set hset tb (w2.heap.size + 1) W1 hWy1 ⟨hT2.b0.below hb1 hT2.b0.lt, hT2.b1.below hb1 hT2.b1.lt⟩ htb (fun j o => (j = mb ∨ j = N + 2 ∨ N + 12 ≤ j) ∨ j = w2.heap.size + 1) (fun k o e => by omega)
    rw [hs4] at this
    exact this
  case round =>
    intro k hk A' hI hM hsz hrec
    have hLm : (toldL m set)[k] ∈ toldL m set := List.getElem_mem hk
    have HFk := Lib.hid (HF _ hLm)
    have hkm : k < ((toldL m set).map f).length := by simpa using hk
    have htk : ((toldL m set).map f).take (k + 1) = ((toldL m set).map f).take k ++ [f (toldL m set)[k]] := by
      rw [List.take_succ_eq_append_getElem hkm, List.getElem_map]
    have HTK := Lib.hid htk
    unfold RoundOk
    clear hI hM htk hLm
    generalize (toldL m set)[k] = L at *
    gi_wp2_with fail
    refine ⟨(Lets.refl _ _).alloc _, fun W₂ hl2 hs3 hI ⟨hWy, hbig⟩ => ?_⟩
    have b6 : Blk W₂ A'.heap.size (legC L) 90 := hl2.blk (Blk.new _ _ _) (by omega)
    have hsz2 : W₂.heap.size = A'.heap.size + 1 := by rw [hs3]; simp
    clear hl2 hs3 h0
    obtain ⟨bm, br, ⟨v, bv, hown⟩, hcp, hlt⟩ := hI
    have r0 := bm.cell
    have rv := bv.cell
    have r6 := b6.cell
    generalize hA' : A'.heap.size = M at *
    have hM13 : N + 5 ≤ M := by omega
    gi_wp2_with fail
    have hH0 : Lets (fun k _ => k = mb) W₂ W₂.drew := (Lets.refl _ _).drew
    refine Ord.Two.wpIn_region (fun ⟨_, _, h⟩ => h) [(0, 1), (1, 0), (2, 0), (3, 0), (4, 2), (5, 2)] [(6, 2), (7, 2)] (fun W => Lets (fun k _ => k = mb) W₂ W) (by kernel_rfl) (by kernel_rfl) (by kernel_rfl) (fun c a d v w h => by cases d <;> exact h) hH0 ?_
    have hmN : ¬ (N + 2 = mb) := by omega
    have hcd := HCap.out _ _ hcp (Lets.drew (Lets.refl _ _))
    have HC := Lib.hid (HFk.out W₂.drew hWy.drew hcd)
    go_wp2_with (first
      | (with_reducible refine Ord.Two.walk_next ?_)
      | ((with_reducible refine Ord.at_wild ?_); refine Ord.wild_load (ad := ⟨N + 2, 0, none⟩) (v) rfl rfl ?_ ?_; (focus (intro W hW; have r := (hW.blk bv hmN).cell; simp [go_sem, r]; done)); intro K hK)
      | ((with_reducible refine Ord.at_calm ?_); refine Ord.calm_skip rfl ?_ (fun K hK => ?_); (focus (simp [Region.wanted, yielded]; done))) | with_reducible refine Ord.walk_calm rfl rfl (fun K hK => ?_) | ((with_reducible refine Ord.at_wild ?_); refine Ord.wild_fieldAddr rfl rfl (fun W => by simp [go_sem]; rfl) (fun K hK => ?_)) | ((with_reducible refine Ord.at_wild ?_); refine Ord.wild_move rfl rfl (fun K hK => ?_)) | ((with_reducible refine Ord.at_wild ?_); refine Ord.wild_nilCheck rfl rfl (fun K hK => ?_)) | with_reducible refine Ord.walk_eff rfl (by first | (simp; done) | assumption | (go_simp; done) | (repeat (first | assumption | exact Below.refl _ _ | refine Below.drew ?_ | refine Below.alloc ?_ (by first | omega | (simp; done) | (simp; omega)) _ | refine Below.setCell ?_ (by first | omega | (simp; done) | (simp; omega)) _ | refine Below.trans ?_ (Below.mono (by assumption) (by first | omega | (simp; done) | (simp; omega)))))) (fun K hK => ?_) | with_reducible refine Ord.at_fork ?_ ?_ | with_reducible refine Ord.walk_nil ?_ | (with_reducible refine Ord.next_of (by first | (simp; done) | (go_simp; done) | (repeat (first | assumption | exact Below.refl _ _ | refine Below.drew ?_ | refine Below.alloc ?_ (by first | omega | (simp; done) | (simp; omega)) _ | refine Below.setCell ?_ (by first | omega | (simp; done) | (simp; omega)) _ | refine Below.trans ?_ (Below.mono (by assumption) (by first | omega | (simp; done) | (simp; omega)))))) (fun _ => ?_)))
    refine HC.out.mono ?_
    rintro e w5 ⟨rfl, hW5, hl5⟩
    have hs5 : W₂.heap.size ≤ w5.heap.size := hl5.size
    have bv5 : Blk w5 (N + 2) #[v] 23 := hl5.blk bv.drew hmN
    have hown5 : w5.ownsRow (N + 12) 39 2 v k ((((toldL m set).map f).take k).flatMap spc) := own_lets (World.ownsRow.drew hown) hl5 (fun j o h e => by omega)
    have hl25 : Lets (fun k _ => k = mb) W₂ w5 := hH0.trans hl5
    have hk243 : k ≤ 243 := by omega
    obtain ⟨a5, c5, rfl⟩ := own_any hown5
    generalize hfl : f L = fl at *
    obtain ⟨f1, f2⟩ := fl
    have hl26 := hl25.alloc (.cells #[.int .i64 f1, .int .i64 f2] 39)
    clear hl5 HC hown r0 rv r6
    go_wp2_with (first
      | (with_reducible refine Ord.Two.walk_next ?_)
      | (at_builtin; refine at_stop ?_)
      | ((with_reducible refine Ord.at_calm ?_); refine Ord.calm_skip rfl ?_ (fun K hK => ?_); (focus (simp [Region.wanted, yielded]; done))) | with_reducible refine Ord.walk_calm rfl rfl (fun K hK => ?_) | ((with_reducible refine Ord.at_wild ?_); refine Ord.wild_fieldAddr rfl rfl (fun W => by simp [go_sem]; rfl) (fun K hK => ?_)) | ((with_reducible refine Ord.at_wild ?_); refine Ord.wild_move rfl rfl (fun K hK => ?_)) | ((with_reducible refine Ord.at_wild ?_); refine Ord.wild_nilCheck rfl rfl (fun K hK => ?_)) | with_reducible refine Ord.walk_eff rfl (by first | (simp; done) | assumption | (go_simp; done) | (repeat (first | assumption | exact Below.refl _ _ | refine Below.drew ?_ | refine Below.alloc ?_ (by first | omega | (simp; done) | (simp; omega)) _ | refine Below.setCell ?_ (by first | omega | (simp; done) | (simp; omega)) _ | refine Below.trans ?_ (Below.mono (by assumption) (by first | omega | (simp; done) | (simp; omega)))))) (fun K hK => ?_) | with_reducible refine Ord.at_fork ?_ ?_ | with_reducible refine Ord.walk_nil ?_ | (with_reducible refine Ord.next_of (by first | (simp; done) | (go_simp; done) | (repeat (first | assumption | exact Below.refl _ _ | refine Below.drew ?_ | refine Below.alloc ?_ (by first | omega | (simp; done) | (simp; omega)) _ | refine Below.setCell ?_ (by first | omega | (simp; done) | (simp; omega)) _ | refine Below.trans ?_ (Below.mono (by assumption) (by first | omega | (simp; done) | (simp; omega)))))) (fun _ => ?_)))
    unfold Stop
    refine wpList_append_own _ rfl (.tmp 9) (.tmp 14) 23 rfl (N + 12) 39 i0 (.agg #[.int .i64 0, .int .i64 0]) 2 16 Try.underlying23 hi0 hz0 hz1 hz2 rfl (by decide) (.slice a5 k c5) k ((((toldL m set).map f).take k).flatMap spc) rfl (World.ownsRow.alloc hown5 _) ⟨w5.heap.size, 0, none⟩ 1 1 (spc (f1, f2)) rfl rfl (news_blk (A := #[.int .i64 f1, .int .i64 f2]) (Blk.new _ _ _)) (by simp [spc, Value.oneCell']) (by unfold maxLen; omega) (by omega) (by simp; omega) ?_
    intro v6 w6 hown6 hgrow6 _
    have hg5 := fun g e => (hown5.lt g e).1
    have hl6 : Lets (fun j _ => N + 12 ≤ j) w5 w6 := ((Lets.refl _ _).alloc _).grown hgrow6 (fun j e hj => hg5 j e)
    obtain ⟨a6, c6, rfl⟩ := own_any hown6
    have bv6 := hl6.blk bv5 (by omega)
    have r6 := bv6.cell
    have f6 := bv6.free
    have lt6 := bv6.lt
    clear hgrow6 hown5 hg5
    go_wp2_with (first
      | (with_reducible refine Ord.Two.walk_next ?_)
      | ((with_reducible refine Ord.at_calm ?_); refine Ord.calm_skip rfl ?_ (fun K hK => ?_); (focus (simp [Region.wanted, yielded]; done))) | with_reducible refine Ord.walk_calm rfl rfl (fun K hK => ?_) | ((with_reducible refine Ord.at_wild ?_); refine Ord.wild_fieldAddr rfl rfl (fun W => by simp [go_sem]; rfl) (fun K hK => ?_)) | ((with_reducible refine Ord.at_wild ?_); refine Ord.wild_move rfl rfl (fun K hK => ?_)) | ((with_reducible refine Ord.at_wild ?_); refine Ord.wild_nilCheck rfl rfl (fun K hK => ?_)) | with_reducible refine Ord.walk_eff rfl (by first | (simp; done) | assumption | (go_simp; done) | (repeat (first | assumption | exact Below.refl _ _ | refine Below.drew ?_ | refine Below.alloc ?_ (by first | omega | (simp; done) | (simp; omega)) _ | refine Below.setCell ?_ (by first | omega | (simp; done) | (simp; omega)) _ | refine Below.trans ?_ (Below.mono (by assumption) (by first | omega | (simp; done) | (simp; omega)))))) (fun K hK => ?_) | with_reducible refine Ord.at_fork ?_ ?_ | with_reducible refine Ord.walk_nil ?_ | (with_reducible refine Ord.next_of (by first | (simp; done) | (go_simp; done) | (repeat (first | assumption | exact Below.refl _ _ | refine Below.drew ?_ | refine Below.alloc ?_ (by first | omega | (simp; done) | (simp; omega)) _ | refine Below.setCell ?_ (by first | omega | (simp; done) | (simp; omega)) _ | refine Below.trans ?_ (Below.mono (by assumption) (by first | omega | (simp; done) | (simp; omega)))))) (fun _ => ?_)))
    have hlf : Lets (fun j _ => j = N + 2 ∨ N + 12 ≤ j) w5 (w6.setCell ⟨N + 2, 0, none⟩ (.slice a6 (k + 1) c6)) := (hl6.mono fun _ _ e => .inr e).setCell (.inl rfl) _
    have hlF : Lets (fun j _ => j = mb ∨ j = N + 2 ∨ N + 12 ≤ j) W₂ (w6.setCell ⟨N + 2, 0, none⟩ (.slice a6 (k + 1) c6)) := (hl25.mono fun _ _ e => .inl e).trans (hlf.mono fun _ _ e => .inr e)
    refine ⟨hlF, ⟨hW5.lets hlf hmb (fun j _ e => by omega), Nat.le_trans hbig hlF.size⟩, ⟨hlF.blk bm (by omega), hlF.blk br (by omega), ⟨_, bv6.set 0 _, ?_⟩, HCap.out _ _ hcp (hlF.mono fun j _ e => by omega), hlt.next hlF (fun i hi hn e => by have := HN.out; omega)⟩⟩
    have := own_lets (X := fun j _ => j = N + 2) hown6 ((Lets.refl _ _).setCell (p := ⟨N + 2, 0, none⟩) rfl (.slice a6 (k + 1) c6)) (fun j o h e => by omega)
    rw [HTK.out, List.flatMap_append]
    simpa using this
  case done =>
    intro W hI hM hD
    have hI2 := hI
    clear hI
    obtain ⟨bm, br, ⟨v, bv, hown⟩, hcp, hlt⟩ := hI2
    have hlm : ((toldL m set).map f).length = (toldL m set).length := by simp
    have hown2 : W.ownsRow (N + 12) 39 2 v ((toldL m set).map f).length (((toldL m set).map f).flatMap spc) := by
      rw [List.take_of_length_le (by omega)] at hown; rw [hlm]; exact hown
    obtain ⟨a, c, rfl, hsp, hspb⟩ := own_spans hown2
    have hJ := Lib.hid (m_joined _ a c W (by omega) hsp)
    generalize hjl : joinL ((toldL m set).map f) = J at *
    have HJL := Lib.hid hjl
    obtain ⟨j1, j2⟩ := J
    have rv := bv.cell
    have hle := br.lt
    have hmN : N + 12 ≤ W.heap.size := hM.2
    clear hown hown2 hsp hspb hjl hlm HF hcp
    generalize ((toldL m set).map f).length = nl at *
    simp only [Exit.inBlock, Exit.then]
    go_wp2_with (first
      | (go_at_call 97; refine at_stop ?_))
    unfold Stop
    refine hJ.out.mono ?_
    rintro e w6 ⟨rfl, hb6⟩
    have br6 := br.below hb6 hle
    have hs6 := hb6.size
    go_wp2_with (first
      | (refine wpList_store_blk 39 (.tmp 4) (.tmp 17) agg_span rfl rfl rfl rfl br6 rfl rfl (by simp [Value.oneCell']) ?_; intro w8 h8))
    have hl80 : Lets (fun j _ => j = N + 1) W w8 := (Lets.of_below hb6).rowed h8 rfl
    have hl8 : Lets (fun j _ => j = N + 1 ∨ j = N + 3) W w8 := hl80.mono fun _ _ e => .inl e
    have hD8 : w8.heap[w2.heap.size]? = some (.deferred (some [])) := (hl80.block _ (by omega) (by omega)).trans hD
    rw [hs2] at hD8
    refine post_ret1 (v := spv (j1, j2)) rfl hD8 fun w' hl hs => ⟨?_, rfl, hM.1.lets (hl8.trans (hl.mono fun _ _ e => .inr e)) hmb (fun _ _ e => by omega), hlt.next (hl8.trans (hl.mono fun _ _ e => .inr e)) (fun i hi hx => by have := HN.out; omega)⟩
    exact results_cell_blk rfl _ agg_span rfl (blk_lets h8.blk hl (fun _ => by omega)) rfl
  case stop =>
    intro c W h
    exact h.elim
end Go.Proofs.Yteeinehpneppnaa
