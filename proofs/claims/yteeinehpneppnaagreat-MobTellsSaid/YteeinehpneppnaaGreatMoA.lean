/- Package mob: contracts of the small functions; a way that is looked at. -/
import Derived.Test.YteeinehpneppnaaGreatMbJ
import Derived.Test.YteeinehpneppnaaGreatRng
import Derived.Test.YteeinehpneppnaaGreatOrdT
set_option linter.unusedVariables false
set_option linter.unusedSimpArgs false
namespace Go.Proofs.YteeinehpneppnaaGreat
open Go.RowKit Go.Proofs
attribute [local irreducible] Ord.walk
theorem m_within (n lo hi : Int) (w : World) :
    Calls Tryz.prog 75 #[.int .i64 n, .int .i64 lo, .int .i64 hi] w (Same (.bool (inB n lo hi)) w) := by
  go_enter Tryz.func75, Tryz.ntmps75
  go_wp2
  all_goals go_ret
  all_goals (refine ⟨ret_bool ?_, rfl⟩; simp [inB]; try omega)
/-- The value that a panic of this error bears. -/
def stopV (e : Int) : Value := .iface 109 (.agg #[.int .i64 e])
/-- It panics with this error; nothing that was there has turned. -/
def Stops (e : Int) (w : World) (x : Ending) (w' : World) : Prop := x = .panicked [{ v := stopV e, recovered := false }] ∧ Below w.heap.size w w'
def StopsS (e : Int) (w : World) (x : Ending) (w' : World) : Prop := x = .panicked [{ v := stopV e, recovered := false }] ∧ w = w'
theorem m_must_yes (e : Int) (w : World) :
    Calls Tryz.prog 73 #[.bool true, .int .i64 e] w (Same (.tuple #[]) w) := by
  go_enter Tryz.func73, Tryz.ntmps73
  go_wp2
  go_end0
  exact ⟨rfl, rfl⟩
theorem m_must_no (e : Int) (w : World) :
    Calls Tryz.prog 73 #[.bool false, .int .i64 e] w (StopsS e w) := by
  go_enter Tryz.func73, Tryz.ntmps73
  go_wp2
  exact ⟨rfl, rfl, rfl⟩
theorem m_always (v : Value) (w : World) :
    Calls Tryz.prog 66 #[v] w (Same (.bool true) w) := by
  go_enter Tryz.func66, Tryz.ntmps66
  go_wp2
  go_ret
  exact ⟨rfl, rfl⟩
/-- The grade of what is so in each truth, or in some. -/
def grB (each some : Bool) : Int := if each then 2 else if some then 1 else 0
theorem m_graded (x y : Bool) (w : World) :
    Calls Tryz.prog 55 #[.bool x, .bool y] w (Same (.int .i64 (grB x y)) w) := by
  cases x <;> cases y
  all_goals
    go_enter Tryz.func55, Tryz.ntmps55
    go_wp2
    go_ret
    exact ⟨rfl, rfl⟩
theorem m_isDay (n : Int) (w : World) : Calls Tryz.prog 41 #[.int .i64 n] w (Same (.bool (inB n 0 100)) w) := by
  go_enter Tryz.func41, Tryz.ntmps41
  go_wp2_with (go_at_call 75; refine (m_within _ _ _ _).mono ?_; rintro e w' ⟨rfl, rfl⟩)
  go_ret
  exact ⟨rfl, rfl⟩
theorem m_isSpan (lo hi low high much : Int) (h1 : -1000 ≤ low) (h2 : high ≤ 1000) (w : World) :
    Calls Tryz.prog 74 #[.agg #[.int .i64 lo, .int .i64 hi], .int .i64 low, .int .i64 high, .int .i64 much] w (Gives (.bool (spanM lo hi low high much)) w) := by
  go_enter Tryz.func74, Tryz.ntmps74
  go_wp2
  all_goals go_ret
  all_goals (refine ⟨ret_bool ?_, (Below.refl _ _).alloc (Nat.le_refl _) _⟩; simp [spanM, *]; try omega)
theorem agg_span : AggTy Tryz.prog 31 2 := ⟨_, Tryz.underlying31, rfl, by kernel_rfl⟩
abbrev spv (s : Int × Int) : Value := .agg #[.int .i64 s.1, .int .i64 s.2]
theorem m_moved (lo hi n : Int) (h1 : -1000000 ≤ lo ∧ lo ≤ 1000000) (h2 : -1000000 ≤ hi ∧ hi ≤ 1000000) (h3 : -1000000 ≤ n ∧ n ≤ 1000000) (w : World) :
    Calls Tryz.prog 79 #[spv (lo, hi), .int .i64 n] w (Gives (spv (lo + n, hi + n)) w) := by
  unfold spv
  go_enter Tryz.func79, Tryz.ntmps79
  go_wp2_with (refine wpList_store_blk 31 (.tmp 4) (.tmp 13) agg_span rfl rfl rfl rfl (Blk.new' _ _ _ _ (by simp)) rfl rfl (by simp [Value.oneCell']) ?_; intro w2 h2)
  (try simp only [Exit.inBlock, Exit.then])
  refine bodyPost_ret (v := .agg #[.int .i64 (lo + n), .int .i64 (hi + n)]) (results_cell_blk rfl _ agg_span rfl h2.blk rfl) rfl ⟨rfl, ?_⟩
  exact h2.below (((Below.refl _ _).alloc (Nat.le_refl _) _).alloc (by simp) _) (by omega)
/-! Places. -/
def spotV (p : Bool × Int) : Value := if p.1 then .iface 116 (.agg #[.int .i64 p.2]) else .iface 112 (.agg #[])
theorem m_bare_on (d : Int) (w : World) : Calls Tryz.prog 118 #[.agg #[], .int .i64 d] w (Gives (.int .i64 d) w) := by
  go_enter Tryz.func118, Tryz.ntmps118
  go_wp2
  go_ret
  exact ⟨rfl, by (repeat (first | assumption | exact Below.refl _ _ | refine Below.drew ?_ | refine Below.alloc ?_ (by first | omega | (simp; done) | (simp; omega)) _ | refine Below.setCell ?_ (by first | omega | (simp; done) | (simp; omega)) _ | refine Below.trans ?_ (Below.mono (by assumption) (by first | omega | (simp; done) | (simp; omega)))))⟩
theorem m_bare_drinks (w : World) : Calls Tryz.prog 117 #[.agg #[]] w (Gives (.bool false) w) := by
  go_enter Tryz.func117, Tryz.ntmps117
  go_wp2
  go_ret
  exact ⟨rfl, by (repeat (first | assumption | exact Below.refl _ _ | refine Below.drew ?_ | refine Below.alloc ?_ (by first | omega | (simp; done) | (simp; omega)) _ | refine Below.setCell ?_ (by first | omega | (simp; done) | (simp; omega)) _ | refine Below.trans ?_ (Below.mono (by assumption) (by first | omega | (simp; done) | (simp; omega)))))⟩
theorem m_pool_drinks (r : Int) (w : World) : Calls Tryz.prog 119 #[.agg #[.int .i64 r]] w (Gives (.bool true) w) := by
  go_enter Tryz.func119, Tryz.ntmps119
  go_wp2
  go_ret
  exact ⟨rfl, by (repeat (first | assumption | exact Below.refl _ _ | refine Below.drew ?_ | refine Below.alloc ?_ (by first | omega | (simp; done) | (simp; omega)) _ | refine Below.setCell ?_ (by first | omega | (simp; done) | (simp; omega)) _ | refine Below.trans ?_ (Below.mono (by assumption) (by first | omega | (simp; done) | (simp; omega)))))⟩
theorem Tryz.byteOfCell_pool : byteOfCell Tryz.prog Tryz.prog.depth 116 0 = some 0 := by kernel_rfl
theorem Tryz.cellsOf_pool : Tryz.prog.cellsOf 116 = 1 := by kernel_rfl
/-- The address of the part of size zero. -/
theorem part_pool (W : World) (b : Nat) (r : Value) (h : Blk W b #[r] 116) : (partAt ⟨b, 0, none⟩ 0 0).run Tryz.prog W = .ok ⟨b, 0, none⟩ W := by
  have hh : W.heap[b]? = some (.cells #[r] 116 (0, 0)) := h
  have hs : W.shape? b = some (116, 1) := by simp [World.shape?, hh]
  simp [partAt, byteOf, noView, viewAt, Sem.run_bind, Result.andThen, Sem.run, shape, hs, go_sem, Tryz.byteOfCell_pool, Tryz.cellsOf_pool, program]
theorem m_pool_on (r d : Int) (hr : 0 ≤ r ∧ r ≤ 1000) (hd : -1000000 ≤ d ∧ d ≤ 1000000) (w : World) : Calls Tryz.prog 120 #[.agg #[.int .i64 r], .int .i64 d] w (Gives (.int .i64 (d + r)) w) := by
  go_enter Tryz.func120, Tryz.ntmps120
  have b1 := Blk.new w #[.int .i64 r] 116
  have r1 := b1.cell
  have hp := part_pool _ _ _ b1.drew
  go_wp2_with fail
  refine Ord.wp_region [(0, 0), (1, 0), (2, 0), (4, 1), (5, 1), (3, 2), (6, 0), (7, 0)] (fun W' => Below (w.heap.size + 1) (w.alloc (.cells #[.int .i64 r] 116)) W') (by kernel_rfl) (by kernel_rfl) (fun c a d v w h => by cases d <;> exact h) (Below.refl _ _).drew ?_
  go_wp2_with (first
    | (go_at_call 118; refine (m_bare_on _ _).mono ?_; rintro e w2 ⟨rfl, hb2⟩)
    | ((with_reducible refine Ord.at_wild ?_); refine Ord.wild_load (ad := ⟨w.heap.size, 0, none⟩) (.int .i64 r) rfl rfl ?_ ?_; (focus (intro W hW; obtain ⟨cW, _, zW⟩ := below_rules hW rfl; simp [go_sem, cW, ↓IntWalk.iteOmega, r1]; done)); intro K hK)
    | ((with_reducible refine Ord.at_calm ?_); refine Ord.calm_skip rfl ?_ (fun K hK => ?_); (focus (simp [Region.wanted, yielded]; done))) | with_reducible refine Ord.walk_calm rfl rfl (fun K hK => ?_) | ((with_reducible refine Ord.at_wild ?_); refine Ord.wild_fieldAddr rfl rfl (fun W => by simp [go_sem]; rfl) (fun K hK => ?_)) | ((with_reducible refine Ord.at_wild ?_); refine Ord.wild_move rfl rfl (fun K hK => ?_)) | ((with_reducible refine Ord.at_wild ?_); refine Ord.wild_nilCheck rfl rfl (fun K hK => ?_)) | with_reducible refine Ord.walk_eff rfl (by first | (simp; done) | assumption | (go_simp; done) | (repeat (first | assumption | exact Below.refl _ _ | refine Below.drew ?_ | refine Below.alloc ?_ (by first | omega | (simp; done) | (simp; omega)) _ | refine Below.setCell ?_ (by first | omega | (simp; done) | (simp; omega)) _ | refine Below.trans ?_ (Below.mono (by assumption) (by first | omega | (simp; done) | (simp; omega)))))) (fun K hK => ?_) | with_reducible refine Ord.at_fork ?_ ?_ | with_reducible refine Ord.walk_nil ?_ | (with_reducible refine Ord.next_of (by first | (simp; done) | (go_simp; done) | (repeat (first | assumption | exact Below.refl _ _ | refine Below.drew ?_ | refine Below.alloc ?_ (by first | omega | (simp; done) | (simp; omega)) _ | refine Below.setCell ?_ (by first | omega | (simp; done) | (simp; omega)) _ | refine Below.trans ?_ (Below.mono (by assumption) (by first | omega | (simp; done) | (simp; omega)))))) (fun _ => ?_)))
  go_ret
  exact ⟨rfl, ((Below.refl _ _).alloc (Nat.le_refl _) _).trans (Below.mono (by assumption) (by omega))⟩
/-! A way that is looked at. -/
abbrev wcells (m : Mb) (A : Ma) (pa : Option Addr) (pc mb : Nat) : Array Value := #[.slice A.pa m.places.length A.pc, .slice A.la m.legs.length A.lc, .slice A.ha m.herds.length A.hc, .slice A.sa m.seen.length A.sc, .slice pa m.places.length pc, .map (some mb)]
structure WayAt (w : World) (wp : Nat) (m : Mb) (A : Ma) (pa : Option Addr) (pc mb : Nat) : Prop where
  blk : Blk w wp (wcells m A pa pc mb) 88
  args : MbAt w m A
  spots : RowsAt w pa 1 (fun p => [spotV p]) m.places
theorem WayAt.lets {X : Nat → Option Obj → Prop} {w w' : World} {wp : Nat} {m : Mb} {A : Ma} {pa : Option Addr} {pc mb : Nat} (h : WayAt w wp m A pa pc mb) (hl : Lets X w w') (hX : ∀ k c t f, w.heap[k]? = some (.cells c t f) → ¬ X k w.heap[k]?) : WayAt w' wp m A pa pc mb := by
  have hc : ∀ {a : Addr} {v : Value}, w.cell? a = some v → w'.cell? a = some v := fun {a v} h => by
    refine hl.cell h ?_
    obtain ⟨o, ho, hk⟩ := cells_of_cell h
    cases o with
    | cells c t f => exact hX _ c t f ho
    | _ => simp [Obj.isCells] at hk
  have hr : ∀ {α : Type} {a : Option Addr} {n : Nat} {f : α → List Value} {l : List α}, RowsAt w a n f l → RowsAt w' a n f l := fun h i hi =>
    let ⟨gb, go, h0, h1⟩ := h i hi
    ⟨gb, go, h0, fun j u hj => hc (h1 j u hj)⟩
  exact ⟨hl.blk h.blk (hX _ _ _ _ h.blk), ⟨hr h.args.places, hr h.args.legs, hr h.args.herds, hr h.args.seen⟩, hr h.spots⟩
theorem WayAt.below {w w' : World} {wp : Nat} {m : Mb} {A : Ma} {pa : Option Addr} {pc mb : Nat} (h : WayAt w wp m A pa pc mb) (hb : Below w.heap.size w w') : WayAt w' wp m A pa pc mb :=
  h.lets (X := fun _ _ => False) (Lets.of_below hb) (fun _ _ _ _ _ e => e)
def herdB (m : Mb) (n : Int) : Bool := inB n 0 (m.herds.length - 1)
def fromP (m : Mb) (h n : Int) : Bool := herdB m h && inB n (startI m h) (m.places.length - 1)
theorem m_isHerd (wp : Nat) (m : Mb) (A : Ma) (pa : Option Addr) (pn pc mb : Nat) (n : Int) (w : World) (hl : m.herds.length ≤ 40) (h : w.cell? ⟨wp, 2, none⟩ = some (.slice A.ha m.herds.length A.hc)) :
    Calls Tryz.prog 40 #[.pointer (some ⟨wp, 0, none⟩), .int .i64 n] w (Same (.bool (herdB m n)) w) := by
  have hl2 : (m.herds.length : Int) ≤ 40 := by omega
  go_enter Tryz.func40, Tryz.ntmps40
  go_wp2_with (go_at_call 75; refine (m_within _ _ _ _).mono ?_; rintro e w' ⟨rfl, rfl⟩)
  go_ret
  exact ⟨rfl, rfl⟩
theorem m_every (wp : Nat) (n c : Nat) (a : Option Addr) (w : World) (hl : n ≤ 5) (h : w.cell? ⟨wp, 3, none⟩ = some (.slice a n c)) :
    Calls Tryz.prog 31 #[.pointer (some ⟨wp, 0, none⟩)] w (Same (.int .u64 ((2 ^ n - 1 : Nat) : Int)) w) := by
  go_enter Tryz.func31, Tryz.ntmps31
  go_wp2
  go_ret
  refine ⟨ret_int ?_, rfl⟩
  rcases (show n = 0 ∨ n = 1 ∨ n = 2 ∨ n = 3 ∨ n = 4 ∨ n = 5 by omega) with rfl | rfl | rfl | rfl | rfl | rfl <;> rfl
set_option maxHeartbeats 4000000 in
set_option maxRecDepth 100000 in
theorem m_isFrom (wp : Nat) (m : Mb) (A : Ma) (h n : Int) (w : World) (hl : Mlen m) (h0 : w.cell? ⟨wp, 0, none⟩ = some (.slice A.pa m.places.length A.pc)) (h2 : w.cell? ⟨wp, 2, none⟩ = some (.slice A.ha m.herds.length A.hc)) (hh : RowsAt w A.ha 4 i4c m.herds) :
    Calls Tryz.prog 27 #[.pointer (some ⟨wp, 0, none⟩), .int .i64 h, .int .i64 n] w (fun e w' => e = .returned (.bool (fromP m h n)) ∧ Below w.heap.size w w') := by
  have H1 := Lib.hid (fun W (hc : W.cell? ⟨wp, 2, none⟩ = some (.slice A.ha m.herds.length A.hc)) => m_isHerd wp m A none 0 0 0 h W hl.herds hc)
  have HR : Hid (fromP m h n = (herdB m h && inB n (startI m h) (m.places.length - 1))) := rfl
  have hp1 := hl.places
  have hp2 := hl.herds
  have hp3 : (m.places.length : Int) ≤ 40 := by omega
  generalize fromP m h n = R at *
  cases h1 : herdB m h
  · rw [h1] at H1 HR
    go_enter Tryz.func27, Tryz.ntmps27
    go_wp2_with fail
    refine Ord.wp_region [(0, 0), (1, 0), (2, 0), (3, 0), (4, 0), (5, 0), (6, 0), (7, 0), (8, 0), (9, 0), (10, 0), (11, 0), (12, 0), (13, 0), (14, 0), (15, 0), (16, 0), (17, 0), (18, 0), (19, 0), (20, 0), (21, 0), (22, 0), (23, 0)] (fun _ => True) (by kernel_rfl) (by kernel_rfl) (fun c a d v w h => by cases d <;> exact h) trivial ?_
    go_wp2_with (first
      | ((with_reducible refine Ord.at_wild ?_); refine Ord.walk_skip rfl rfl (fun K hK => ?_)) | ((with_reducible refine Ord.at_eff ?_); refine Ord.walk_skip rfl rfl (fun K hK => ?_))
      | ((with_reducible refine Ord.at_calm ?_); refine Ord.calm_skip rfl ?_ (fun K hK => ?_); (focus (simp [Region.wanted, yielded]; done))) | with_reducible refine Ord.walk_calm rfl rfl (fun K hK => ?_) | ((with_reducible refine Ord.at_wild ?_); refine Ord.wild_fieldAddr rfl rfl (fun W => by simp [go_sem]; rfl) (fun K hK => ?_)) | ((with_reducible refine Ord.at_wild ?_); refine Ord.wild_move rfl rfl (fun K hK => ?_)) | ((with_reducible refine Ord.at_wild ?_); refine Ord.wild_nilCheck rfl rfl (fun K hK => ?_)) | with_reducible refine Ord.walk_eff rfl (by first | (simp; done) | assumption | (go_simp; done) | (repeat (first | assumption | exact Below.refl _ _ | refine Below.drew ?_ | refine Below.alloc ?_ (by first | omega | (simp; done) | (simp; omega)) _ | refine Below.setCell ?_ (by first | omega | (simp; done) | (simp; omega)) _ | refine Below.trans ?_ (Below.mono (by assumption) (by first | omega | (simp; done) | (simp; omega)))))) (fun K hK => ?_) | with_reducible refine Ord.at_fork ?_ ?_ | with_reducible refine Ord.walk_nil ?_ | (with_reducible refine Ord.next_of (by first | (simp; done) | (go_simp; done) | (repeat (first | assumption | exact Below.refl _ _ | refine Below.drew ?_ | refine Below.alloc ?_ (by first | omega | (simp; done) | (simp; omega)) _ | refine Below.setCell ?_ (by first | omega | (simp; done) | (simp; omega)) _ | refine Below.trans ?_ (Below.mono (by assumption) (by first | omega | (simp; done) | (simp; omega)))))) (fun _ => ?_))
      | ((with_reducible refine Ord.at_calm ?_); refine Ord.calm_call rfl (fun W => Tryz.call40 _ W) (H1.out _ (by assumption)) (fun K hK => ?_)) | ((with_reducible refine Ord.at_wild ?_); refine Ord.wild_call rfl (fun W => Tryz.call40 _ W) (fun W hW => H1.out _ (by assumption)) (fun K hK => ?_)))
    go_ret
    exact ⟨by rw [HR.out]; rfl, (Below.refl _ _).drew⟩
  · have h1' := inB_of h1
    obtain ⟨i, rfl⟩ : ∃ i : Nat, h = (i : Int) := ⟨h.toNat, by omega⟩
    have hi : i < m.herds.length := by omega
    have hii : (i : Int) < (m.herds.length : Int) := by omega
    have hs : startI m (i : Int) = m.herds[i].1 := by unfold startI; simp [hi]
    obtain ⟨gb, go, e0, e1, -⟩ := hh.get4 hi
    rw [h1] at H1 HR
    rw [hs] at HR
    rcases A with ⟨pa, pc, la, lc, ha, hc, sa, sc⟩
    simp only at e0
    subst e0
    simp only at *
    generalize m.herds[i].1 = st at *
    clear hs h1 h1' hh
    go_enter Tryz.func27, Tryz.ntmps27
    go_wp2_with fail
    refine Ord.wp_region [(0, 0), (1, 0), (2, 0), (3, 0), (4, 0), (5, 0), (6, 0), (7, 0), (8, 0), (9, 0), (10, 0), (11, 0), (12, 0), (13, 0), (14, 0), (15, 0), (16, 0), (17, 0), (18, 0), (19, 0), (20, 0), (21, 0), (22, 0), (23, 0)] (fun _ => True) (by kernel_rfl) (by kernel_rfl) (fun c a d v w h => by cases d <;> exact h) trivial ?_
    go_wp2_with (first
      | ((with_reducible refine Ord.at_calm ?_); refine Ord.calm_skip rfl ?_ (fun K hK => ?_); (focus (simp [Region.wanted, yielded]; done))) | with_reducible refine Ord.walk_calm rfl rfl (fun K hK => ?_) | ((with_reducible refine Ord.at_wild ?_); refine Ord.wild_fieldAddr rfl rfl (fun W => by simp [go_sem]; rfl) (fun K hK => ?_)) | ((with_reducible refine Ord.at_wild ?_); refine Ord.wild_move rfl rfl (fun K hK => ?_)) | ((with_reducible refine Ord.at_wild ?_); refine Ord.wild_nilCheck rfl rfl (fun K hK => ?_)) | with_reducible refine Ord.walk_eff rfl (by first | (simp; done) | assumption | (go_simp; done) | (repeat (first | assumption | exact Below.refl _ _ | refine Below.drew ?_ | refine Below.alloc ?_ (by first | omega | (simp; done) | (simp; omega)) _ | refine Below.setCell ?_ (by first | omega | (simp; done) | (simp; omega)) _ | refine Below.trans ?_ (Below.mono (by assumption) (by first | omega | (simp; done) | (simp; omega)))))) (fun K hK => ?_) | with_reducible refine Ord.at_fork ?_ ?_ | with_reducible refine Ord.walk_nil ?_ | (with_reducible refine Ord.next_of (by first | (simp; done) | (go_simp; done) | (repeat (first | assumption | exact Below.refl _ _ | refine Below.drew ?_ | refine Below.alloc ?_ (by first | omega | (simp; done) | (simp; omega)) _ | refine Below.setCell ?_ (by first | omega | (simp; done) | (simp; omega)) _ | refine Below.trans ?_ (Below.mono (by assumption) (by first | omega | (simp; done) | (simp; omega)))))) (fun _ => ?_))
      | ((with_reducible refine Ord.at_calm ?_); refine Ord.calm_call rfl (fun W => Tryz.call40 _ W) (H1.out _ (by assumption)) (fun K hK => ?_)) | ((with_reducible refine Ord.at_wild ?_); refine Ord.wild_call rfl (fun W => Tryz.call40 _ W) (fun W hW => H1.out _ (by assumption)) (fun K hK => ?_))
      | ((with_reducible refine Ord.at_calm ?_); refine Ord.calm_call rfl (fun W => Tryz.call75 _ W) (m_within _ _ _ _) (fun K hK => ?_)) | ((with_reducible refine Ord.at_wild ?_); refine Ord.wild_call rfl (fun W => Tryz.call75 _ W) (fun W hW => m_within _ _ _ _) (fun K hK => ?_)))
    go_ret
    exact ⟨by rw [HR.out]; rfl, (Below.refl _ _).drew⟩
end Go.Proofs.YteeinehpneppnaaGreat
