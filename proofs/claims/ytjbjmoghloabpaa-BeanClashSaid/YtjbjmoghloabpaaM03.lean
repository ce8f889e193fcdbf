/- Parts of a proof: BnRefC, BnRefD. -/
import Derived.Test.YtjbjmoghloabpaaM02
import Derived.Maps.AppendAt
/- Contracts of shearworksref03: what is right, truths. -/
set_option linter.unusedVariables false
set_option linter.unusedSimpArgs false
namespace Go.Proofs.Ytjbjmoghloabpaa
open Go.RowKit Go.Proofs

set_option maxHeartbeats 4000000 in
set_option maxRecDepth 100000 in
theorem r_right_g (b : Bn) (ga : Option Addr) (gc : Nat) (pa : Option Addr) (pc : Nat) (w : World) (hg : GsAt w ga b.gs) (i : Nat) (hi : i < b.gs.length) (x y : Int) (wh gv : Nat)
    (hx : x = i) (hy : y = wh) (hwh : wh < 2 ^ 62) (hgv : b.gs[i].1 = gv) (hgv2 : gv < 2 ^ 62) (hgl : b.gs.length ≤ 4) :
    Calls Try.prog 105 #[bv b ga gc pa pc, .int .i64 x, .int .i64 y] w (Gives (.bool (inB (bothTo gv wh 8 : Nat) b.gs[i].2.1 b.gs[i].2.2)) w) := by
  subst hx hy
  obtain ⟨gb, go, rfl, e1, e2, e3⟩ := hg i hi
  have hgb : gb < w.heap.size := World.block_lt_of_cell? w _ e1
  rw [hgv] at e1
  have hi' : (i : Int) < b.gs.length := by omega
  have hb := r_both (gv : Int) (wh : Int) gv wh rfl rfl hgv2 hwh
  have HB := Lib.hid hb
  clear hb hgv2 hwh hgv
  unfold bv
  generalize b.gs[i].2.1 = gl at *
  generalize b.gs[i].2.2 = gh at *
  go_enter Try.func105, Try.ntmps105
  go_wp2_with fail
  refine Ord.wp_region [(0, 0), (1, 0), (2, 0), (4, 1), (5, 1), (6, 1), (7, 1), (8, 1), (9, 1), (3, 2), (10, 2), (11, 0)] (fun W => W.cell? ⟨w.heap.size + 1, 1, none⟩ = some (.int .i64 gl) ∧ W.cell? ⟨w.heap.size + 1, 2, none⟩ = some (.int .i64 gh)) (by kernel_rfl) (by kernel_rfl) (fun c a d v w h => by cases d <;> exact h) (by simp) ?_
  go_wp2_with (first
    | ((with_reducible refine Ord.at_calm ?_); refine Ord.calm_skip rfl rfl (fun K hK => ?_)) | with_reducible refine Ord.walk_calm rfl rfl (fun K hK => ?_) | ((with_reducible refine Ord.at_wild ?_); refine Ord.wild_fieldAddr rfl rfl (fun W => by simp [go_sem]; rfl) (fun K hK => ?_)) | ((with_reducible refine Ord.at_wild ?_); refine Ord.wild_move rfl rfl (fun K hK => ?_)) | ((with_reducible refine Ord.at_wild ?_); refine Ord.wild_nilCheck rfl rfl (fun K hK => ?_)) | with_reducible refine Ord.walk_eff rfl (by first | (simp; done) | assumption | (go_simp; done) | (repeat (first | assumption | exact Below.refl _ _ | refine Below.drew ?_ | refine Below.alloc ?_ (by first | omega | (simp; done) | (simp; omega)) _ | refine Below.setCell ?_ (by first | omega | (simp; done) | (simp; omega)) _ | refine Below.trans ?_ (Below.mono (by assumption) (by first | omega | (simp; done) | (simp; omega)))))) (fun K hK => ?_) | with_reducible refine Ord.at_fork ?_ ?_ | with_reducible refine Ord.walk_nil ?_ | (with_reducible refine Ord.next_of (by first | (simp; done) | (go_simp; done) | (repeat (first | assumption | exact Below.refl _ _ | refine Below.drew ?_ | refine Below.alloc ?_ (by first | omega | (simp; done) | (simp; omega)) _ | refine Below.setCell ?_ (by first | omega | (simp; done) | (simp; omega)) _ | refine Below.trans ?_ (Below.mono (by assumption) (by first | omega | (simp; done) | (simp; omega)))))) (fun _ => ?_))
    | ((with_reducible refine Ord.at_wild ?_); refine Ord.wild_load (ad := ⟨w.heap.size + 1, 1, none⟩) (.int .i64 gl) rfl rfl ?_ ?_; (focus (intro W hW; simp [go_sem, hW]; done)); intro K hK)
    | ((with_reducible refine Ord.at_wild ?_); refine Ord.wild_load (ad := ⟨w.heap.size + 1, 2, none⟩) (.int .i64 gh) rfl rfl ?_ ?_; (focus (intro W hW; simp [go_sem, hW]; done)); intro K hK)
    | (go_at_call 110; refine (HB.out _).mono ?_; rintro e w' ⟨rfl, rfl⟩)
    | (go_at_call 91; refine (r_in _ _ _ _).mono ?_; rintro e w' ⟨rfl, rfl⟩))
  go_ret
  refine ⟨rfl, ?_⟩
  (repeat (first | assumption | exact Below.refl _ _ | refine Below.drew ?_ | refine Below.alloc ?_ (by first | omega | (simp; done) | (simp; omega)) _ | refine Below.setCell ?_ (by first | omega | (simp; done) | (simp; omega)) _ | refine Below.trans ?_ (Below.mono (by assumption) (by first | omega | (simp; done) | (simp; omega)))))

set_option maxHeartbeats 4000000 in
set_option maxRecDepth 100000 in
theorem r_right_p (b : Bn) (ga : Option Addr) (gc : Nat) (pa : Option Addr) (pc : Nat) (w : World) (hg : PsAt w pa b.ps) (i : Nat) (hi : i < b.ps.length) (x y : Int) (wh pA pB : Nat)
    (hx : x = b.gs.length + i) (hy : y = wh) (hwh : wh < 2 ^ 62) (hA : b.ps[i].1 = pA) (hB : b.ps[i].2.1 = pB) (hA2 : pA ≤ 62) (hB2 : pB ≤ 62) (hgl : b.gs.length ≤ 4) (hpl : b.ps.length ≤ 4) :
    Calls Try.prog 105 #[bv b ga gc pa pc, .int .i64 x, .int .i64 y] w (Gives (.bool ((hasB wh pA == hasB wh pB) == b.ps[i].2.2)) w) := by
  subst hx hy
  obtain ⟨gb, go, rfl, e1, e2, e3⟩ := hg i hi
  have hgb : gb < w.heap.size := World.block_lt_of_cell? w _ e1
  rw [hA] at e1
  rw [hB] at e2
  have hi' : (i : Int) < b.ps.length := by omega
  have HB1 := Lib.hid (r_has (wh : Int) (pA : Int) wh pA rfl rfl hwh hA2)
  have HB2 := Lib.hid (r_has (wh : Int) (pB : Int) wh pB rfl rfl hwh hB2)
  clear hwh hA hB hA2 hB2
  unfold bv
  generalize b.ps[i].2.2 = ps at *
  generalize b.gs.length = n at *
  have hgl' : (n : Int) ≤ 4 := by omega
  have hq : IntKind.i64.wrap ((n : Int) + i - n) = i := by rw [IntWalk.i64_in _ (by omega)]; omega
  go_enter Try.func105, Try.ntmps105
  go_wp2_with fail
  refine Ord.wp_region [(0, 0), (1, 0), (2, 0), (4, 1), (5, 1), (6, 1), (9, 1), (10, 1), (3, 2), (7, 2), (8, 0), (11, 0), (12, 0)] (fun W => W.cell? ⟨w.heap.size + 1, 1, none⟩ = some (.int .i64 pB) ∧ W.cell? ⟨w.heap.size + 1, 2, none⟩ = some (.bool ps)) (by kernel_rfl) (by kernel_rfl) (fun c a d v w h => by cases d <;> exact h) (by simp) ?_
  go_wp2_with (first
    | ((with_reducible refine Ord.at_calm ?_); refine Ord.calm_skip rfl rfl (fun K hK => ?_)) | with_reducible refine Ord.walk_calm rfl rfl (fun K hK => ?_) | ((with_reducible refine Ord.at_wild ?_); refine Ord.wild_fieldAddr rfl rfl (fun W => by simp [go_sem]; rfl) (fun K hK => ?_)) | ((with_reducible refine Ord.at_wild ?_); refine Ord.wild_move rfl rfl (fun K hK => ?_)) | ((with_reducible refine Ord.at_wild ?_); refine Ord.wild_nilCheck rfl rfl (fun K hK => ?_)) | with_reducible refine Ord.walk_eff rfl (by first | (simp; done) | assumption | (go_simp; done) | (repeat (first | assumption | exact Below.refl _ _ | refine Below.drew ?_ | refine Below.alloc ?_ (by first | omega | (simp; done) | (simp; omega)) _ | refine Below.setCell ?_ (by first | omega | (simp; done) | (simp; omega)) _ | refine Below.trans ?_ (Below.mono (by assumption) (by first | omega | (simp; done) | (simp; omega)))))) (fun K hK => ?_) | with_reducible refine Ord.at_fork ?_ ?_ | with_reducible refine Ord.walk_nil ?_ | (with_reducible refine Ord.next_of (by first | (simp; done) | (go_simp; done) | (repeat (first | assumption | exact Below.refl _ _ | refine Below.drew ?_ | refine Below.alloc ?_ (by first | omega | (simp; done) | (simp; omega)) _ | refine Below.setCell ?_ (by first | omega | (simp; done) | (simp; omega)) _ | refine Below.trans ?_ (Below.mono (by assumption) (by first | omega | (simp; done) | (simp; omega)))))) (fun _ => ?_))
    | ((with_reducible refine Ord.at_wild ?_); refine Ord.wild_load (ad := ⟨w.heap.size + 1, 1, none⟩) (.int .i64 pB) rfl rfl ?_ ?_; (focus (intro W hW; simp [go_sem, hW]; done)); intro K hK)
    | ((with_reducible refine Ord.at_wild ?_); refine Ord.wild_load (ad := ⟨w.heap.size + 1, 2, none⟩) (.bool ps) rfl rfl ?_ ?_; (focus (intro W hW; simp [go_sem, hW]; done)); intro K hK)
    | (go_at_call 69; first | ((with_reducible refine (HB1.out _).mono ?_); rintro e w' ⟨rfl, rfl⟩) | ((with_reducible refine (HB2.out _).mono ?_); rintro e w' ⟨rfl, rfl⟩)))
  go_ret
  refine ⟨rfl, ?_⟩
  (repeat (first | assumption | exact Below.refl _ _ | refine Below.drew ?_ | refine Below.alloc ?_ (by first | omega | (simp; done) | (simp; omega)) _ | refine Below.setCell ?_ (by first | omega | (simp; done) | (simp; omega)) _ | refine Below.trans ?_ (Below.mono (by assumption) (by first | omega | (simp; done) | (simp; omega)))))

/-- Is one thing that is known right, if these voters gave white beans? -/
def rightB (b : Bn) (i wh : Nat) : Bool :=
  if h : i < b.gs.length then inB (bothTo b.gs[i].1.toNat wh 8 : Nat) b.gs[i].2.1 b.gs[i].2.2
  else if h : i - b.gs.length < b.ps.length then (hasB wh b.ps[i - b.gs.length].1.toNat == hasB wh b.ps[i - b.gs.length].2.1.toNat) == b.ps[i - b.gs.length].2.2
  else true
/-- How many things are known. -/
abbrev Bn.kn (b : Bn) : Nat := b.gs.length + b.ps.length

theorem valid_head {b : Bn} (h : valid b = true) : headOk b = true := by simp only [valid, Bool.and_eq_true] at h; exact h.1.1
theorem valid_V {b : Bn} (h : valid b = true) : 1 ≤ b.V ∧ b.V ≤ 8 := by
  have := valid_head h; simp only [headOk, Bool.and_eq_true] at this; exact inB_of this.1.1.1.1
theorem valid_nd {b : Bn} (h : valid b = true) : 0 ≤ b.nd ∧ b.nd ≤ b.V := by
  have := valid_head h; simp only [headOk, Bool.and_eq_true] at this; exact inB_of this.1.1.1.2
theorem valid_wh {b : Bn} (h : valid b = true) : 0 ≤ b.lo ∧ b.lo ≤ b.hi ∧ b.hi ≤ b.V := by
  have := valid_head h; simp only [headOk, Bool.and_eq_true] at this; simpa [spanB] using this.1.1.2
theorem valid_len {b : Bn} (h : valid b = true) : b.gs.length ≤ 4 ∧ b.ps.length ≤ 4 := by
  have := valid_head h; simp only [headOk, Bool.and_eq_true, decide_eq_true_eq] at this; exact ⟨this.1.2, this.2⟩
theorem valid_g {b : Bn} (h : valid b = true) {i : Nat} (hi : i < b.gs.length) : 0 ≤ b.gs[i].1 ∧ b.gs[i].1 < 2 ^ b.V.toNat ∧ b.gs[i].1 < 256 ∧ 0 ≤ b.gs[i].2.1 ∧ b.gs[i].2.1 ≤ b.gs[i].2.2 ∧ b.gs[i].2.2 ≤ 8 := by
  have hV := valid_V h
  simp only [valid, Bool.and_eq_true] at h
  have h1 := List.all_eq_true.1 h.1.2 _ (List.getElem_mem hi)
  simp only [gOk, Bool.and_eq_true] at h1
  have h2 := inB_of h1.1
  have h3 : 0 ≤ b.gs[i].2.1 ∧ b.gs[i].2.1 ≤ b.gs[i].2.2 ∧ b.gs[i].2.2 ≤ 8 := by simpa [spanB] using h1.2
  have h4 : 2 ^ b.V.toNat ≤ 2 ^ 8 := Nat.pow_le_pow_right (by omega) (by omega)
  have h5 : ((2 ^ b.V.toNat : Nat) : Int) ≤ 256 := by have : (2:Nat) ^ 8 = 256 := rfl; omega
  refine ⟨h2.1, ?_, by omega, h3⟩
  have : ((2 : Int) ^ b.V.toNat) = ((2 ^ b.V.toNat : Nat) : Int) := by simp
  omega
theorem valid_p {b : Bn} (h : valid b = true) {i : Nat} (hi : i < b.ps.length) : 0 ≤ b.ps[i].1 ∧ b.ps[i].1 < b.V ∧ 0 ≤ b.ps[i].2.1 ∧ b.ps[i].2.1 < b.V ∧ b.ps[i].1 ≠ b.ps[i].2.1 := by
  simp only [valid, Bool.and_eq_true] at h
  have h1 := List.all_eq_true.1 h.2 _ (List.getElem_mem hi)
  simp only [pOk, Bool.and_eq_true] at h1
  have h2 := inB_of h1.1.1
  have h3 := inB_of h1.1.2
  have h4 : b.ps[i].1 ≠ b.ps[i].2.1 := by simpa using h1.2
  exact ⟨h2.1, by omega, h3.1, by omega, h4⟩

theorem r_right (b : Bn) (ga : Option Addr) (gc : Nat) (pa : Option Addr) (pc : Nat) (hv : valid b = true) (w : World) (hg : GsAt w ga b.gs) (hp : PsAt w pa b.ps) (x y : Int) (i wh : Nat)
    (hx : x = i) (hy : y = wh) (hi : i < b.kn) (hwh : wh < 2 ^ 62) :
    Calls Try.prog 105 #[bv b ga gc pa pc, .int .i64 x, .int .i64 y] w (Gives (.bool (rightB b i wh)) w) := by
  have hl := valid_len hv
  by_cases h : i < b.gs.length
  · have hb := valid_g hv h
    have := r_right_g b ga gc pa pc w hg i h x y wh b.gs[i].1.toNat hx hy hwh (by omega) (by omega) hl.1
    simpa only [rightB, h, dite_true] using this
  · have h2 : i - b.gs.length < b.ps.length := by have : i < b.gs.length + b.ps.length := hi; omega
    have hb := valid_p hv h2
    have hV := valid_V hv
    have := r_right_p b ga gc pa pc w hp (i - b.gs.length) h2 x y wh b.ps[i - b.gs.length].1.toNat b.ps[i - b.gs.length].2.1.toNat (by omega) hy hwh (by omega) (by omega) (by omega) (by omega) hl.1 hl.2
    simpa only [rightB, h, h2, dite_true, dite_false] using this
end Go.Proofs.Ytjbjmoghloabpaa
/- Contracts of shearworksref03: truths. -/
set_option linter.unusedVariables false
set_option linter.unusedSimpArgs false
namespace Go.Proofs.Ytjbjmoghloabpaa
open Go.RowKit Go.Proofs
theorem ownsRow_below {W w' : World} {base : Nat} {e : TypeId} {size : Nat} {v : Value} {n : Nat} {xs : List Value} (h : W.ownsRow base e size v n xs) (hb : Below W.heap.size W w') : w'.ownsRow base e size v n xs := by
  obtain ⟨h1, h2⟩ := h
  refine ⟨h1, h2.imp id ?_⟩
  rintro ⟨g, cap, cur, hv, hg, hh, r⟩
  exact ⟨g, cap, cur, hv, hg, (hb.block g (Array.getElem?_eq_some_iff.1 hh).1).trans hh, r⟩

def natV (n : Nat) : Value := .int .i64 (n : Nat)
/-- A slice of ints that reads as a list of numbers. -/
def IntsAt (w : World) (a : Option Addr) (l : List Nat) : Prop :=
  ∀ i, (h : i < l.length) → ∃ b o, a = some ⟨b, o, none⟩ ∧ w.cell? ⟨b, o + i, none⟩ = some (.int .i64 (l[i] : Nat))
theorem IntsAt.below {w w' : World} {a : Option Addr} {l : List Nat} (h : IntsAt w a l) (hb : Below w.heap.size w w') : IntsAt w' a l := fun i hi =>
  let ⟨b, o, h0, h1⟩ := h i hi
  ⟨b, o, h0, cell_later hb h1⟩
theorem IntsAt.of_own {w : World} {base : Nat} {e : TypeId} {v : Value} {l : List Nat} (h : w.ownsRow base e 1 v l.length (l.map natV)) :
    ∃ a c, v = .slice a l.length c ∧ IntsAt w a l := by
  obtain ⟨h1, h2⟩ := h
  rcases h2 with ⟨rfl, h0⟩ | ⟨g, cap, cur, rfl, hg, hh, hn, hc, hs, ht⟩
  · exact ⟨none, 0, by rw [h0], fun i hi => by omega⟩
  · refine ⟨_, cap, rfl, fun i hi => ⟨g, 0, rfl, ?_⟩⟩
    have : (cur.toList.take (l.length * 1))[i]? = (l.map natV)[i]? := by rw [ht]
    rw [List.getElem?_take] at this
    simp only [Nat.mul_one, hi, if_true, List.getElem?_map, List.getElem?_eq_getElem hi, Option.map_some] at this
    simp only [World.cell?, hh]
    simpa [natV] using this

theorem Try.info3 : (Try.prog.info? 3).map (fun i => (i.zero, i.size, i.bytes)) = some (some (.int .i64 0), 1, 8) := by kernel_rfl
/-- Is it a truth, by what of a set is known? -/
def okTo (b : Bn) (set wh : Nat) : Nat → Bool
  | 0 => inB (sz wh : Nat) b.lo b.hi
  | k + 1 => okTo b set wh k && (!hasB set k || rightB b k wh)
def okB (b : Bn) (set wh : Nat) : Bool := okTo b set wh b.kn
def truthsL (b : Bn) (set : Nat) : List Nat := (List.range (2 ^ b.V.toNat)).filter (okB b set)
def GivesL (l : List Nat) (w : World) (e : Ending) (w' : World) : Prop := ∃ a c, e = .returned (.slice a l.length c) ∧ IntsAt w' a l ∧ Below w.heap.size w w'

set_option maxHeartbeats 4000000 in
set_option maxRecDepth 100000 in
theorem r_truths (b : Bn) (ga : Option Addr) (gc : Nat) (pa : Option Addr) (pc : Nat) (hv : valid b = true) (w : World) (hg : GsAt w ga b.gs) (hp : PsAt w pa b.ps) (x : Int) (set : Nat) (hx : x = set) (hset : set < 2 ^ 62) :
    Calls Try.prog 90 #[bv b ga gc pa pc, .int .i64 x] w (GivesL (truthsL b set) w) := by
  subst hx
  have hV := valid_V hv
  have hl := valid_len hv
  have HR : Hid (∀ (w' : World) (x y : Int) (i wh : Nat), Below w.heap.size w w' → x = i → y = wh → i < b.kn → wh < 2 ^ 62 →
      Calls Try.prog 105 #[bv b ga gc pa pc, .int .i64 x, .int .i64 y] w' (Gives (.bool (rightB b i wh)) w')) := Lib.hid fun w' x y i wh hb hx hy hi hwh => r_right b ga gc pa pc hv w' (hg.below hb) (hp.below hb) x y i wh hx hy hi hwh
  have HPW := Lib.hid (r_power b.V b.V.toNat (by omega) (by omega))
  have hpl : 2 ^ b.V.toNat ≤ 2 ^ 8 := Nat.pow_le_pow_right (by omega) (by omega)
  have HT : Hid (truthsL b set = (List.range (2 ^ b.V.toNat)).filter (okB b set)) := rfl
  have HO : Hid (∀ wh k, okTo b set wh (k + 1) = (okTo b set wh k && (!hasB set k || rightB b k wh))) := fun _ _ => rfl
  have HO0 : Hid (∀ wh, okTo b set wh 0 = inB (sz wh : Nat) b.lo b.hi) := fun _ => rfl
  have HO1 : Hid (∀ wh, okB b set wh = okTo b set wh b.kn) := fun _ => rfl
  obtain ⟨p2, hp2⟩ : ∃ p2, 2 ^ b.V.toNat = p2 := ⟨_, rfl⟩
  rw [hp2] at hpl HPW HT
  replace hpl : p2 ≤ 256 := hpl
  generalize truthsL b set = TL at *
  generalize okB b set = okF at *
  have HS := Lib.hid (fun (k : Nat) (hk : k ≤ 62) => r_has (set : Int) (k : Int) set k rfl rfl hset hk)
  have hl2 : b.gs.length + b.ps.length ≤ 8 := by omega
  clear hset hg hp hv hp2 hV
  unfold bv at *
  unfold Bn.kn at *
  go_enter Try.func90, Try.ntmps90
  go_wp2_with fail
  go_loopw [5, 6] (fun v i wr => ∃ k : Nat, k ≤ p2 ∧ i = .int .i64 k ∧ Below (w.heap.size + 1) (w.alloc (.cells #[.int .i64 b.V, .int .i64 b.nd, .int .i64 b.lo, .int .i64 b.hi, .slice ga b.gs.length gc, .slice pa b.ps.length pc] 27)) wr ∧
    ∃ l : List Nat, Hid (l = (List.range k).filter okF) ∧ l.length ≤ k ∧ wr.ownsRow (w.heap.size + 1) 3 1 v l.length (l.map natV)) (fun _ i _ => p2 - (intOf i).toNat)
  case atStart => exact ⟨0, Nat.zero_le _, rfl, Below.refl _ _, [], rfl, Nat.le_refl _, World.ownsRow_nil _ _ _ _⟩
  case round =>
    obtain ⟨k, hk, rfl, hB, l, HL, hlk, hown⟩ := hrel
    obtain ⟨c1, f1, z1⟩ := below_rules hB (World.size_alloc _ _)
    by_cases hlt : k < p2
    · go_wp2_with (go_at_call 82; refine (HPW.out _).mono ?_; rintro e w' ⟨rfl, rfl⟩)
      have q2 : wr.cell? ⟨w.heap.size, 2, none⟩ = some (.int .i64 b.lo) := by rw [c1]; simp
      have q3 : wr.cell? ⟨w.heap.size, 3, none⟩ = some (.int .i64 b.hi) := by rw [c1]; simp
      have hsz := r_size (k : Int) k rfl (by omega)
      refine Ord.wp_region [(0, 0), (2, 1), (3, 1), (4, 1), (5, 1), (6, 1), (7, 1), (1, 2), (8, 2), (9, 0)] (fun W => W.cell? ⟨w.heap.size, 2, none⟩ = some (.int .i64 b.lo) ∧ W.cell? ⟨w.heap.size, 3, none⟩ = some (.int .i64 b.hi)) (by kernel_rfl) (by kernel_rfl) (fun c a d v w h => by cases d <;> exact h) ⟨q2, q3⟩ ?_
      go_wp2_with (first
        | ((with_reducible refine Ord.at_calm ?_); refine Ord.calm_skip rfl rfl (fun K hK => ?_)) | with_reducible refine Ord.walk_calm rfl rfl (fun K hK => ?_) | ((with_reducible refine Ord.at_wild ?_); refine Ord.wild_fieldAddr rfl rfl (fun W => by simp [go_sem]; rfl) (fun K hK => ?_)) | ((with_reducible refine Ord.at_wild ?_); refine Ord.wild_move rfl rfl (fun K hK => ?_)) | ((with_reducible refine Ord.at_wild ?_); refine Ord.wild_nilCheck rfl rfl (fun K hK => ?_)) | with_reducible refine Ord.walk_eff rfl (by first | (simp; done) | assumption | (go_simp; done) | (repeat (first | assumption | exact Below.refl _ _ | refine Below.drew ?_ | refine Below.alloc ?_ (by first | omega | (simp; done) | (simp; omega)) _ | refine Below.setCell ?_ (by first | omega | (simp; done) | (simp; omega)) _ | refine Below.trans ?_ (Below.mono (by assumption) (by first | omega | (simp; done) | (simp; omega)))))) (fun K hK => ?_) | with_reducible refine Ord.at_fork ?_ ?_ | with_reducible refine Ord.walk_nil ?_ | (with_reducible refine Ord.next_of (by first | (simp; done) | (go_simp; done) | (repeat (first | assumption | exact Below.refl _ _ | refine Below.drew ?_ | refine Below.alloc ?_ (by first | omega | (simp; done) | (simp; omega)) _ | refine Below.setCell ?_ (by first | omega | (simp; done) | (simp; omega)) _ | refine Below.trans ?_ (Below.mono (by assumption) (by first | omega | (simp; done) | (simp; omega)))))) (fun _ => ?_))
        | ((with_reducible refine Ord.at_wild ?_); refine Ord.wild_load (ad := ⟨w.heap.size, 2, none⟩) (.int .i64 b.lo) rfl rfl ?_ ?_; (focus (intro W hW; simp [go_sem, hW]; done)); intro K hK)
        | ((with_reducible refine Ord.at_wild ?_); refine Ord.wild_load (ad := ⟨w.heap.size, 3, none⟩) (.int .i64 b.hi) rfl rfl ?_ ?_; (focus (intro W hW; simp [go_sem, hW]; done)); intro K hK)
        | (go_at_call 50; refine (hsz _).mono ?_; rintro e w' ⟨rfl, rfl⟩)
        | (go_at_call 91; refine (r_in _ _ _ _).mono ?_; rintro e w' ⟨rfl, rfl⟩))
      rw [← HO0.out k]
      obtain ⟨wA, rfl⟩ : ∃ wA : World, wA = wr := ⟨_, rfl⟩
      clear hsz
      go_loopw [7, 8] (fun v i wr => ∃ m : Nat, m ≤ b.gs.length + b.ps.length ∧ i = .int .i64 m ∧ v = .bool (okTo b set k m) ∧ Below wA.drew.heap.size wA.drew wr) (fun _ i _ => b.gs.length + b.ps.length - (intOf i).toNat)
      case atStart => exact ⟨0, Nat.zero_le _, rfl, rfl, Below.refl _ _⟩
      case round =>
        obtain ⟨m, hm, rfl, rfl, hB2⟩ := hrel
        obtain ⟨c2, f2, z2⟩ := after hB2 rfl
        by_cases hlt2 : m < b.gs.length + b.ps.length
        · have HOm := Lib.hid (HO.out k m)
          have hs := HS.out m (by omega)
          have hr := HR.out wr (m : Int) (k : Int) m k (((Below.refl w.heap.size w).alloc (Nat.le_refl _) _).trans ((hB.drew.mono (by omega)).trans (hB2.mono (by simp; omega)))) rfl rfl hlt2 (by omega)
          generalize hok1 : okTo b set k (m + 1) = ok1 at *
          have HOK1 := Lib.hid hok1
          clear hok1
          generalize okTo b set k m = ok0 at *
          generalize hasB set m = hs0 at *
          generalize rightB b m k = rt at *
          have HHS := Lib.hid hs
          have HHR := Lib.hid hr
          clear hs hr
          cases ok0
          · have e1 : ok1 = false := by rw [HOm.out]; rfl
            subst e1
            go_wp2_with fail
            all_goals exact ⟨⟨m + 1, by omega, by go_num, by rw [HOK1.out], hB2⟩, by simp [intOf]; omega⟩
          · cases hs0
            · have e1 : ok1 = true := by rw [HOm.out]; rfl
              subst e1
              go_wp2_with (go_at_call 69; refine (HHS.out _).mono ?_; rintro e w' ⟨rfl, rfl⟩)
              exact ⟨⟨m + 1, by omega, by go_num, by rw [HOK1.out], hB2⟩, by simp [intOf]; omega⟩
            · have e1 : ok1 = rt := by rw [HOm.out]; simp
              subst e1
              go_wp2_with (first
                | (go_at_call 69; refine (HHS.out _).mono ?_; rintro e w' ⟨rfl, rfl⟩)
                | (go_at_call 105; refine HHR.out.mono ?_; rintro e w3 ⟨rfl, hb3⟩; obtain ⟨c3, f3, z3⟩ := after hb3 rfl))
              exact ⟨⟨m + 1, by omega, by go_num, by rw [HOK1.out], hB2.trans (hb3.mono (by omega))⟩, by simp [intOf]; omega⟩
        · have hmk : m = b.gs.length + b.ps.length := by omega
          subst hmk
          have HF : Hid (okF k = okTo b set k (b.gs.length + b.ps.length)) := HO1.out k
          have hown2 := ownsRow_below (hown.drew) hB2
          have HRS : Hid ((List.range (k + 1)).filter okF = (List.range k).filter okF ++ (if okF k then [k] else [])) := by
            show _ = _
            rw [List.range_succ, List.filter_append]
            congr 1
            simp [List.filter_cons]
          obtain ⟨i0, hi, hz0, hz1, hz2⟩ := info_parts Try.info3
          generalize okTo b set k (b.gs.length + b.ps.length) = okv at *
          have hBB := hB.drew.trans (hB2.mono (by simp; omega))
          have hbase : w.heap.size + 1 ≤ wr.heap.size := by simp at z2; omega
          cases okv
          · go_wp2_with fail
            exact ⟨⟨k + 1, by omega, by go_num, hBB, l, by show _ = _; rw [HRS.out, HF.out, ← HL.out]; simp, by omega, hown2⟩, by simp [intOf]; omega⟩
          · go_wp2_with (at_builtin; refine wpList_append_own _ rfl _ _ 67 rfl (w.heap.size + 1) 3 i0 (.int .i64 0) 1 8 Try.underlying67 hi hz0 hz1 hz2 rfl (by decide) _ _ _ rfl (hown2.alloc _) ⟨wr.heap.size, 0, none⟩ 1 1 [.int .i64 k] rfl rfl (cell_one_new _ _ _) (by simp [Value.oneCell']) (by unfold maxLen; omega) (by omega) (by simp; omega) ?_; intro v' w1 hown' hgrow _)
            have hBC := (hBB.alloc hbase (.cells #[.int .i64 k] 3)).grown hgrow (by simp; omega) (fun j e => (hown2.lt j e).1)
            refine ⟨⟨k + 1, by omega, by go_num, hBC, l ++ [k], ?_, by simp; omega, ?_⟩, by simp [intOf]; omega⟩
            · show _ = _
              rw [HRS.out, HF.out, ← HL.out]; simp
            · simpa [natV] using hown'
    · go_wp2_with (go_at_call 82; refine (HPW.out _).mono ?_; rintro e w' ⟨rfl, rfl⟩)
      go_ret
      obtain ⟨a, c, rfl, hI⟩ := IntsAt.of_own hown
      have hkp : k = p2 := by omega
      subst hkp
      have hTL : l = TL := HL.out.trans HT.out.symm
      subst hTL
      refine ⟨a, c, rfl, hI, ?_⟩
      exact ((Below.refl w.heap.size w).alloc (Nat.le_refl _) _).trans (hB.mono (by omega))
end Go.Proofs.Ytjbjmoghloabpaa
