/- Parts of a proof: BnU. -/
import Derived.Test.YtjbjmoghloabpaaP11
import Derived.Test.YtjbjmoghloabpaaP02
import Derived.Test.YtjbjmoghloabpaaP12
set_option linter.unusedVariables false
set_option linter.unusedSimpArgs false
namespace Go.Proofs.Ytjbjmoghloabpaa
open Go.RowKit Go.Proofs
attribute [local irreducible] Ord.walk

set_option maxHeartbeats 4000000 in
set_option maxRecDepth 100000 in
theorem b_open_no (b : Bn) (ga : Option Addr) (gc : Nat) (pa : Option Addr) (pc : Nat) (F : FuncId) (cap : Array Value) (w : World)
    (hgl : b.gs.length ≤ 9223372036854775807) (hpl : b.ps.length ≤ 9223372036854775807) (hh : headOk b = false) :
    Calls Try.prog 45 #[bv b ga gc pa pc, .func (.func F) #[] cap] w (Stops 1 w) := by
  unfold bv
  rcases b with ⟨V, nd, lo, hi, gs, ps⟩
  have HH := Lib.hid hh
  simp only at hgl hpl
  clear hh
  go_enter Try.func45, Try.ntmps45
  go_wp2_with (first
    | (go_at_call 96; refine (b_within _ _ _ _).mono ?_; rintro e w' ⟨rfl, rfl⟩)
    | (go_at_call 95; refine (b_isSpan _ _ _ _).mono ?_; rintro e w2 ⟨rfl, hb2⟩; obtain ⟨c2, f2, z2⟩ := after hb2 rfl)
    | (go_at_call 75; refine (b_isNumber _ V _ _ ?_).mono ?_; (focus (simp [go_sem]; done)); rintro e w' ⟨rfl, rfl⟩)
    | (go_at_call 76; refine at_stop ?_))
  all_goals (unfold Stop)
  all_goals (try (rw [show decide ((ps.length : Int) ≤ 4) = false from (by
    have := HH.out
    simp [headOk, *] at this
    simp; omega)]))
  all_goals (with_reducible refine (b_must_no _ _).mono ?_)
  all_goals (rintro e w' ⟨rfl, rfl⟩)
  all_goals (refine ⟨rfl, rfl, ?_⟩)
  all_goals (repeat (first | assumption | exact Below.refl _ _ | refine Below.drew ?_ | refine Below.alloc ?_ (by first | omega | (simp; done) | (simp; omega)) _ | refine Below.setCell ?_ (by first | omega | (simp; done) | (simp; omega)) _ | refine Below.trans ?_ (Below.mono (by assumption) (by first | omega | (simp; done) | (simp; omega)))))
/-- What is known of a vote. -/
def gkn (g : Int × Int × Int) : Kn := .g g.1.toNat g.2.1 g.2.2
def pkn (p : Int × Int × Bool) : Kn := .p p.1.toNat p.2.1.toNat p.2.2
def knOf (b : Bn) : List Kn := b.gs.map gkn ++ b.ps.map pkn
def OpenPost (b : Bn) (isB : Bool) (ga : Option Addr) (gc : Nat) (pa : Option Addr) (pc : Nat) (w : World) (e : Ending) (w' : World) : Prop :=
  if valid b = false then Stops 1 w e w' else if isB = false then Stops 2 w e w' else
    ∃ v ka kc, e = .returned (.pointer (some ⟨v, 0, none⟩)) ∧ Vt w' v b b.V.toNat (knOf b) ga gc pa pc ka kc ∧ Below w.heap.size w w' ∧ w.heap.size ≤ v
theorem own_row {w : World} {base : Nat} {e : TypeId} {size : Nat} {v : Value} {n : Nat} {xs : List Value} (h : w.ownsRow base e size v n xs) : ∀ g, v.ownBlock = some g → base ≤ g := by
  intro g hg
  obtain ⟨hl, ⟨rfl, -⟩ | ⟨g', cap, cur, rfl, hg', hh, hn, hc, hs, ht⟩⟩ := h
  · cases hg
  · simp only [Value.ownBlock, Option.some.injEq] at hg
    omega
theorem own_slice {w : World} {base : Nat} {e : TypeId} {size : Nat} {v : Value} {n : Nat} {xs : List Value} (h : w.ownsRow base e size v n xs) (hn : 0 < n) : ∃ g c, v = .slice (some ⟨g, 0, none⟩) n c := by
  obtain ⟨hl, ⟨-, h0⟩ | ⟨g', cap, cur, rfl, hg', hh, hn, hc, hs, ht⟩⟩ := h
  · omega
  · exact ⟨_, _, rfl⟩
theorem own_keep {w w' : World} {base : Nat} {e : TypeId} {size : Nat} {v : Value} {n : Nat} {xs : List Value} (h : w.ownsRow base e size v n xs) (hk : ∀ g, base ≤ g → g < w.heap.size → w'.heap[g]? = w.heap[g]?) : w'.ownsRow base e size v n xs := by
  obtain ⟨hl, h | ⟨g, cap, cur, hv, hg, hh, hn, hc, hs, ht⟩⟩ := h
  · exact ⟨hl, .inl h⟩
  · exact ⟨hl, .inr ⟨g, cap, cur, hv, hg, (hk g hg (lt_of_block hh)).trans hh, hn, hc, hs, ht⟩⟩
theorem own_kn {w : World} {base : Nat} {v : Value} {ks : List Kn} (h : w.ownsRow base 76 1 v ks.length (ks.map knV)) : ∃ ka kc, v = .slice ka ks.length kc ∧ KnAt w ka ks := by
  obtain ⟨hl, ⟨rfl, h0⟩ | ⟨g, cap, cur, rfl, hg, hh, hn, hc, hs, ht⟩⟩ := h
  · refine ⟨none, 0, by rw [h0], fun i hi => by omega⟩
  · refine ⟨_, cap, rfl, fun i hi => ⟨g, 0, rfl, ?_⟩⟩
    rw [cell_of_row w g (0 + i) cur _ (0, 0) hh, Nat.zero_add]
    have h1 : (ks.map knV)[i]? = some (knV ks[i]) := by simp [hi]
    rw [← ht, List.getElem?_take] at h1
    split at h1
    · simpa using h1
    · cases h1
theorem knOf_ok {b : Bn} (h : valid b = true) : ∀ x ∈ knOf b, knOk x := by
  intro x hx
  rcases List.mem_append.1 hx with hx | hx
  · obtain ⟨g, hg, rfl⟩ := List.mem_map.1 hx
    obtain ⟨i, hi, rfl⟩ := List.mem_iff_getElem.1 hg
    have := valid_g h hi
    show _ < 256
    omega
  · obtain ⟨p, hp, rfl⟩ := List.mem_map.1 hx
    obtain ⟨i, hi, rfl⟩ := List.mem_iff_getElem.1 hp
    have := valid_p h hi
    have hV := valid_V h
    exact ⟨by show _ < 8; omega, by show _ < 8; omega⟩
theorem knOf_gs (b : Bn) : (knOf b).countP isG = b.gs.length := by
  unfold knOf
  rw [List.countP_append, List.countP_map, List.countP_map]
  have h1 : (isG ∘ gkn) = fun _ => true := by funext g; rfl
  have h2 : (isG ∘ pkn) = fun _ => false := by funext g; rfl
  rw [h1, h2]; simp
theorem knOf_len (b : Bn) : (knOf b).length = b.gs.length + b.ps.length := by simp [knOf]
/-- What a loop of open keeps. -/
structure OpenAt (w0 : World) (V nd lo hi : Int) (ga : Option Addr) (gl gc : Nat) (pa : Option Addr) (pl pc : Nat) (ks : List Kn) (w : World) (vs : Value) : Prop where
  below : Below w0.heap.size w0 w
  bb : Blk w w0.heap.size #[.int .i64 V, .int .i64 nd, .int .i64 lo, .int .i64 hi, .slice ga gl gc, .slice pa pl pc] 27
  bv : Blk w (w0.heap.size + 1) #[.int .i64 V, .int .i64 nd, .int .i64 lo, .int .i64 hi, .slice ga gl gc, .slice pa pl pc, vs] 114
  own : w.ownsRow (w0.heap.size + 2) 76 1 vs ks.length (ks.map knV)
  size : w0.heap.size + 2 ≤ w.heap.size

set_option maxHeartbeats 4000000 in
set_option maxRecDepth 100000 in
theorem b_open_yes (b : Bn) (ga : Option Addr) (gc : Nat) (pa : Option Addr) (pc : Nat) (F : FuncId) (cap : Array Value) (isB : Bool) (w : World) (hg : GsAt w ga b.gs) (hp : PsAt w pa b.ps) (hh : headOk b = true)
    (hcf : ∀ (args : Array Value) (W : World), (callFunc F args).run Try.prog W = .ok (.enter F args) W) (HIS0 : ∀ w' v, Below w.heap.size w w' → w'.cell? ⟨v, 0, none⟩ = some (.int .i64 b.V) → Calls Try.prog F (#[.pointer (some ⟨v, 0, none⟩)] ++ cap) w' (Same (.bool isB) w')) :
    Calls Try.prog 45 #[bv b ga gc pa pc, .func (.func F) #[] cap] w (OpenPost b isB ga gc pa pc w) := by
  have HIS := Lib.hid HIS0
  clear HIS0
  have HPOST : Hid (∀ e w', OpenPost b isB ga gc pa pc w e w' = OpenPost b isB ga gc pa pc w e w') := fun _ _ => rfl
  unfold bv
  have GNO : Hid (∀ {k : Nat} (hk : k < b.gs.length), gOk b.V b.gs[k] = false → valid b = false) := Lib.hid gOk_no
  have PNO : Hid (∀ {k : Nat} (hk : k < b.ps.length), pOk b.V b.ps[k] = false → valid b = false) := Lib.hid pOk_no
  simp only [headOk, Bool.and_eq_true, decide_eq_true_eq] at hh
  obtain ⟨⟨⟨⟨h1, h2⟩, h3⟩, h4⟩, h5⟩ := hh
  have h6 : (b.gs.length : Int) ≤ 4 := by omega
  have h7 : (b.ps.length : Int) ≤ 4 := by omega
  have hV := inB_of h1
  rcases b with ⟨V, nd, lo, hi, gs, ps⟩
  simp only at h1 h2 h3 h4 h5 h6 h7 hV hg hp
  obtain ⟨VN, rfl⟩ : ∃ VN : Nat, V = (VN : Int) := ⟨V.toNat, by omega⟩
  have HM := Lib.hid b_must_yes
  obtain ⟨i0, hi0, hz0, hz1, hz2⟩ := info_parts info_known
  go_enter Try.func45, Try.ntmps45
  go_wp2_with (first
    | (go_at_call 96; refine (b_within _ _ _ _).mono ?_; rintro e w' ⟨rfl, rfl⟩)
    | (go_at_call 95; refine (b_isSpan _ _ _ _).mono ?_; rintro e w2 ⟨rfl, hb2⟩; obtain ⟨c2, f2, z2⟩ := after hb2 rfl)
    | (go_at_call 75; refine (b_isNumber _ VN _ _ ?_).mono ?_; (focus (simp [go_sem]; done)); rintro e w' ⟨rfl, rfl⟩)
    | (go_at_call 76; refine at_stop ?_))
  unfold Stop
  refine (HM.out _ _).mono ?_
  rintro e w' ⟨rfl, rfl⟩
  have hbW : Below w.heap.size w w2 := by (repeat (first | assumption | exact Below.refl _ _ | refine Below.drew ?_ | refine Below.alloc ?_ (by first | omega | (simp; done) | (simp; omega)) _ | refine Below.setCell ?_ (by first | omega | (simp; done) | (simp; omega)) _ | refine Below.trans ?_ (Below.mono (by assumption) (by first | omega | (simp; done) | (simp; omega)))))
  have hs2 : w.heap.size + 2 ≤ w2.heap.size := by have := hb2.size; simp at this; omega
  have bb2 : Blk w2 w.heap.size #[.int .i64 VN, .int .i64 nd, .int .i64 lo, .int .i64 hi, .slice ga gs.length gc, .slice pa ps.length pc] 27 := ((Blk.new _ _ _).alloc _).below hb2 (by first | omega | (simp; done) | (simp; omega))
  have bv2 : Blk w2 (w.heap.size + 1) #[.int .i64 VN, .int .i64 nd, .int .i64 lo, .int .i64 hi, .slice ga gs.length gc, .slice pa ps.length pc, .slice none 0 0] 114 := (Blk.new' _ _ _ _ (by simp)).below hb2 (by first | omega | (simp; done) | (simp; omega))
  have h0 : OpenAt w VN nd lo hi ga gs.length gc pa ps.length pc ((gs.take 0).map gkn) w2 (.slice none 0 0) := ⟨hbW, bb2, bv2, ⟨rfl, .inl ⟨rfl, rfl⟩⟩, hs2⟩
  have rb := bb2.cell
  clear hb2 c2 f2 z2 hbW hs2 bv2
  go_wp2_with fail
  go_loopw [47] (fun i wr => ∃ (k : Nat) (vs : Value), k ≤ gs.length ∧ i = .int .i64 k ∧ (gs.take k).all (gOk VN) = true ∧ OpenAt w VN nd lo hi ga gs.length gc pa ps.length pc ((gs.take k).map gkn) wr vs) (fun i _ => gs.length - (intOf i).toNat)
  case atStart => exact ⟨0, _, Nat.zero_le _, rfl, by simp, h0⟩
  case round =>
    clear h0 rb bb2
    obtain ⟨k, vs, hk, rfl, hall, hAt⟩ := hrel
    have HA := Lib.hid hall
    clear hall
    have rb := hAt.bb.cell
    by_cases hlt : k < gs.length
    · obtain ⟨gb, go, rfl, e1, e2, e3⟩ := hg k hlt
      have hgb : gb < w.heap.size := World.block_lt_of_cell? w _ e1
      have i1 := cell_later hAt.below e1
      have i2 := cell_later hAt.below e2
      have i3 := cell_later hAt.below e3
      have HOK := Lib.hid (GNO.out hlt)
      have hlt' : (k : Int) < gs.length := by omega
      have HTE := Lib.hid (fun h1 => all_take gs (gOk VN) k hlt HA.out h1)
      have HTK := Lib.hid (List.take_succ_eq_append_getElem hlt)
      generalize gs[k] = g at *
      rcases g with ⟨gv, gl, gh⟩
      simp only at i1 i2 i3
      clear e1 e2 e3
      go_wp2_with fail
      have hwp := wrap_pow VN (by omega)
      have hgk : gOk VN (gv, gl, gh) = (inB gv 0 (((2 ^ VN : Nat) : Int) - 1) && spanB gl gh 8) := rfl
      have hPl := Nat.pow_le_pow_right (n := 2) (by omega) (show VN ≤ 8 by omega)
      have hPg := Nat.two_pow_pos VN
      generalize hp2 : 2 ^ VN = P at hwp hgk hPl hPg
      replace hPl : P ≤ 256 := hPl
      clear hp2
      obtain ⟨w3, hw3⟩ : ∃ w3, w3 = wr.alloc (.cells #[.int .i64 gv, .int .i64 gl, .int .i64 gh] 49) := ⟨_, rfl⟩
      have hbr : Below wr.heap.size wr w3 := by rw [hw3]; exact (Below.refl _ _).alloc (Nat.le_refl _) _
      have b8 : Blk w3 wr.heap.size #[.int .i64 gv, .int .i64 gl, .int .i64 gh] 49 := by rw [hw3]; exact Blk.new _ _ _
      have hs3 : w3.heap.size = wr.heap.size + 1 := by rw [hw3]; simp
      rw [← hw3]
      clear hw3
      have bb3 := hAt.bb.below hbr hAt.bb.lt
      have r8 := b8.cell
      have r9 := bb3.cell
      clear rb i1 i2 i3
      have hz := hAt.size
      generalize hgk0 : wr.heap.size = gk at *
      have HGK0 := Lib.hid hgk0
      clear hgk0
      cases hc1 : inB gv 0 ((P : Int) - 1)
      · have hv := HOK.out (by rw [hgk, hc1]; rfl)
        clear hgk HTE HOK
        refine Ord.wp_region [(0, 0), (1, 0), (2, 0), (3, 0), (4, 0), (5, 0), (6, 0), (7, 0), (8, 0), (9, 0), (10, 0), (11, 2), (12, 0), (13, 2)] (fun _ => True) (by kernel_rfl) (by kernel_rfl) (fun c a d v w h => by cases d <;> exact h) trivial ?_
        go_wp2_with (first
          | (go_at_call 76; refine at_stop ?_)
          | ((with_reducible refine Ord.at_calm ?_); refine Ord.calm_skip rfl ?_ (fun K hK => ?_); (focus (simp [Region.wanted, yielded]; done))) | with_reducible refine Ord.walk_calm rfl rfl (fun K hK => ?_) | ((with_reducible refine Ord.at_wild ?_); refine Ord.wild_fieldAddr rfl rfl (fun W => by simp [go_sem]; rfl) (fun K hK => ?_)) | ((with_reducible refine Ord.at_wild ?_); refine Ord.wild_move rfl rfl (fun K hK => ?_)) | ((with_reducible refine Ord.at_wild ?_); refine Ord.wild_nilCheck rfl rfl (fun K hK => ?_)) | with_reducible refine Ord.walk_eff rfl (by first | (simp; done) | assumption | (go_simp; done) | (repeat (first | assumption | exact Below.refl _ _ | refine Below.drew ?_ | refine Below.alloc ?_ (by first | omega | (simp; done) | (simp; omega)) _ | refine Below.setCell ?_ (by first | omega | (simp; done) | (simp; omega)) _ | refine Below.trans ?_ (Below.mono (by assumption) (by first | omega | (simp; done) | (simp; omega)))))) (fun K hK => ?_) | with_reducible refine Ord.at_fork ?_ ?_ | with_reducible refine Ord.walk_nil ?_ | (with_reducible refine Ord.next_of (by first | (simp; done) | (go_simp; done) | (repeat (first | assumption | exact Below.refl _ _ | refine Below.drew ?_ | refine Below.alloc ?_ (by first | omega | (simp; done) | (simp; omega)) _ | refine Below.setCell ?_ (by first | omega | (simp; done) | (simp; omega)) _ | refine Below.trans ?_ (Below.mono (by assumption) (by first | omega | (simp; done) | (simp; omega)))))) (fun _ => ?_))
          | ((with_reducible refine Ord.at_calm ?_); refine Ord.calm_call rfl (fun W => Try.call96 _ W) (b_within _ _ _ _) (fun K hK => ?_)) | ((with_reducible refine Ord.at_wild ?_); refine Ord.wild_call rfl (fun W => Try.call96 _ W) (fun W hW => b_within _ _ _ _) (fun K hK => ?_)))
        unfold Stop
        with_reducible refine (b_must_no _ _).mono ?_
        rintro e w' ⟨rfl, rfl⟩
        refine ⟨rfl, ?_⟩
        unfold OpenPost
        rw [if_pos hv]
        exact ⟨rfl, (hAt.below.trans (hbr.mono (by omega))).drew⟩
      · cases hc2 : spanB gl gh 8
        · have hv := HOK.out (by rw [hgk, hc1, hc2]; rfl)
          clear hgk HTE HOK
          refine Ord.wp_region [(0, 0), (1, 0), (2, 0), (3, 0), (4, 0), (5, 0), (6, 0), (7, 0), (8, 0), (9, 0), (10, 0), (11, 2), (12, 0), (13, 2)] (fun _ => True) (by kernel_rfl) (by kernel_rfl) (fun c a d v w h => by cases d <;> exact h) trivial ?_
          go_wp2_with (first
            | (go_at_call 76; refine at_stop ?_)
            | (go_at_call 95; refine (b_isSpan _ _ _ _).mono ?_; rintro e w4 ⟨rfl, hb4⟩)
            | ((with_reducible refine Ord.at_calm ?_); refine Ord.calm_skip rfl ?_ (fun K hK => ?_); (focus (simp [Region.wanted, yielded]; done))) | with_reducible refine Ord.walk_calm rfl rfl (fun K hK => ?_) | ((with_reducible refine Ord.at_wild ?_); refine Ord.wild_fieldAddr rfl rfl (fun W => by simp [go_sem]; rfl) (fun K hK => ?_)) | ((with_reducible refine Ord.at_wild ?_); refine Ord.wild_move rfl rfl (fun K hK => ?_)) | ((with_reducible refine Ord.at_wild ?_); refine Ord.wild_nilCheck rfl rfl (fun K hK => ?_)) | with_reducible refine Ord.walk_eff rfl (by first | (simp; done) | assumption | (go_simp; done) | (repeat (first | assumption | exact Below.refl _ _ | refine Below.drew ?_ | refine Below.alloc ?_ (by first | omega | (simp; done) | (simp; omega)) _ | refine Below.setCell ?_ (by first | omega | (simp; done) | (simp; omega)) _ | refine Below.trans ?_ (Below.mono (by assumption) (by first | omega | (simp; done) | (simp; omega)))))) (fun K hK => ?_) | with_reducible refine Ord.at_fork ?_ ?_ | with_reducible refine Ord.walk_nil ?_ | (with_reducible refine Ord.next_of (by first | (simp; done) | (go_simp; done) | (repeat (first | assumption | exact Below.refl _ _ | refine Below.drew ?_ | refine Below.alloc ?_ (by first | omega | (simp; done) | (simp; omega)) _ | refine Below.setCell ?_ (by first | omega | (simp; done) | (simp; omega)) _ | refine Below.trans ?_ (Below.mono (by assumption) (by first | omega | (simp; done) | (simp; omega)))))) (fun _ => ?_))
            | ((with_reducible refine Ord.at_calm ?_); refine Ord.calm_call rfl (fun W => Try.call96 _ W) (b_within _ _ _ _) (fun K hK => ?_)) | ((with_reducible refine Ord.at_wild ?_); refine Ord.wild_call rfl (fun W => Try.call96 _ W) (fun W hW => b_within _ _ _ _) (fun K hK => ?_)))
          unfold Stop
          with_reducible refine (b_must_no _ _).mono ?_
          rintro e w' ⟨rfl, rfl⟩
          refine ⟨rfl, ?_⟩
          unfold OpenPost
          rw [if_pos hv]
          exact ⟨rfl, ((hAt.below.trans (hbr.mono (by omega))).drew).trans (hb4.mono (by show _ ≤ w3.heap.size; omega))⟩
        · have hte := HTE.out (by rw [hgk, hc1, hc2]; rfl)
          have HTE2 := Lib.hid hte
          have hgv := inB_of hc1
          clear hgk HTE HOK hte
          refine Ord.wp_region [(0, 0), (1, 0), (2, 0), (3, 0), (4, 0), (5, 0), (6, 0), (7, 0), (8, 0), (9, 0), (10, 0), (11, 2), (12, 0), (13, 2)] (fun _ => True) (by kernel_rfl) (by kernel_rfl) (fun c a d v w h => by cases d <;> exact h) trivial ?_
          go_wp2_with (first
            | (go_at_call 76; refine (HM.out _ _).mono ?_; rintro e w' ⟨rfl, rfl⟩)
            | (go_at_call 95; refine (b_isSpan _ _ _ _).mono ?_; rintro e w4 ⟨rfl, hb4⟩)
            | ((with_reducible refine Ord.at_calm ?_); refine Ord.calm_skip rfl ?_ (fun K hK => ?_); (focus (simp [Region.wanted, yielded]; done))) | with_reducible refine Ord.walk_calm rfl rfl (fun K hK => ?_) | ((with_reducible refine Ord.at_wild ?_); refine Ord.wild_fieldAddr rfl rfl (fun W => by simp [go_sem]; rfl) (fun K hK => ?_)) | ((with_reducible refine Ord.at_wild ?_); refine Ord.wild_move rfl rfl (fun K hK => ?_)) | ((with_reducible refine Ord.at_wild ?_); refine Ord.wild_nilCheck rfl rfl (fun K hK => ?_)) | with_reducible refine Ord.walk_eff rfl (by first | (simp; done) | assumption | (go_simp; done) | (repeat (first | assumption | exact Below.refl _ _ | refine Below.drew ?_ | refine Below.alloc ?_ (by first | omega | (simp; done) | (simp; omega)) _ | refine Below.setCell ?_ (by first | omega | (simp; done) | (simp; omega)) _ | refine Below.trans ?_ (Below.mono (by assumption) (by first | omega | (simp; done) | (simp; omega)))))) (fun K hK => ?_) | with_reducible refine Ord.at_fork ?_ ?_ | with_reducible refine Ord.walk_nil ?_ | (with_reducible refine Ord.next_of (by first | (simp; done) | (go_simp; done) | (repeat (first | assumption | exact Below.refl _ _ | refine Below.drew ?_ | refine Below.alloc ?_ (by first | omega | (simp; done) | (simp; omega)) _ | refine Below.setCell ?_ (by first | omega | (simp; done) | (simp; omega)) _ | refine Below.trans ?_ (Below.mono (by assumption) (by first | omega | (simp; done) | (simp; omega)))))) (fun _ => ?_))
            | ((with_reducible refine Ord.at_calm ?_); refine Ord.calm_call rfl (fun W => Try.call96 _ W) (b_within _ _ _ _) (fun K hK => ?_)) | ((with_reducible refine Ord.at_wild ?_); refine Ord.wild_call rfl (fun W => Try.call96 _ W) (fun W hW => b_within _ _ _ _) (fun K hK => ?_)))
          have hBw4 : Below w.heap.size w w4 := ((hAt.below.trans (hbr.mono (by omega))).drew).trans (hb4.mono (by show _ ≤ w3.heap.size; omega))
          have bb4 := bb3.drew.below hb4 (by show _ < w3.heap.size; have := bb3.lt; omega)
          have bv3 := hAt.bv.below hbr (by omega)
          have bv4 := bv3.drew.below hb4 (by show _ < w3.heap.size; omega)
          have b84 := b8.drew.below hb4 (by show _ < w3.heap.size; omega)
          have hown4 : w4.ownsRow (w.heap.size + 2) 76 1 vs ((gs.take k).map gkn).length (((gs.take k).map gkn).map knV) := ownsRow_below (ownsRow_below hAt.own (by rw [HGK0.out]; exact hbr)).drew hb4
          have hs4 : gk + 1 ≤ w4.heap.size := by have := hb4.size; have h2 : w3.drew.heap.size = w3.heap.size := rfl; omega
          have c6 := bv4.cell 6
          have c84 := b84.cell
          have f6 := bv4.free
          obtain ⟨gn, rfl⟩ : ∃ gn : Nat, gv = (gn : Int) := ⟨gv.toNat, by omega⟩
          have hvb : w.heap.size + 1 < w4.heap.size := by omega
          clear hb4 hbr b8 r8 r9 bb3 hs3
          refine Ord.Two.wp_region [(0, 1), (1, 1), (2, 1), (3, 1), (4, 1), (5, 0), (6, 0), (7, 0), (8, 0), (9, 0), (10, 0), (11, 0), (12, 2), (13, 2)] [(14, 0), (15, 0), (16, 2)] (fun W => W.cell? ⟨w.heap.size + 1, 6, none⟩ = some vs) (by kernel_rfl) (by kernel_rfl) (fun c a d v w h => by cases d <;> exact h) c6 ?_
          go_wp2_with (first
            | (with_reducible refine Ord.Two.walk_next ?_)
            | (at_builtin; refine at_stop ?_)
            | ((with_reducible refine Ord.at_wild ?_); refine Ord.wild_load (ad := ⟨w.heap.size + 1, 6, none⟩) vs rfl rfl ?_ ?_; (focus (intro W hW; simp [go_sem, hW]; done)); intro K hK)
            | ((with_reducible refine Ord.walk_eff rfl ?_ (fun K hK => ?_)); (focus (first | assumption | exact c6 | (simp [c6]; done) | (rw [World.cell?_alloc_ite, if_neg (by omega)]; exact c6))))
            | ((with_reducible refine Ord.next_of ?_ (fun hOF => ?_)); (focus (first | assumption | exact c6 | (simp [c6]; done) | (rw [World.cell?_alloc_ite, if_neg (by omega)]; exact c6))))
            | ((with_reducible refine Ord.at_calm ?_); refine Ord.calm_skip rfl ?_ (fun K hK => ?_); (focus (simp [Region.wanted, yielded]; done))) | with_reducible refine Ord.walk_calm rfl rfl (fun K hK => ?_) | ((with_reducible refine Ord.at_wild ?_); refine Ord.wild_fieldAddr rfl rfl (fun W => by simp [go_sem]; rfl) (fun K hK => ?_)) | ((with_reducible refine Ord.at_wild ?_); refine Ord.wild_move rfl rfl (fun K hK => ?_)) | ((with_reducible refine Ord.at_wild ?_); refine Ord.wild_nilCheck rfl rfl (fun K hK => ?_)) | with_reducible refine Ord.walk_eff rfl (by first | (simp; done) | assumption | (go_simp; done) | (repeat (first | assumption | exact Below.refl _ _ | refine Below.drew ?_ | refine Below.alloc ?_ (by first | omega | (simp; done) | (simp; omega)) _ | refine Below.setCell ?_ (by first | omega | (simp; done) | (simp; omega)) _ | refine Below.trans ?_ (Below.mono (by assumption) (by first | omega | (simp; done) | (simp; omega)))))) (fun K hK => ?_) | with_reducible refine Ord.at_fork ?_ ?_ | with_reducible refine Ord.walk_nil ?_ | (with_reducible refine Ord.next_of (by first | (simp; done) | (go_simp; done) | (repeat (first | assumption | exact Below.refl _ _ | refine Below.drew ?_ | refine Below.alloc ?_ (by first | omega | (simp; done) | (simp; omega)) _ | refine Below.setCell ?_ (by first | omega | (simp; done) | (simp; omega)) _ | refine Below.trans ?_ (Below.mono (by assumption) (by first | omega | (simp; done) | (simp; omega)))))) (fun _ => ?_)))
          unfold Stop
          have hlen : ((gs.take k).map gkn).length = k := by simp; omega
          have hvb4 := bv4.lt
          refine wpList_append_own _ rfl (.tmp 69) (.tmp 77) 112 rfl (w.heap.size + 2) 76 i0 .nilIface 1 16 Try.underlying112 hi0 hz0 hz1 hz2 rfl (by decide) vs ((gs.take k).map gkn).length (((gs.take k).map gkn).map knV) rfl (World.ownsRow.alloc hown4 _).drew ⟨w4.heap.size, 0, none⟩ 1 1 [knV (gkn ((gn : Int), gl, gh))] rfl rfl (news_blk (A := #[knV (gkn ((gn : Int), gl, gh))]) (Blk.new _ _ _).drew) (by intro u hu; simp only [List.mem_singleton] at hu; subst hu; exact knV_one _) (by rw [hlen]; unfold maxLen; omega) (by rw [hlen]; omega) (by show _ ≤ (w4.alloc _).heap.size; simp; omega) ?_
          intro v5 w5 hown5 hgrow5 _
          have hO5 : Off [] (w.heap.size + 2) w4 w5 := (((Off.refl [] (w.heap.size + 2) w4).alloc (by omega) _).drew).grown hgrow5 (by show _ ≤ (w4.alloc _).heap.size; simp; omega) (fun g hg => .inr (own_row hown4 g hg))
          have bb5 := hO5.blk bb4 (by omega) (by simp)
          have bv5 := hO5.blk bv4 (by omega) (by simp)
          have hB5 : Below w.heap.size w w5 := hBw4.trans (hO5.below (by omega) (by simp))
          have hs5 := hgrow5.size
          have hs5' : w4.heap.size + 1 ≤ w5.heap.size := by have : (w4.alloc (.cells #[knV (gkn ((gn : Int), gl, gh))] 76)).drew.heap.size = w4.heap.size + 1 := by simp
                                                            have h2 := hs5; simp at h2; omega
          obtain ⟨g5, q5, rfl⟩ := own_slice hown5 (by omega)
          have c6' := bv5.cell 6
          have f6' := bv5.free
          clear f6 c84 hgrow5 hs5
          go_wp2_with (first
            | (with_reducible refine Ord.Two.walk_next ?_)
            | ((with_reducible refine Ord.walk_eff rfl ?_ (fun K hK => ?_)); (focus trivial))
            | ((with_reducible refine Ord.next_of ?_ (fun hOF => ?_)); (focus (first | exact c6' | trivial)))
            | ((with_reducible refine Ord.at_calm ?_); refine Ord.calm_skip rfl ?_ (fun K hK => ?_); (focus (simp [Region.wanted, yielded]; done))) | with_reducible refine Ord.walk_calm rfl rfl (fun K hK => ?_) | ((with_reducible refine Ord.at_wild ?_); refine Ord.wild_fieldAddr rfl rfl (fun W => by simp [go_sem]; rfl) (fun K hK => ?_)) | ((with_reducible refine Ord.at_wild ?_); refine Ord.wild_move rfl rfl (fun K hK => ?_)) | ((with_reducible refine Ord.at_wild ?_); refine Ord.wild_nilCheck rfl rfl (fun K hK => ?_)) | with_reducible refine Ord.walk_eff rfl (by first | (simp; done) | assumption | (go_simp; done) | (repeat (first | assumption | exact Below.refl _ _ | refine Below.drew ?_ | refine Below.alloc ?_ (by first | omega | (simp; done) | (simp; omega)) _ | refine Below.setCell ?_ (by first | omega | (simp; done) | (simp; omega)) _ | refine Below.trans ?_ (Below.mono (by assumption) (by first | omega | (simp; done) | (simp; omega)))))) (fun K hK => ?_) | with_reducible refine Ord.at_fork ?_ ?_ | with_reducible refine Ord.walk_nil ?_ | (with_reducible refine Ord.next_of (by first | (simp; done) | (go_simp; done) | (repeat (first | assumption | exact Below.refl _ _ | refine Below.drew ?_ | refine Below.alloc ?_ (by first | omega | (simp; done) | (simp; omega)) _ | refine Below.setCell ?_ (by first | omega | (simp; done) | (simp; omega)) _ | refine Below.trans ?_ (Below.mono (by assumption) (by first | omega | (simp; done) | (simp; omega)))))) (fun _ => ?_)))
          rw [hlen] at hown5
          refine ⟨⟨k + 1, .slice (some ⟨g5, 0, none⟩) (k + 1) q5, by omega, by go_num, HTE2.out, hB5.setCell (by show _ ≤ _ + 1; omega) _, bb5.other (by show w.heap.size ≠ w.heap.size + 1; omega) _, bv5.set 6 _, ?_, by simp; omega⟩, by simp [intOf]; omega⟩
          have h9 := own_keep (w' := w5.setCell ⟨w.heap.size + 1, 6, none⟩ (.slice (some ⟨g5, 0, none⟩) (k + 1) q5)) hown5 (fun g h1 h2 => Below.heap_setCell w5 _ _ g (by show g ≠ w.heap.size + 1; omega))
          rw [HTK.out, List.map_append, List.map_append, List.length_append, hlen]
          exact h9
    · have hkl : k = gs.length := by omega
      subst hkl
      rw [List.take_length] at hAt HA
      have rv0 := hAt.bv.cell
      go_wp2_with fail
      go_loopw [85] (fun i wx => ∃ (j : Nat) (vs : Value), j ≤ ps.length ∧ i = .int .i64 j ∧ (ps.take j).all (pOk VN) = true ∧ OpenAt w VN nd lo hi ga gs.length gc pa ps.length pc (gs.map gkn ++ (ps.take j).map pkn) wx vs) (fun i _ => ps.length - (intOf i).toNat)
      case atStart => exact ⟨0, vs, Nat.zero_le _, rfl, by simp, by simpa using hAt⟩
      case round =>
        clear hAt rb rv0
        obtain ⟨j, vs2, hj, rfl, hallp, hAt⟩ := hrel
        have HAP := Lib.hid hallp
        clear hallp
        have rb := hAt.bb.cell
        have rv := hAt.bv.cell
        by_cases hjt : j < ps.length
        · obtain ⟨pb, po, rfl, e1, e2, e3⟩ := hp j hjt
          have hpb : pb < w.heap.size := World.block_lt_of_cell? w _ e1
          have i1 := cell_later hAt.below e1
          have i2 := cell_later hAt.below e2
          have i3 := cell_later hAt.below e3
          have HOK := Lib.hid (PNO.out hjt)
          have hjt' : (j : Int) < ps.length := by omega
          have HTE := Lib.hid (fun h1 => all_take ps (pOk VN) j hjt HAP.out h1)
          have HTK := Lib.hid (List.take_succ_eq_append_getElem hjt)
          generalize ps[j] = p at *
          rcases p with ⟨pA, pB, pS⟩
          simp only at i1 i2 i3
          clear e1 e2 e3
          go_wp2_with (first
            | (go_at_call 53; refine at_stop ?_))
          unfold Stop
          have HVt : Hid (∀ n W, W.cell? ⟨w.heap.size + 1, 0, none⟩ = some (.int .i64 VN) → Calls Try.prog 53 #[.pointer (some ⟨w.heap.size + 1, 0, none⟩), .int .i64 n] W (Same (.bool (inB n 0 ((VN : Int) - 1))) W)) := by
            intro n W hW
            have := b_isVoter (w.heap.size + 1) VN n W hW
            have hw1 : wrap64 ((VN : Int) - 1) = VN - 1 := by unfold wrap64; omega
            rwa [hw1] at this
          have hpk : pOk VN (pA, pB, pS) = (inB pA 0 ((VN : Int) - 1) && inB pB 0 ((VN : Int) - 1) && !(pA == pB)) := rfl
          obtain ⟨w3, hw3⟩ : ∃ w3, w3 = wr.alloc (.cells #[.int .i64 pA, .int .i64 pB, .bool pS] 54) := ⟨_, rfl⟩
          have hbr : Below wr.heap.size wr w3 := by rw [hw3]; exact (Below.refl _ _).alloc (Nat.le_refl _) _
          have b8 : Blk w3 wr.heap.size #[.int .i64 pA, .int .i64 pB, .bool pS] 54 := by rw [hw3]; exact Blk.new _ _ _
          have hs3 : w3.heap.size = wr.heap.size + 1 := by rw [hw3]; simp
          rw [← hw3]
          clear hw3
          have bb3 := hAt.bb.below hbr hAt.bb.lt
          have bv3 := hAt.bv.below hbr hAt.bv.lt
          have hown3 := ownsRow_below hAt.own hbr
          have r8 := b8.cell
          have rv3 : w3.cell? ⟨w.heap.size + 1, 0, none⟩ = some (.int .i64 VN) := bv3.cell 0
          have hz := hAt.size
          have hB3 : Below w.heap.size w w3 := hAt.below.trans (hbr.mono (by omega))
          clear rb rv i1 i2 i3
          generalize hgk0 : wr.heap.size = gk at *
          have HS3 := Lib.hid hs3
          clear hgk0 hs3
          cases hc1 : inB pA 0 ((VN : Int) - 1)
          · have hv := HOK.out (by rw [hpk, hc1]; rfl)
            clear hpk HTE HOK
            go_wp2_with (first
              | (go_at_call 53; refine (HVt.out _ _ rv3).mono ?_; rintro e w' ⟨rfl, rfl⟩)
              | (go_at_call 76; refine at_stop ?_))
            unfold Stop
            with_reducible refine (b_must_no _ _).mono ?_
            rintro e w' ⟨rfl, rfl⟩
            refine ⟨rfl, ?_⟩
            unfold OpenPost
            rw [if_pos hv]
            exact ⟨rfl, hB3⟩
          · cases hc2 : inB pB 0 ((VN : Int) - 1)
            · have hv := HOK.out (by rw [hpk, hc1, hc2]; rfl)
              clear hpk HTE HOK
              go_wp2_with (first
                | (go_at_call 53; refine (HVt.out _ _ rv3).mono ?_; rintro e w' ⟨rfl, rfl⟩)
                | (go_at_call 76; refine at_stop ?_))
              unfold Stop
              with_reducible refine (b_must_no _ _).mono ?_
              rintro e w' ⟨rfl, rfl⟩
              refine ⟨rfl, ?_⟩
              unfold OpenPost
              rw [if_pos hv]
              exact ⟨rfl, hB3⟩
            · cases hc3 : (pA == pB)
              · have hte := HTE.out (by rw [hpk, hc1, hc2, hc3]; rfl)
                have HTE2 := Lib.hid hte
                have hne : (pA != pB) = true := by simp [bne, hc3]
                have hgA := inB_of hc1
                have hgB := inB_of hc2
                clear hpk HTE HOK hte hc3
                go_wp2_with (first
                  | (go_at_call 53; refine (HVt.out _ _ rv3).mono ?_; rintro e w' ⟨rfl, rfl⟩)
                  | (go_at_call 76; refine (HM.out _ _).mono ?_; rintro e w' ⟨rfl, rfl⟩))
                have hs3 := HS3.out
                obtain ⟨nA, rfl⟩ : ∃ nA : Nat, pA = (nA : Int) := ⟨pA.toNat, by omega⟩
                obtain ⟨nB, rfl⟩ : ∃ nB : Nat, pB = (nB : Int) := ⟨pB.toNat, by omega⟩
                have hlen : (gs.map gkn ++ (ps.take j).map pkn).length = gs.length + j := by simp; omega
                have c6 := bv3.cell 6
                have f6 := bv3.free
                have hvb : w.heap.size + 1 < w3.heap.size := by omega
                clear hs3
                refine Ord.Two.wp_region [(0, 1), (1, 1), (2, 1), (3, 1), (4, 1), (5, 0), (6, 0), (7, 0), (8, 0), (9, 2), (10, 2)] [(11, 0), (12, 0), (13, 2)] (fun W => W.cell? ⟨w.heap.size + 1, 6, none⟩ = some vs2) (by kernel_rfl) (by kernel_rfl) (fun c a d v w h => by cases d <;> exact h) c6 ?_
                go_wp2_with (first
                  | (with_reducible refine Ord.Two.walk_next ?_)
                  | (at_builtin; refine at_stop ?_)
                  | ((with_reducible refine Ord.at_wild ?_); refine Ord.wild_load (ad := ⟨w.heap.size + 1, 6, none⟩) vs2 rfl rfl ?_ ?_; (focus (intro W hW; simp [go_sem, hW]; done)); intro K hK)
                  | ((with_reducible refine Ord.walk_eff rfl ?_ (fun K hK => ?_)); (focus (first | assumption | exact c6 | (simp [c6]; done) | (rw [World.cell?_alloc_ite, if_neg (by omega)]; exact c6))))
                  | ((with_reducible refine Ord.next_of ?_ (fun hOF => ?_)); (focus (first | assumption | exact c6 | (simp [c6]; done) | (rw [World.cell?_alloc_ite, if_neg (by omega)]; exact c6))))
                  | ((with_reducible refine Ord.at_calm ?_); refine Ord.calm_skip rfl ?_ (fun K hK => ?_); (focus (simp [Region.wanted, yielded]; done))) | with_reducible refine Ord.walk_calm rfl rfl (fun K hK => ?_) | ((with_reducible refine Ord.at_wild ?_); refine Ord.wild_fieldAddr rfl rfl (fun W => by simp [go_sem]; rfl) (fun K hK => ?_)) | ((with_reducible refine Ord.at_wild ?_); refine Ord.wild_move rfl rfl (fun K hK => ?_)) | ((with_reducible refine Ord.at_wild ?_); refine Ord.wild_nilCheck rfl rfl (fun K hK => ?_)) | with_reducible refine Ord.walk_eff rfl (by first | (simp; done) | assumption | (go_simp; done) | (repeat (first | assumption | exact Below.refl _ _ | refine Below.drew ?_ | refine Below.alloc ?_ (by first | omega | (simp; done) | (simp; omega)) _ | refine Below.setCell ?_ (by first | omega | (simp; done) | (simp; omega)) _ | refine Below.trans ?_ (Below.mono (by assumption) (by first | omega | (simp; done) | (simp; omega)))))) (fun K hK => ?_) | with_reducible refine Ord.at_fork ?_ ?_ | with_reducible refine Ord.walk_nil ?_ | (with_reducible refine Ord.next_of (by first | (simp; done) | (go_simp; done) | (repeat (first | assumption | exact Below.refl _ _ | refine Below.drew ?_ | refine Below.alloc ?_ (by first | omega | (simp; done) | (simp; omega)) _ | refine Below.setCell ?_ (by first | omega | (simp; done) | (simp; omega)) _ | refine Below.trans ?_ (Below.mono (by assumption) (by first | omega | (simp; done) | (simp; omega)))))) (fun _ => ?_)))
                unfold Stop
                have hs3 := HS3.out
                refine wpList_append_own _ rfl (.tmp 111) (.tmp 116) 112 rfl (w.heap.size + 2) 76 i0 .nilIface 1 16 Try.underlying112 hi0 hz0 hz1 hz2 rfl (by decide) vs2 (gs.map gkn ++ (ps.take j).map pkn).length ((gs.map gkn ++ (ps.take j).map pkn).map knV) rfl (World.ownsRow.alloc hown3 _).drew ⟨w3.heap.size, 0, none⟩ 1 1 [knV (pkn ((nA : Int), (nB : Int), pS))] rfl rfl (news_blk (A := #[knV (pkn ((nA : Int), (nB : Int), pS))]) (Blk.new _ _ _).drew) (by intro u hu; simp only [List.mem_singleton] at hu; subst hu; exact knV_one _) (by rw [hlen]; unfold maxLen; omega) (by rw [hlen]; omega) (by show _ ≤ (w3.alloc _).heap.size; simp; omega) ?_
                intro v5 w5 hown5 hgrow5 _
                have hO5 : Off [] (w.heap.size + 2) w3 w5 := (((Off.refl [] (w.heap.size + 2) w3).alloc (by omega) _).drew).grown hgrow5 (by show _ ≤ (w3.alloc _).heap.size; simp; omega) (fun g hg => .inr (own_row hown3 g hg))
                have bb5 := hO5.blk bb3 (by omega) (by simp)
                have bv5 := hO5.blk bv3 (by omega) (by simp)
                have hB5 : Below w.heap.size w w5 := hB3.trans (hO5.below (by omega) (by simp))
                have hs5 := hgrow5.size
                have hs5' : w3.heap.size + 1 ≤ w5.heap.size := by have h2 := hs5; simp at h2; omega
                obtain ⟨g5, q5, rfl⟩ := own_slice hown5 (by omega)
                have c6' := bv5.cell 6
                have f6' := bv5.free
                clear f6 hgrow5 hs5 hs3
                rw [hlen] at hown5
                go_wp2_with (first
                  | (with_reducible refine Ord.Two.walk_next ?_)
                  | ((with_reducible refine Ord.walk_eff rfl ?_ (fun K hK => ?_)); (focus trivial))
                  | ((with_reducible refine Ord.next_of ?_ (fun hOF => ?_)); (focus (first | exact c6' | trivial)))
                  | ((with_reducible refine Ord.at_calm ?_); refine Ord.calm_skip rfl ?_ (fun K hK => ?_); (focus (simp [Region.wanted, yielded]; done))) | with_reducible refine Ord.walk_calm rfl rfl (fun K hK => ?_) | ((with_reducible refine Ord.at_wild ?_); refine Ord.wild_fieldAddr rfl rfl (fun W => by simp [go_sem]; rfl) (fun K hK => ?_)) | ((with_reducible refine Ord.at_wild ?_); refine Ord.wild_move rfl rfl (fun K hK => ?_)) | ((with_reducible refine Ord.at_wild ?_); refine Ord.wild_nilCheck rfl rfl (fun K hK => ?_)) | with_reducible refine Ord.walk_eff rfl (by first | (simp; done) | assumption | (go_simp; done) | (repeat (first | assumption | exact Below.refl _ _ | refine Below.drew ?_ | refine Below.alloc ?_ (by first | omega | (simp; done) | (simp; omega)) _ | refine Below.setCell ?_ (by first | omega | (simp; done) | (simp; omega)) _ | refine Below.trans ?_ (Below.mono (by assumption) (by first | omega | (simp; done) | (simp; omega)))))) (fun K hK => ?_) | with_reducible refine Ord.at_fork ?_ ?_ | with_reducible refine Ord.walk_nil ?_ | (with_reducible refine Ord.next_of (by first | (simp; done) | (go_simp; done) | (repeat (first | assumption | exact Below.refl _ _ | refine Below.drew ?_ | refine Below.alloc ?_ (by first | omega | (simp; done) | (simp; omega)) _ | refine Below.setCell ?_ (by first | omega | (simp; done) | (simp; omega)) _ | refine Below.trans ?_ (Below.mono (by assumption) (by first | omega | (simp; done) | (simp; omega)))))) (fun _ => ?_)))
                have hs3 := HS3.out
                have h9 := own_keep (w' := w5.setCell ⟨w.heap.size + 1, 6, none⟩ (.slice (some ⟨g5, 0, none⟩) (gs.length + j + 1) q5)) hown5 (fun g h1 h2 => Below.heap_setCell w5 _ _ g (by show g ≠ w.heap.size + 1; omega))
                refine ⟨⟨j + 1, .slice (some ⟨g5, 0, none⟩) (gs.length + j + 1) q5, by omega, by go_num, HTE2.out, hB5.setCell (by show _ ≤ _ + 1; omega) _, bb5.other (by show w.heap.size ≠ w.heap.size + 1; omega) _, bv5.set 6 _, ?_, by simp; omega⟩, by simp [intOf]; omega⟩
                rw [HTK.out, List.map_append, ← List.append_assoc, List.map_append, List.length_append, hlen]
                exact h9
              · have hv := HOK.out (by rw [hpk, hc1, hc2, hc3]; rfl)
                have hne : (pA != pB) = false := by simp [bne, hc3]
                clear hpk HTE HOK hc3
                go_wp2_with (first
                  | (go_at_call 53; refine (HVt.out _ _ rv3).mono ?_; rintro e w' ⟨rfl, rfl⟩)
                  | (go_at_call 76; refine at_stop ?_))
                unfold Stop
                with_reducible refine (b_must_no _ _).mono ?_
                rintro e w' ⟨rfl, rfl⟩
                refine ⟨rfl, ?_⟩
                unfold OpenPost
                rw [if_pos hv]
                exact ⟨rfl, hB3⟩
        · have hjl : j = ps.length := by omega
          subst hjl
          rw [List.take_length] at hAt HAP
          have hval : valid ⟨VN, nd, lo, hi, gs, ps⟩ = true := by simp only [valid, headOk, Bool.and_eq_true, decide_eq_true_eq]; exact ⟨⟨⟨⟨⟨⟨h1, h2⟩, h3⟩, h4⟩, h5⟩, HA.out⟩, HAP.out⟩
          have HVAL := Lib.hid hval
          clear hval
          have hcall := Lib.hid (HIS.out wr (w.heap.size + 1) hAt.below (hAt.bv.cell 0))
          cases isB
          · go_wp2_with fail
            refine hcall.out.mono ?_
            rintro e w' ⟨rfl, rfl⟩
            go_wp2_with (go_at_call 76; refine at_stop ?_)
            unfold Stop
            refine (b_must_no _ _).mono ?_
            rintro e w' ⟨rfl, rfl⟩
            refine ⟨rfl, ?_⟩
            unfold OpenPost
            rw [if_neg (by rw [HVAL.out]; simp), if_pos rfl]
            exact ⟨rfl, hAt.below⟩
          · go_wp2_with fail
            refine hcall.out.mono ?_
            rintro e w' ⟨rfl, rfl⟩
            go_wp2_with (go_at_call 76; refine (HM.out _ _).mono ?_; rintro e w' ⟨rfl, rfl⟩)
            go_ret
            unfold OpenPost
            rw [if_neg (by rw [HVAL.out]; simp), if_neg (by simp)]
            have hown := hAt.own
            obtain ⟨ka, kc, rfl, hkn⟩ := own_kn hown
            have hlen := knOf_len ⟨VN, nd, lo, hi, gs, ps⟩
            have rc := hAt.bv.cell
            refine ⟨w.heap.size + 1, ka, kc, rfl, ⟨⟨rc 0, rc 1, rc 2, rc 3, rc 4, rc 5, rc 6⟩, hkn, by simp, by show 1 ≤ VN; omega, by show VN ≤ 8; omega, ?_, ?_, by rw [hlen]; show gs.length + ps.length ≤ 8; omega, knOf_ok HVAL.out, by rw [knOf_gs]; exact h4⟩, hAt.below, by omega⟩
            · exact (valid_wh HVAL.out).1
            · have := valid_wh HVAL.out; show hi ≤ 8; simp only at this; omega
end Go.Proofs.Ytjbjmoghloabpaa
