/- Parts of a proof: BnAP, BnAQ. -/
import Derived.Test.YtjbjmoghloabpaaM34
/- Votes that the laws build: rows that they own; the samples. -/
set_option linter.unusedVariables false
set_option linter.unusedSimpArgs false
namespace Go.Proofs.Ytjbjmoghloabpaa
open Go.RowKit Go.Proofs
attribute [local irreducible] Ord.walk
def gcell (g : Int × Int × Int) : List Value := [.int .i64 g.1, .int .i64 g.2.1, .int .i64 g.2.2]
def pcell (p : Int × Int × Bool) : List Value := [.int .i64 p.1, .int .i64 p.2.1, .bool p.2.2]
def OwnG (w : World) (base : Nat) (v : Value) (gs : List (Int × Int × Int)) : Prop := w.ownsRow base 49 3 v gs.length (gs.flatMap gcell)
def OwnP (w : World) (base : Nat) (v : Value) (ps : List (Int × Int × Bool)) : Prop := w.ownsRow base 54 3 v ps.length (ps.flatMap pcell)
theorem flat_get {α : Type} (f : α → List Value) (hf : ∀ a, (f a).length = 3) : ∀ (l : List α) (i : Nat) (h : i < l.length) (j : Nat), j < 3 → (l.flatMap f)[i * 3 + j]? = (f l[i])[j]?
  | [], i, h, j, hj => absurd h (by simp)
  | a :: l, 0, h, j, hj => by
    rw [List.flatMap_cons, List.getElem?_append_left (by rw [hf]; omega)]; simp
  | a :: l, i + 1, h, j, hj => by
    rw [List.flatMap_cons, List.getElem?_append_right (by rw [hf]; omega), hf, show (i + 1) * 3 + j - 3 = i * 3 + j by omega]
    exact flat_get f hf l i (by simpa using h) j hj
theorem own_cell3 {w : World} {base n : Nat} {e : TypeId} {v : Value} {xs : List Value} (h : w.ownsRow base e 3 v n xs) (hn : 0 < n) : ∃ g c, v = .slice (some ⟨g, 0, none⟩) n c ∧ ∀ i, i < n * 3 → w.cell? ⟨g, i, none⟩ = xs[i]? := by
  obtain ⟨hl, ⟨-, h0⟩ | ⟨g, cap, cur, rfl, hg, hh, hn, hc, hs, ht⟩⟩ := h
  · omega
  · refine ⟨g, cap, rfl, fun i hi => ?_⟩
    rw [cell_of_row w g i cur e (0, 0) hh, ← ht, List.getElem?_take, if_pos hi]
    simp
theorem own_nil3 {w : World} {base : Nat} {e : TypeId} {v : Value} {n : Nat} {xs : List Value} (h : w.ownsRow base e 3 v n xs) : ∃ a c, v = .slice a n c := by
  obtain ⟨hl, ⟨rfl, h0⟩ | ⟨g, cap, cur, rfl, hg, hh, hn, hc, hs, ht⟩⟩ := h
  · exact ⟨none, 0, by rw [h0]⟩
  · exact ⟨_, _, rfl⟩
theorem OwnG.at {w : World} {base : Nat} {v : Value} {gs : List (Int × Int × Int)} (h : OwnG w base v gs) : ∃ ga gc, v = .slice ga gs.length gc ∧ GsAt w ga gs := by
  rcases Nat.eq_zero_or_pos gs.length with h0 | h0
  · obtain ⟨a, c, e⟩ := own_nil3 h
    exact ⟨a, c, e, fun i hi => by omega⟩
  · obtain ⟨g, c, e, hc⟩ := own_cell3 h h0
    refine ⟨_, c, e, fun i hi => ⟨g, 0, rfl, ?_, ?_, ?_⟩⟩
    · rw [Nat.zero_add, hc _ (by omega)]; exact flat_get gcell (fun _ => rfl) gs i hi 0 (by omega)
    · rw [Nat.zero_add, hc _ (by omega)]; exact flat_get gcell (fun _ => rfl) gs i hi 1 (by omega)
    · rw [Nat.zero_add, hc _ (by omega)]; exact flat_get gcell (fun _ => rfl) gs i hi 2 (by omega)
theorem OwnP.at {w : World} {base : Nat} {v : Value} {ps : List (Int × Int × Bool)} (h : OwnP w base v ps) : ∃ pa pc, v = .slice pa ps.length pc ∧ PsAt w pa ps := by
  rcases Nat.eq_zero_or_pos ps.length with h0 | h0
  · obtain ⟨a, c, e⟩ := own_nil3 h
    exact ⟨a, c, e, fun i hi => by omega⟩
  · obtain ⟨g, c, e, hc⟩ := own_cell3 h h0
    refine ⟨_, c, e, fun i hi => ⟨g, 0, rfl, ?_, ?_, ?_⟩⟩
    · rw [Nat.zero_add, hc _ (by omega)]; exact flat_get pcell (fun _ => rfl) ps i hi 0 (by omega)
    · rw [Nat.zero_add, hc _ (by omega)]; exact flat_get pcell (fun _ => rfl) ps i hi 1 (by omega)
    · rw [Nat.zero_add, hc _ (by omega)]; exact flat_get pcell (fun _ => rfl) ps i hi 2 (by omega)
/-- A row of three-cell elements in a whole block. -/
theorem own_blk3 {w : World} {b base : Nat} {A : Array Value} {e : TypeId} (h : Blk w b A e) (hb : base ≤ b) {m : Nat} (hA : A.size = m * 3) (hm : m ≤ maxLen) : w.ownsRow base e 3 (.slice (some ⟨b, 0, none⟩) m m) m A.toList :=
  ⟨by simp; omega, .inr ⟨b, m, A, rfl, hb, h, Nat.le_refl _, hm, hA, by rw [List.take_of_length_le (by simp; omega)]⟩⟩
/-- A vote that the law has built since a world of this size. -/
def Vote (w : World) (base : Nat) (b : Bn) (v : Value) : Prop :=
  ∃ gv pv, v = .agg #[.int .i64 b.V, .int .i64 b.nd, .int .i64 b.lo, .int .i64 b.hi, gv, pv] ∧ OwnG w base gv b.gs ∧ OwnP w base pv b.ps
theorem Vote.bv {w : World} {base : Nat} {b : Bn} {v : Value} (h : Vote w base b v) : ∃ ga gc pa pc, v = bv b ga gc pa pc ∧ GsAt w ga b.gs ∧ PsAt w pa b.ps := by
  obtain ⟨gv, pv, rfl, h1, h2⟩ := h
  obtain ⟨ga, gc, rfl, h3⟩ := h1.at
  obtain ⟨pa, pc, rfl, h4⟩ := h2.at
  exact ⟨ga, gc, pa, pc, rfl, h3, h4⟩
theorem Vote.below {w w' : World} {base : Nat} {b : Bn} {v : Value} (h : Vote w base b v) (hb : Below w.heap.size w w') : Vote w' base b v := by
  obtain ⟨gv, pv, rfl, h1, h2⟩ := h
  exact ⟨gv, pv, rfl, ownsRow_below h1 hb, ownsRow_below h2 hb⟩
def Votes (b : Bn) (w : World) (e : Ending) (w' : World) : Prop := ∃ v, e = .returned v ∧ Vote w' w.heap.size b v ∧ Below w.heap.size w w'

theorem agg_span : AggTy Try.prog 23 2 := ⟨_, Try.underlying23, rfl, by kernel_rfl⟩
theorem agg_group : AggTy Try.prog 49 3 := ⟨_, Try.underlying49, rfl, by kernel_rfl⟩
theorem agg_bean : AggTy Try.prog 27 6 := ⟨_, Try.underlying27, rfl, by kernel_rfl⟩

theorem l_span (lo hi : Int) (w : World) : Calls Try.prog 34 #[.int .i64 lo, .int .i64 hi] w (Gives (.agg #[.int .i64 lo, .int .i64 hi]) w) := by
  go_enter Try.func34, Try.ntmps34
  go_wp2_with (refine wpList_store_blk 23 (.tmp 4) (.tmp 7) agg_span rfl rfl rfl rfl (Blk.new _ _ _) rfl rfl (by simp [Value.oneCell']) ?_; intro w2 h2)
  (try simp only [Exit.inBlock, Exit.then])
  refine bodyPost_ret (v := .agg #[.int .i64 lo, .int .i64 hi]) (results_cell_blk rfl _ agg_span rfl h2.blk rfl) rfl ⟨rfl, ?_⟩
  exact h2.below ((Below.refl _ _).alloc (Nat.le_refl _) _) (Nat.le_refl _)
theorem l_group (v lo hi : Int) (w : World) : Calls Try.prog 41 #[.int .i64 v, .int .i64 lo, .int .i64 hi] w (Gives (.agg #[.int .i64 v, .int .i64 lo, .int .i64 hi]) w) := by
  have H := Lib.hid (fun w => l_span lo hi w)
  go_enter Try.func41, Try.ntmps41
  go_wp2_with (first
    | (go_at_call 34; refine (H.out _).mono ?_; rintro e w1 ⟨rfl, hb1⟩; have b1 := (Blk.new w #[.int .i64 0, .int .i64 0, .int .i64 0] 49).below hb1 (by simp); have hB := ((Below.refl w.heap.size w).alloc (Nat.le_refl _) _).trans (hb1.mono (by simp)))
    | (refine wpList_store_blk 49 (.tmp 6) (.tmp 11) agg_group rfl rfl rfl rfl b1 rfl rfl (by simp [Value.oneCell']) ?_; intro w2 h2))
  (try simp only [Exit.inBlock, Exit.then])
  refine bodyPost_ret (v := .agg #[.int .i64 v, .int .i64 lo, .int .i64 hi]) (results_cell_blk rfl _ agg_group rfl h2.blk rfl) rfl ⟨rfl, ?_⟩
  exact h2.below hB (Nat.le_refl _)
def sampleB : Bn := { V := 5, nd := 3, lo := 2, hi := 3, gs := [(7, 2, 3), (28, 0, 1)], ps := [(0, 1, true)] }
theorem l_sample (w : World) : Calls Try.prog 33 #[] w (Votes sampleB w) := by
  have H := Lib.hid l_span
  have G := Lib.hid l_group
  go_enter Try.func33, Try.ntmps33
  go_wp2_with (first
    | (go_at_call 34; refine (H.out _ _ _).mono ?_; rintro e w1 ⟨rfl, hb1⟩; have b1 := (Blk.new w #[.int .i64 0, .int .i64 0, .int .i64 0, .int .i64 0, .slice none 0 0, .slice none 0 0] 27).below hb1 (by simp); have hB := ((Below.refl w.heap.size w).alloc (Nat.le_refl _) _).trans (hb1.mono (by simp)); refine at_stop ?_))
  unfold Stop
  go_wp2_with (first
    | (go_at_call 41; refine (G.out _ _ _ _).mono ?_; rintro e w2 ⟨rfl, hb2⟩; refine at_stop ?_))
  unfold Stop
  have b2 := b1.below hb2 b1.lt
  have hB2 := hB.trans (hb2.mono hB.size)
  go_wp2_with (first
    | (go_at_call 41; refine (G.out _ _ _ _).mono ?_; rintro e w3 ⟨rfl, hb3⟩; refine at_stop ?_))
  unfold Stop
  have b3 := b2.below hb3 b2.lt
  have hB3 := hB2.trans (hb3.mono hB2.size)
  go_wp2_with (first
    | (refine wpList_store_blk 27 (.tmp 0) (.tmp 7) agg_bean rfl rfl rfl rfl ((b3.alloc _).alloc _) rfl rfl (by simp [Value.oneCell']) ?_; intro w4 h4))
  (try simp only [Exit.inBlock, Exit.then])
  refine bodyPost_ret (v := .agg #[.int .i64 5, .int .i64 3, .int .i64 2, .int .i64 3, .slice (some ⟨w3.heap.size, 0, none⟩) 2 2, .slice (some ⟨w3.heap.size + 1, 0, none⟩) 1 1]) (results_cell_blk rfl _ agg_bean rfl h4.blk rfl) rfl ⟨_, rfl, ⟨_, _, rfl, ?_, ?_⟩, ?_⟩
  · have b4 : Blk w4 w3.heap.size _ _ := h4.other ((Blk.new w3 #[.int .i64 7, .int .i64 2, .int .i64 3, .int .i64 28, .int .i64 0, .int .i64 1] 49).alloc _) (by have := b3.lt; omega)
    exact own_blk3 b4 hB3.size rfl (by decide)
  · have b4 : Blk w4 (w3.heap.size + 1) _ _ := h4.other (Blk.new' (w3.alloc (.cells #[.int .i64 7, .int .i64 2, .int .i64 3, .int .i64 28, .int .i64 0, .int .i64 1] 49)) #[.int .i64 0, .int .i64 1, .bool true] 54 (w3.heap.size + 1) (by simp)) (by have := b3.lt; omega)
    exact own_blk3 b4 (by have := hB3.size; omega) rfl (by decide)
  · exact h4.below ((hB3.alloc hB3.size _).alloc (by have := hB3.size; simp; omega) _) (Nat.le_refl _)
end Go.Proofs.Ytjbjmoghloabpaa
/- The samples second and clash. -/
set_option linter.unusedVariables false
set_option linter.unusedSimpArgs false
namespace Go.Proofs.Ytjbjmoghloabpaa
open Go.RowKit Go.Proofs
attribute [local irreducible] Ord.walk
theorem ownBlock_ne {w : World} {b1 b2 s1 s2 n1 n2 : Nat} {e1 e2 : TypeId} {v1 v2 : Value} {x1 x2 : List Value} (h1 : w.ownsRow b1 e1 s1 v1 n1 x1) (h2 : w.ownsRow b2 e2 s2 v2 n2 x2) (he : e1 ≠ e2) : v1.ownBlock = none ∨ v1.ownBlock ≠ v2.ownBlock := by
  obtain ⟨-, ⟨rfl, -⟩ | ⟨g, cap, cur, rfl, -, hh, -⟩⟩ := h1
  · left; rfl
  · right
    obtain ⟨-, ⟨rfl, -⟩ | ⟨g', cap', cur', rfl, -, hh', -⟩⟩ := h2
    · simp [Value.ownBlock]
    · intro e
      simp only [Value.ownBlock, Option.some.injEq] at e
      subst e
      rw [hh] at hh'
      simp only [Option.some.injEq, Obj.cells.injEq] at hh'
      exact he hh'.2.1
theorem Try.info49 : (Try.prog.info? 49).map (fun i => (i.zero, i.size, i.bytes)) = some (some (.agg #[.int .i64 0, .int .i64 0, .int .i64 0]), 3, 24) := by kernel_rfl
theorem Try.info54 : (Try.prog.info? 54).map (fun i => (i.zero, i.size, i.bytes)) = some (some (.agg #[.int .i64 0, .int .i64 0, .bool false]), 3, 24) := by kernel_rfl
theorem own_move {w w' : World} {base base' : Nat} {e : TypeId} {size : Nat} {v : Value} {n : Nat} {xs : List Value} (h : w.ownsRow base e size v n xs) (hb : base' ≤ base) (hk : ∀ g, v.ownBlock = some g → w'.heap[g]? = w.heap[g]?) : w'.ownsRow base' e size v n xs := by
  obtain ⟨hl, h | ⟨g, cap, cur, rfl, hg, hh, r⟩⟩ := h
  · exact ⟨hl, .inl h⟩
  · exact ⟨hl, .inr ⟨g, cap, cur, rfl, by omega, (hk g rfl).trans hh, r⟩⟩
theorem own_ne_blk {w : World} {base : Nat} {e t : TypeId} {size : Nat} {v : Value} {n b : Nat} {xs : List Value} {A : Array Value} (h : w.ownsRow base e size v n xs) (hb : Blk w b A t) (he : e ≠ t) : v.ownBlock ≠ some b := by
  obtain ⟨-, ⟨rfl, -⟩ | ⟨g, cap, cur, rfl, -, hh, -⟩⟩ := h
  · simp [Value.ownBlock]
  · intro e'
    simp only [Value.ownBlock, Option.some.injEq] at e'
    subst e'
    rw [show w.heap[g]? = _ from hb] at hh
    simp only [Option.some.injEq, Obj.cells.injEq] at hh
    exact he hh.2.1.symm
theorem own_store {w w' : World} {base base' : Nat} {e t : TypeId} {size : Nat} {v : Value} {n b : Nat} {xs : List Value} {A : Array Value} (h : w.ownsRow base e size v n xs) (hb : base' ≤ base) (h1 : Blk w b A t) (he : e ≠ t) (hk : ∀ k, k ≠ b → w'.heap[k]? = w.heap[k]?) : w'.ownsRow base' e size v n xs :=
  own_move h hb fun g hg => hk g fun e' => own_ne_blk h h1 he (e' ▸ hg)
def secondB : Bn := { sampleB with gs := [(7, 2, 3), (28, 0, 1), (24, 1, 1)] }
def clashBn : Bn := { secondB with ps := [(0, 1, true), (0, 2, true)] }
set_option maxHeartbeats 4000000 in
set_option maxRecDepth 100000 in
theorem l_second (w : World) : Calls Try.prog 32 #[] w (Votes secondB w) := by
  have S := Lib.hid l_sample
  have G := Lib.hid l_group
  obtain ⟨i0, hi0, hz0, hz1, hz2⟩ := info_parts Try.info49
  go_enter Try.func32, Try.ntmps32
  go_wp2_with (first
    | (go_at_call 33; refine (S.out _).mono ?_; rintro e w1 ⟨_, rfl, ⟨gv, pv, rfl, hOG, hOP⟩, hb1⟩; refine at_stop ?_))
  unfold Stop
  have b1 := (Blk.new w #[.int .i64 0, .int .i64 0, .int .i64 0, .int .i64 0, .slice none 0 0, .slice none 0 0] 27).below hb1 (by simp)
  have hB := ((Below.refl w.heap.size w).alloc (Nat.le_refl _) _).trans (hb1.mono (by simp))
  obtain ⟨g, gc, rfl⟩ := own_slice hOG (by decide)
  obtain ⟨q, qc, rfl⟩ := own_slice hOP (by decide)
  have hg1 := hOG.lt g rfl
  have hg2 := hOP.lt q rfl
  simp only [World.size_alloc] at hg1 hg2
  go_wp2_with (first
    | (refine wpList_store_blk 27 (.tmp 1) (.tmp 2) agg_bean rfl rfl rfl rfl (Blk.new _ _ _) rfl rfl (by simp [Value.oneCell']) ?_; intro w2 h2; refine at_stop ?_))
  unfold Stop
  have hb12 : Below w1.heap.size w1 w2 := h2.below ((Below.refl _ _).alloc (Nat.le_refl _) _) (Nat.le_refl _)
  have hOG2 := ownsRow_below hOG hb12
  have hOP2 := ownsRow_below hOP hb12
  have b2 := b1.below hb12 b1.lt
  simp only [World.size_alloc] at hOG2 hOP2
  have b4 := h2.blk
  have hs2 : w1.heap.size < w2.heap.size := b4.lt
  have hB2 := hB.trans (hb12.mono hB.size)
  have hs0 := hB.size
  have hlt0 := b1.lt
  generalize hp : w1.heap.size = p at *
  clear h2 hOG hOP b1 hb1 hb12 hB
  simp only [sampleB, List.length_cons, List.length_nil, Nat.zero_add, Nat.reduceAdd] at *
  have c3 : w2.drew.cell? ⟨p, 4, none⟩ = some (.slice (some ⟨g, 0, none⟩) 2 gc) := by rw [b4.drew.cell]; simp
  go_wp2_with fail
  refine Ord.Two.wp_region [(0, 1), (1, 1), (2, 2), (3, 2), (4, 2), (5, 0)] [(6, 2)] (fun W => W.cell? ⟨p, 4, none⟩ = some (.slice (some ⟨g, 0, none⟩) 2 gc)) (by kernel_rfl) (by kernel_rfl) (fun c a d v w h => by cases d <;> exact h) c3 ?_
  go_wp2_with (first
    | (with_reducible refine Ord.Two.walk_next ?_)
    | (at_builtin; refine at_stop ?_)
    | (go_at_call 41; refine (G.out _ _ _ _).mono ?_; rintro e w3 ⟨rfl, hb3⟩; refine at_stop ?_)
    | ((with_reducible refine Ord.at_wild ?_); refine Ord.wild_load (ad := ⟨p, 4, none⟩) (.slice (some ⟨g, 0, none⟩) 2 gc) rfl rfl ?_ ?_; (focus (intro W hW; simp [go_sem, hW]; done)); intro K hK)
    | ((with_reducible refine Ord.walk_eff rfl ?_ (fun K hK => ?_)); (focus (first | assumption | exact c3 | (simp [c3]; done) | (rw [World.cell?_alloc_ite, if_neg (by omega)]; exact c3))))
    | ((with_reducible refine Ord.next_of ?_ (fun hOF => ?_)); (focus (first | assumption | exact c3 | (simp [c3]; done) | (rw [World.cell?_alloc_ite, if_neg (by omega)]; exact c3))))
    | ((with_reducible refine Ord.at_calm ?_); refine Ord.calm_skip rfl ?_ (fun K hK => ?_); (focus (simp [Region.wanted, yielded]; done))) | with_reducible refine Ord.walk_calm rfl rfl (fun K hK => ?_) | ((with_reducible refine Ord.at_wild ?_); refine Ord.wild_fieldAddr rfl rfl (fun W => by simp [go_sem]; rfl) (fun K hK => ?_)) | ((with_reducible refine Ord.at_wild ?_); refine Ord.wild_move rfl rfl (fun K hK => ?_)) | ((with_reducible refine Ord.at_wild ?_); refine Ord.wild_nilCheck rfl rfl (fun K hK => ?_)) | with_reducible refine Ord.walk_eff rfl (by first | (simp; done) | assumption | (go_simp; done) | (repeat (first | assumption | exact Below.refl _ _ | refine Below.drew ?_ | refine Below.alloc ?_ (by first | omega | (simp; done) | (simp; omega)) _ | refine Below.setCell ?_ (by first | omega | (simp; done) | (simp; omega)) _ | refine Below.trans ?_ (Below.mono (by assumption) (by first | omega | (simp; done) | (simp; omega)))))) (fun K hK => ?_) | with_reducible refine Ord.at_fork ?_ ?_ | with_reducible refine Ord.walk_nil ?_ | (with_reducible refine Ord.next_of (by first | (simp; done) | (go_simp; done) | (repeat (first | assumption | exact Below.refl _ _ | refine Below.drew ?_ | refine Below.alloc ?_ (by first | omega | (simp; done) | (simp; omega)) _ | refine Below.setCell ?_ (by first | omega | (simp; done) | (simp; omega)) _ | refine Below.trans ?_ (Below.mono (by assumption) (by first | omega | (simp; done) | (simp; omega)))))) (fun _ => ?_)))
  unfold Stop
  have hb23 : Below w2.heap.size w2 w3 := (Below.refl _ _).drew.trans hb3
  have hOG3 := ownsRow_below hOG2 hb23
  have hOP3 := ownsRow_below hOP2 hb23
  have b23 := b2.below hb23 (by omega)
  have b43 := b4.below hb23 hs2
  have hB3 := hB2.trans (hb23.mono (by omega))
  have hs3 := hb23.size
  have c4 : w3.cell? ⟨p, 4, none⟩ = some (.slice (some ⟨g, 0, none⟩) 2 gc) := by rw [b43.cell]; simp
  have f4 : w3.frozen? ⟨p, 4, none⟩ = false := b43.free 4
  go_wp2_with (first
    | (with_reducible refine Ord.Two.walk_next ?_)
    | (at_builtin; refine at_stop ?_)
    | ((with_reducible refine Ord.walk_eff rfl ?_ (fun K hK => ?_)); (focus (first | assumption | exact c4 | (simp [c4]; done) | (rw [World.cell?_alloc_ite, if_neg (by omega)]; exact c4))))
    | ((with_reducible refine Ord.next_of ?_ (fun hOF => ?_)); (focus (first | assumption | exact c4 | (simp [c4]; done) | (rw [World.cell?_alloc_ite, if_neg (by omega)]; exact c4))))
    | ((with_reducible refine Ord.at_calm ?_); refine Ord.calm_skip rfl ?_ (fun K hK => ?_); (focus (simp [Region.wanted, yielded]; done))) | with_reducible refine Ord.walk_calm rfl rfl (fun K hK => ?_) | ((with_reducible refine Ord.at_wild ?_); refine Ord.wild_fieldAddr rfl rfl (fun W => by simp [go_sem]; rfl) (fun K hK => ?_)) | ((with_reducible refine Ord.at_wild ?_); refine Ord.wild_move rfl rfl (fun K hK => ?_)) | ((with_reducible refine Ord.at_wild ?_); refine Ord.wild_nilCheck rfl rfl (fun K hK => ?_)) | with_reducible refine Ord.walk_eff rfl (by first | (simp; done) | assumption | (go_simp; done) | (repeat (first | assumption | exact Below.refl _ _ | refine Below.drew ?_ | refine Below.alloc ?_ (by first | omega | (simp; done) | (simp; omega)) _ | refine Below.setCell ?_ (by first | omega | (simp; done) | (simp; omega)) _ | refine Below.trans ?_ (Below.mono (by assumption) (by first | omega | (simp; done) | (simp; omega)))))) (fun K hK => ?_) | with_reducible refine Ord.at_fork ?_ ?_ | with_reducible refine Ord.walk_nil ?_ | (with_reducible refine Ord.next_of (by first | (simp; done) | (go_simp; done) | (repeat (first | assumption | exact Below.refl _ _ | refine Below.drew ?_ | refine Below.alloc ?_ (by first | omega | (simp; done) | (simp; omega)) _ | refine Below.setCell ?_ (by first | omega | (simp; done) | (simp; omega)) _ | refine Below.trans ?_ (Below.mono (by assumption) (by first | omega | (simp; done) | (simp; omega)))))) (fun _ => ?_)))
  unfold Stop
  refine wpList_append_own _ rfl (.tmp 4) (.tmp 6) 24 rfl (w.heap.size + 1) 49 i0 (.agg #[.int .i64 0, .int .i64 0, .int .i64 0]) 3 24 Try.underlying24 hi0 hz0 hz1 hz2 rfl (by decide) (.slice (some ⟨g, 0, none⟩) 2 gc) 2 ([(7, 2, 3), (28, 0, 1)].flatMap gcell) rfl (World.ownsRow.alloc hOG3 _) ⟨w3.heap.size, 0, none⟩ 1 1 (gcell (24, 1, 1)) rfl rfl (news_blk (A := #[.int .i64 24, .int .i64 1, .int .i64 1]) (Blk.new _ _ _)) (by simp [gcell, Value.oneCell']) (by decide) (by decide) (by simp; omega) ?_
  intro v5 w5 hown5 hgrow5 _
  have hOP5 := World.ownsRow.kept (World.ownsRow.alloc hOP3 _) hgrow5 (ownBlock_ne hOP3 hOG3 (by decide))
  have hne : ∀ k, k ≠ g → some k ≠ (Value.slice (some ⟨g, 0, none⟩) 2 gc).ownBlock := by intro k hk; simpa [Value.ownBlock] using hk
  have b5 : Blk w5 p _ _ := (hgrow5.block p (by simp; omega) (hne p (by omega))).trans (b43.alloc _)
  have b25 : Blk w5 w.heap.size _ _ := (hgrow5.block w.heap.size (by simp; omega) (hne _ (by omega))).trans (b23.alloc _)
  have hB5 := (hB3.alloc (by omega) (.cells #[.int .i64 24, .int .i64 1, .int .i64 1] 49)).grown hgrow5 (by simp; omega) (fun j e => by simp only [Value.ownBlock, Option.some.injEq] at e; omega)
  have hs5 : w3.heap.size < w5.heap.size := by have := hgrow5.size; simp at this; omega
  clear hgrow5 hOG3 hOP3 hOG2 hOP2 b23 b43 b2 b4 hb3 hb23 hne c3 c4 f4
  obtain ⟨g5, q5, rfl⟩ := own_slice hown5 (by omega)
  have c5 : w5.cell? ⟨p, 4, none⟩ = some (.slice (some ⟨g, 0, none⟩) 2 gc) := by rw [b5.cell]; simp
  have f5 : w5.frozen? ⟨p, 4, none⟩ = false := b5.free 4
  have b6 : Blk (w5.setCell ⟨p, 4, none⟩ (.slice (some ⟨g5, 0, none⟩) 3 q5)) p #[.int .i64 5, .int .i64 3, .int .i64 2, .int .i64 3, .slice (some ⟨g5, 0, none⟩) 3 q5, .slice (some ⟨q, 0, none⟩) 1 qc] 27 := b5.set 4 _
  have b26 : Blk (w5.setCell ⟨p, 4, none⟩ (.slice (some ⟨g5, 0, none⟩) 3 q5)) w.heap.size _ _ := b25.other (by show _ ≠ p; omega) _
  have hlt5 := (hown5.lt g5 rfl)
  go_wp2_with (first
    | (with_reducible refine Ord.Two.walk_next ?_)
    | (refine wpList_load_blk 27 (.tmp 1) agg_bean rfl rfl rfl b6 rfl ?_)
    | (refine wpList_store_blk 27 (.tmp 0) (.tmp 9) agg_bean rfl rfl rfl rfl b26 rfl rfl (by simp [Value.oneCell']) ?_; intro w6 h6)
    | ((with_reducible refine Ord.walk_eff rfl ?_ (fun K hK => ?_)); (focus trivial))
    | ((with_reducible refine Ord.next_of ?_ (fun hOF => ?_)); (focus (first | exact c5 | trivial)))
    | ((with_reducible refine Ord.at_calm ?_); refine Ord.calm_skip rfl ?_ (fun K hK => ?_); (focus (simp [Region.wanted, yielded]; done))) | with_reducible refine Ord.walk_calm rfl rfl (fun K hK => ?_) | ((with_reducible refine Ord.at_wild ?_); refine Ord.wild_fieldAddr rfl rfl (fun W => by simp [go_sem]; rfl) (fun K hK => ?_)) | ((with_reducible refine Ord.at_wild ?_); refine Ord.wild_move rfl rfl (fun K hK => ?_)) | ((with_reducible refine Ord.at_wild ?_); refine Ord.wild_nilCheck rfl rfl (fun K hK => ?_)) | with_reducible refine Ord.walk_eff rfl (by first | (simp; done) | assumption | (go_simp; done) | (repeat (first | assumption | exact Below.refl _ _ | refine Below.drew ?_ | refine Below.alloc ?_ (by first | omega | (simp; done) | (simp; omega)) _ | refine Below.setCell ?_ (by first | omega | (simp; done) | (simp; omega)) _ | refine Below.trans ?_ (Below.mono (by assumption) (by first | omega | (simp; done) | (simp; omega)))))) (fun K hK => ?_) | with_reducible refine Ord.at_fork ?_ ?_ | with_reducible refine Ord.walk_nil ?_ | (with_reducible refine Ord.next_of (by first | (simp; done) | (go_simp; done) | (repeat (first | assumption | exact Below.refl _ _ | refine Below.drew ?_ | refine Below.alloc ?_ (by first | omega | (simp; done) | (simp; omega)) _ | refine Below.setCell ?_ (by first | omega | (simp; done) | (simp; omega)) _ | refine Below.trans ?_ (Below.mono (by assumption) (by first | omega | (simp; done) | (simp; omega)))))) (fun _ => ?_)))
  (try simp only [Exit.inBlock, Exit.then])
  refine bodyPost_ret (v := .agg #[.int .i64 5, .int .i64 3, .int .i64 2, .int .i64 3, .slice (some ⟨g5, 0, none⟩) 3 q5, .slice (some ⟨q, 0, none⟩) 1 qc]) (results_cell_blk rfl _ agg_bean rfl h6.blk rfl) rfl ⟨_, rfl, ⟨_, _, rfl, ?_, ?_⟩, ?_⟩
  · exact own_store (own_store hown5 (Nat.le_refl _) b5 (by decide) (fun k hk => Below.heap_setCell w5 _ _ k hk)) (by omega) b26 (by decide) h6.heap
  · exact own_store (own_store hOP5 (Nat.le_refl _) b5 (by decide) (fun k hk => Below.heap_setCell w5 _ _ k hk)) (by omega) b26 (by decide) h6.heap
  · exact h6.below ((hB5.setCell (by show _ ≤ p; omega) _)) (Nat.le_refl _)

set_option maxHeartbeats 4000000 in
set_option maxRecDepth 100000 in
theorem l_clash (w : World) : Calls Try.prog 35 #[] w (Votes clashBn w) := by
  have S := Lib.hid l_second
  obtain ⟨i0, hi0, hz0, hz1, hz2⟩ := info_parts Try.info54
  go_enter Try.func35, Try.ntmps35
  go_wp2_with (first
    | (go_at_call 32; refine (S.out _).mono ?_; rintro e w1 ⟨_, rfl, ⟨gv, pv, rfl, hOG, hOP⟩, hb1⟩; refine at_stop ?_))
  unfold Stop
  have b1 := (Blk.new w #[.int .i64 0, .int .i64 0, .int .i64 0, .int .i64 0, .slice none 0 0, .slice none 0 0] 27).below hb1 (by simp)
  have hB := ((Below.refl w.heap.size w).alloc (Nat.le_refl _) _).trans (hb1.mono (by simp))
  obtain ⟨g, gc, rfl⟩ := own_slice hOG (by decide)
  obtain ⟨q, qc, rfl⟩ := own_slice hOP (by decide)
  have hg1 := hOG.lt g rfl
  have hg2 := hOP.lt q rfl
  simp only [World.size_alloc] at hg1 hg2
  go_wp2_with (first
    | (refine wpList_store_blk 27 (.tmp 1) (.tmp 2) agg_bean rfl rfl rfl rfl (Blk.new _ _ _) rfl rfl (by simp [Value.oneCell']) ?_; intro w2 h2; refine at_stop ?_))
  unfold Stop
  have hb12 : Below w1.heap.size w1 w2 := h2.below ((Below.refl _ _).alloc (Nat.le_refl _) _) (Nat.le_refl _)
  have hOG2 := ownsRow_below hOG hb12
  have hOP2 := ownsRow_below hOP hb12
  have b2 := b1.below hb12 b1.lt
  simp only [World.size_alloc] at hOG2 hOP2
  have b4 := h2.blk
  have hs2 : w1.heap.size < w2.heap.size := b4.lt
  have hB2 := hB.trans (hb12.mono hB.size)
  have hs0 := hB.size
  have hlt0 := b1.lt
  generalize hp : w1.heap.size = p at *
  clear h2 hOG hOP b1 hb1 hb12 hB
  simp only [secondB, sampleB, List.length_cons, List.length_nil, Nat.zero_add, Nat.reduceAdd] at *
  have c3 : w2.cell? ⟨p, 5, none⟩ = some (.slice (some ⟨q, 0, none⟩) 1 qc) := by rw [b4.cell]; simp
  go_wp2_with (first
    | (at_builtin; refine at_stop ?_))
  unfold Stop
  refine wpList_append_own _ rfl (.tmp 4) (.tmp 6) 25 rfl (w.heap.size + 1) 54 i0 (.agg #[.int .i64 0, .int .i64 0, .bool false]) 3 24 Try.underlying25 hi0 hz0 hz1 hz2 rfl (by decide) (.slice (some ⟨q, 0, none⟩) 1 qc) 1 ([(0, 1, true)].flatMap pcell) rfl (World.ownsRow.alloc hOP2 _) ⟨w2.heap.size, 0, none⟩ 1 1 (pcell (0, 2, true)) rfl rfl (news_blk (A := #[.int .i64 0, .int .i64 2, .bool true]) (Blk.new _ _ _)) (by simp [pcell, Value.oneCell']) (by decide) (by decide) (by simp; omega) ?_
  intro v5 w5 hown5 hgrow5 _
  have hOG5 := World.ownsRow.kept (World.ownsRow.alloc hOG2 _) hgrow5 (ownBlock_ne hOG2 hOP2 (by decide))
  have hne : ∀ k, k ≠ q → some k ≠ (Value.slice (some ⟨q, 0, none⟩) 1 qc).ownBlock := by intro k hk; simpa [Value.ownBlock] using hk
  have b5 : Blk w5 p _ _ := (hgrow5.block p (by simp; omega) (hne p (by omega))).trans (b4.alloc _)
  have b25 : Blk w5 w.heap.size _ _ := (hgrow5.block w.heap.size (by simp; omega) (hne _ (by omega))).trans (b2.alloc _)
  have hB5 := (hB2.alloc (by omega) (.cells #[.int .i64 0, .int .i64 2, .bool true] 54)).grown hgrow5 (by simp; omega) (fun j e => by simp only [Value.ownBlock, Option.some.injEq] at e; omega)
  have hs5 : w2.heap.size < w5.heap.size := by have := hgrow5.size; simp at this; omega
  clear hgrow5 hOG2 hOP2 b2 b4 hne c3
  obtain ⟨g5, q5, rfl⟩ := own_slice hown5 (by omega)
  have c5 : w5.cell? ⟨p, 5, none⟩ = some (.slice (some ⟨q, 0, none⟩) 1 qc) := by rw [b5.cell]; simp
  have f5 : w5.frozen? ⟨p, 5, none⟩ = false := b5.free 5
  have b6 : Blk (w5.setCell ⟨p, 5, none⟩ (.slice (some ⟨g5, 0, none⟩) 2 q5)) p #[.int .i64 5, .int .i64 3, .int .i64 2, .int .i64 3, .slice (some ⟨g, 0, none⟩) 3 gc, .slice (some ⟨g5, 0, none⟩) 2 q5] 27 := b5.set 5 _
  have b26 : Blk (w5.setCell ⟨p, 5, none⟩ (.slice (some ⟨g5, 0, none⟩) 2 q5)) w.heap.size _ _ := b25.other (by show _ ≠ p; omega) _
  have hlt5 := (hown5.lt g5 rfl)
  go_wp2_with (first
    | (refine wpList_load_blk 27 (.tmp 1) agg_bean rfl rfl rfl b6 rfl ?_)
    | (refine wpList_store_blk 27 (.tmp 0) (.tmp 9) agg_bean rfl rfl rfl rfl b26 rfl rfl (by simp [Value.oneCell']) ?_; intro w6 h6))
  (try simp only [Exit.inBlock, Exit.then])
  refine bodyPost_ret (v := .agg #[.int .i64 5, .int .i64 3, .int .i64 2, .int .i64 3, .slice (some ⟨g, 0, none⟩) 3 gc, .slice (some ⟨g5, 0, none⟩) 2 q5]) (results_cell_blk rfl _ agg_bean rfl h6.blk rfl) rfl ⟨_, rfl, ⟨_, _, rfl, ?_, ?_⟩, ?_⟩
  · exact own_store (own_store hOG5 (Nat.le_refl _) b5 (by decide) (fun k hk => Below.heap_setCell w5 _ _ k hk)) (by omega) b26 (by decide) h6.heap
  · exact own_store (own_store hown5 (Nat.le_refl _) b5 (by decide) (fun k hk => Below.heap_setCell w5 _ _ k hk)) (by omega) b26 (by decide) h6.heap
  · exact h6.below ((hB5.setCell (by show _ ≤ p; omega) _)) (Nat.le_refl _)
end Go.Proofs.Ytjbjmoghloabpaa
