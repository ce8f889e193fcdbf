/- Parts of a proof: BnAQ, App, BaseB, OrdG, OrdT, OrdU, OrdV. -/
import Derived.Test.YtjbjmoghloabpaaP23
import Derived.Test.YtjbjmoghloabpaaP13
import Derived.Test.YtjbjmoghloabpaaP08
import Derived.Test.YtjbjmoghloabpaaP12
import Derived.Test.YtjbjmoghloabpaaP01
import Derived.Test.YtjbjmoghloabpaaP03
import Derived.Test.YtjbjmoghloabpaaP05
set_option linter.unusedVariables false
set_option linter.unusedSimpArgs false
namespace Go.Proofs.Ytjbjmoghloabpaa
open Go.RowKit Go.Proofs
attribute [local irreducible] Ord.walk
theorem ownBlock_ne {w : World} {b1 b2 s1 s2 n1 n2 : Nat} {e1 e2 : TypeId} {v1 v2 : Value} {x1 x2 : List Value} (h1 : w.ownsRow b1 e1 s1 v1 n1 x1) (h2 : w.ownsRow b2 e2 s2 v2 n2 x2) (he : e1 ≠ e2) : v1.ownBlock = none ∨ v1.ownBlock ≠ v2.ownBlock := by
  obtain ⟨-, ⟨rfl, -⟩ | ⟨g, cap, cur, rfl, -, hh, -⟩⟩ := h1
  · left; rfl
  · right
    obtain ⟨-, ⟨rfl, -⟩ | ⟨g', cap', cur', rfl, -, hh', -⟩⟩ := h2
    · simp [Value.ownBlock]
    · intro e
      simp only [Value.ownBlock, Option.some.injEq] at e
      subst e
      rw [hh] at hh'
      simp only [Option.some.injEq, Obj.cells.injEq] at hh'
      exact he hh'.2.1
theorem Try.info49 : (Try.prog.info? 49).map (fun i => (i.zero, i.size, i.bytes)) = some (some (.agg #[.int .i64 0, .int .i64 0, .int .i64 0]), 3, 24) := by kernel_rfl
theorem Try.info54 : (Try.prog.info? 54).map (fun i => (i.zero, i.size, i.bytes)) = some (some (.agg #[.int .i64 0, .int .i64 0, .bool false]), 3, 24) := by kernel_rfl
theorem own_move {w w' : World} {base base' : Nat} {e : TypeId} {size : Nat} {v : Value} {n : Nat} {xs : List Value} (h : w.ownsRow base e size v n xs) (hb : base' ≤ base) (hk : ∀ g, v.ownBlock = some g → w'.heap[g]? = w.heap[g]?) : w'.ownsRow base' e size v n xs := by
  obtain ⟨hl, h | ⟨g, cap, cur, rfl, hg, hh, r⟩⟩ := h
  · exact ⟨hl, .inl h⟩
  · exact ⟨hl, .inr ⟨g, cap, cur, rfl, by omega, (hk g rfl).trans hh, r⟩⟩
theorem own_ne_blk {w : World} {base : Nat} {e t : TypeId} {size : Nat} {v : Value} {n b : Nat} {xs : List Value} {A : Array Value} (h : w.ownsRow base e size v n xs) (hb : Blk w b A t) (he : e ≠ t) : v.ownBlock ≠ some b := by
  obtain ⟨-, ⟨rfl, -⟩ | ⟨g, cap, cur, rfl, -, hh, -⟩⟩ := h
  · simp [Value.ownBlock]
  · intro e'
    simp only [Value.ownBlock, Option.some.injEq] at e'
    subst e'
    rw [show w.heap[g]? = _ from hb] at hh
    simp only [Option.some.injEq, Obj.cells.injEq] at hh
    exact he hh.2.1.symm
theorem own_store {w w' : World} {base base' : Nat} {e t : TypeId} {size : Nat} {v : Value} {n b : Nat} {xs : List Value} {A : Array Value} (h : w.ownsRow base e size v n xs) (hb : base' ≤ base) (h1 : Blk w b A t) (he : e ≠ t) (hk : ∀ k, k ≠ b → w'.heap[k]? = w.heap[k]?) : w'.ownsRow base' e size v n xs :=
  own_move h hb fun g hg => hk g fun e' => own_ne_blk h h1 he (e' ▸ hg)
def secondB : Bn := { sampleB with gs := [(7, 2, 3), (28, 0, 1), (24, 1, 1)] }
def clashBn : Bn := { secondB with ps := [(0, 1, true), (0, 2, true)] }
set_option maxHeartbeats 4000000 in
set_option maxRecDepth 100000 in
theorem l_second (w : World) : Calls Try.prog 32 #[] w (Votes secondB w) := by
  have S := Lib.hid l_sample
  have G := Lib.hid l_group
  obtain ⟨i0, hi0, hz0, hz1, hz2⟩ := info_parts Try.info49
  go_enter Try.func32, Try.ntmps32
  go_wp2_with (first
    | (go_at_call 33; refine (S.out _).mono ?_; rintro e w1 ⟨_, rfl, ⟨gv, pv, rfl, hOG, hOP⟩, hb1⟩; refine at_stop ?_))
  unfold Stop
  have b1 := (Blk.new w #[.int .i64 0, .int .i64 0, .int .i64 0, .int .i64 0, .slice none 0 0, .slice none 0 0] 27).below hb1 (by simp)
  have hB := ((Below.refl w.heap.size w).alloc (Nat.le_refl _) _).trans (hb1.mono (by simp))
  obtain ⟨g, gc, rfl⟩ := own_slice hOG (by decide)
  obtain ⟨q, qc, rfl⟩ := own_slice hOP (by decide)
  have hg1 := hOG.lt g rfl
  have hg2 := hOP.lt q rfl
  simp only [World.size_alloc] at hg1 hg2
  go_wp2_with (first
    | (refine wpList_store_blk 27 (.tmp 1) (.tmp 2) agg_bean rfl rfl rfl rfl (Blk.new _ _ _) rfl rfl (by simp [Value.oneCell']) ?_; intro w2 h2; refine at_stop ?_))
  unfold Stop
  have hb12 : Below w1.heap.size w1 w2 := h2.below ((Below.refl _ _).alloc (Nat.le_refl _) _) (Nat.le_refl _)
  have hOG2 := ownsRow_below hOG hb12
  have hOP2 := ownsRow_below hOP hb12
  have b2 := b1.below hb12 b1.lt
  simp only [World.size_alloc] at hOG2 hOP2
  have b4 := h2.blk
  have hs2 : w1.heap.size < w2.heap.size := b4.lt
  have hB2 := hB.trans (hb12.mono hB.size)
  have hs0 := hB.size
  have hlt0 := b1.lt
  generalize hp : w1.heap.size = p at *
  clear h2 hOG hOP b1 hb1 hb12 hB
  simp only [sampleB, List.length_cons, List.length_nil, Nat.zero_add, Nat.reduceAdd] at *
  have c3 : w2.drew.cell? ⟨p, 4, none⟩ = some (.slice (some ⟨g, 0, none⟩) 2 gc) := by rw [b4.drew.cell]; simp
  go_wp2_with fail
  refine Ord.Two.wp_region [(0, 1), (1, 1), (2, 2), (3, 2), (4, 2), (5, 0)] [(6, 2)] (fun W => W.cell? ⟨p, 4, none⟩ = some (.slice (some ⟨g, 0, none⟩) 2 gc)) (by kernel_rfl) (by kernel_rfl) (fun c a d v w h => by cases d <;> exact h) c3 ?_
  go_wp2_with (first
    | (with_reducible refine Ord.Two.walk_next ?_)
    | (at_builtin; refine at_stop ?_)
    | (go_at_call 41; refine (G.out _ _ _ _).mono ?_; rintro e w3 ⟨rfl, hb3⟩; refine at_stop ?_)
    | ((with_reducible refine Ord.at_wild ?_); refine Ord.wild_load (ad := ⟨p, 4, none⟩) (.slice (some ⟨g, 0, none⟩) 2 gc) rfl rfl ?_ ?_; (focus (intro W hW; simp [go_sem, hW]; done)); intro K hK)
    | ((with_reducible refine Ord.walk_eff rfl ?_ (fun K hK => ?_)); (focus (first | assumption | exact c3 | (simp [c3]; done) | (rw [World.cell?_alloc_ite, if_neg (by omega)]; exact c3))))
    | ((with_reducible refine Ord.next_of ?_ (fun hOF => ?_)); (focus (first | assumption | exact c3 | (simp [c3]; done) | (rw [World.cell?_alloc_ite, if_neg (by omega)]; exact c3))))
    | ((with_reducible refine Ord.at_calm ?_); refine Ord.calm_skip rfl ?_ (fun K hK => ?_); (focus (simp [Region.wanted, yielded]; done))) | with_reducible refine Ord.walk_calm rfl rfl (fun K hK => ?_) | ((with_reducible refine Ord.at_wild ?_); refine Ord.wild_fieldAddr rfl rfl (fun W => by simp [go_sem]; rfl) (fun K hK => ?_)) | ((with_reducible refine Ord.at_wild ?_); refine Ord.wild_move rfl rfl (fun K hK => ?_)) | ((with_reducible refine Ord.at_wild ?_); refine Ord.wild_nilCheck rfl rfl (fun K hK => ?_)) | with_reducible refine Ord.walk_eff rfl (by first | (simp; done) | assumption | (go_simp; done) | (repeat (first | assumption | exact Below.refl _ _ | refine Below.drew ?_ | refine Below.alloc ?_ (by first | omega | (simp; done) | (simp; omega)) _ | refine Below.setCell ?_ (by first | omega | (simp; done) | (simp; omega)) _ | refine Below.trans ?_ (Below.mono (by assumption) (by first | omega | (simp; done) | (simp; omega)))))) (fun K hK => ?_) | with_reducible refine Ord.at_fork ?_ ?_ | with_reducible refine Ord.walk_nil ?_ | (with_reducible refine Ord.next_of (by first | (simp; done) | (go_simp; done) | (repeat (first | assumption | exact Below.refl _ _ | refine Below.drew ?_ | refine Below.alloc ?_ (by first | omega | (simp; done) | (simp; omega)) _ | refine Below.setCell ?_ (by first | omega | (simp; done) | (simp; omega)) _ | refine Below.trans ?_ (Below.mono (by assumption) (by first | omega | (simp; done) | (simp; omega)))))) (fun _ => ?_)))
  unfold Stop
  have hb23 : Below w2.heap.size w2 w3 := (Below.refl _ _).drew.trans hb3
  have hOG3 := ownsRow_below hOG2 hb23
  have hOP3 := ownsRow_below hOP2 hb23
  have b23 := b2.below hb23 (by omega)
  have b43 := b4.below hb23 hs2
  have hB3 := hB2.trans (hb23.mono (by omega))
  have hs3 := hb23.size
  have c4 : w3.cell? ⟨p, 4, none⟩ = some (.slice (some ⟨g, 0, none⟩) 2 gc) := by rw [b43.cell]; simp
  have f4 : w3.frozen? ⟨p, 4, none⟩ = false := b43.free 4
  go_wp2_with (first
    | (with_reducible refine Ord.Two.walk_next ?_)
    | (at_builtin; refine at_stop ?_)
    | ((with_reducible refine Ord.walk_eff rfl ?_ (fun K hK => ?_)); (focus (first | assumption | exact c4 | (simp [c4]; done) | (rw [World.cell?_alloc_ite, if_neg (by omega)]; exact c4))))
    | ((with_reducible refine Ord.next_of ?_ (fun hOF => ?_)); (focus (first | assumption | exact c4 | (simp [c4]; done) | (rw [World.cell?_alloc_ite, if_neg (by omega)]; exact c4))))
    | ((with_reducible refine Ord.at_calm ?_); refine Ord.calm_skip rfl ?_ (fun K hK => ?_); (focus (simp [Region.wanted, yielded]; done))) | with_reducible refine Ord.walk_calm rfl rfl (fun K hK => ?_) | ((with_reducible refine Ord.at_wild ?_); refine Ord.wild_fieldAddr rfl rfl (fun W => by simp [go_sem]; rfl) (fun K hK => ?_)) | ((with_reducible refine Ord.at_wild ?_); refine Ord.wild_move rfl rfl (fun K hK => ?_)) | ((with_reducible refine Ord.at_wild ?_); refine Ord.wild_nilCheck rfl rfl (fun K hK => ?_)) | with_reducible refine Ord.walk_eff rfl (by first | (simp; done) | assumption | (go_simp; done) | (repeat (first | assumption | exact Below.refl _ _ | refine Below.drew ?_ | refine Below.alloc ?_ (by first | omega | (simp; done) | (simp; omega)) _ | refine Below.setCell ?_ (by first | omega | (simp; done) | (simp; omega)) _ | refine Below.trans ?_ (Below.mono (by assumption) (by first | omega | (simp; done) | (simp; omega)))))) (fun K hK => ?_) | with_reducible refine Ord.at_fork ?_ ?_ | with_reducible refine Ord.walk_nil ?_ | (with_reducible refine Ord.next_of (by first | (simp; done) | (go_simp; done) | (repeat (first | assumption | exact Below.refl _ _ | refine Below.drew ?_ | refine Below.alloc ?_ (by first | omega | (simp; done) | (simp; omega)) _ | refine Below.setCell ?_ (by first | omega | (simp; done) | (simp; omega)) _ | refine Below.trans ?_ (Below.mono (by assumption) (by first | omega | (simp; done) | (simp; omega)))))) (fun _ => ?_)))
  unfold Stop
  refine wpList_append_own _ rfl (.tmp 4) (.tmp 6) 24 rfl (w.heap.size + 1) 49 i0 (.agg #[.int .i64 0, .int .i64 0, .int .i64 0]) 3 24 Try.underlying24 hi0 hz0 hz1 hz2 rfl (by decide) (.slice (some ⟨g, 0, none⟩) 2 gc) 2 ([(7, 2, 3), (28, 0, 1)].flatMap gcell) rfl (World.ownsRow.alloc hOG3 _) ⟨w3.heap.size, 0, none⟩ 1 1 (gcell (24, 1, 1)) rfl rfl (news_blk (A := #[.int .i64 24, .int .i64 1, .int .i64 1]) (Blk.new _ _ _)) (by simp [gcell, Value.oneCell']) (by decide) (by decide) (by simp; omega) ?_
  intro v5 w5 hown5 hgrow5 _
  have hOP5 := World.ownsRow.kept (World.ownsRow.alloc hOP3 _) hgrow5 (ownBlock_ne hOP3 hOG3 (by decide))
  have hne : ∀ k, k ≠ g → some k ≠ (Value.slice (some ⟨g, 0, none⟩) 2 gc).ownBlock := by intro k hk; simpa [Value.ownBlock] using hk
  have b5 : Blk w5 p _ _ := (hgrow5.block p (by simp; omega) (hne p (by omega))).trans (b43.alloc _)
  have b25 : Blk w5 w.heap.size _ _ := (hgrow5.block w.heap.size (by simp; omega) (hne _ (by omega))).trans (b23.alloc _)
  have hB5 := (hB3.alloc (by omega) (.cells #[.int .i64 24, .int .i64 1, .int .i64 1] 49)).grown hgrow5 (by simp; omega) (fun j e => by simp only [Value.ownBlock, Option.some.injEq] at e; omega)
  have hs5 : w3.heap.size < w5.heap.size := by have := hgrow5.size; simp at this; omega
  clear hgrow5 hOG3 hOP3 hOG2 hOP2 b23 b43 b2 b4 hb3 hb23 hne c3 c4 f4
  obtain ⟨g5, q5, rfl⟩ := own_slice hown5 (by omega)
  have c5 : w5.cell? ⟨p, 4, none⟩ = some (.slice (some ⟨g, 0, none⟩) 2 gc) := by rw [b5.cell]; simp
  have f5 : w5.frozen? ⟨p, 4, none⟩ = false := b5.free 4
  have b6 : Blk (w5.setCell ⟨p, 4, none⟩ (.slice (some ⟨g5, 0, none⟩) 3 q5)) p #[.int .i64 5, .int .i64 3, .int .i64 2, .int .i64 3, .slice (some ⟨g5, 0, none⟩) 3 q5, .slice (some ⟨q, 0, none⟩) 1 qc] 27 := b5.set 4 _
  have b26 : Blk (w5.setCell ⟨p, 4, none⟩ (.slice (some ⟨g5, 0, none⟩) 3 q5)) w.heap.size _ _ := b25.other (by show _ ≠ p; omega) _
  have hlt5 := (hown5.lt g5 rfl)
  go_wp2_with (first
    | (with_reducible refine Ord.Two.walk_next ?_)
    | (refine wpList_load_blk 27 (.tmp 1) agg_bean rfl rfl rfl b6 rfl ?_)
    | (refine wpList_store_blk 27 (.tmp 0) (.tmp 9) agg_bean rfl rfl rfl rfl b26 rfl rfl (by simp [Value.oneCell']) ?_; intro w6 h6)
    | ((with_reducible refine Ord.walk_eff rfl ?_ (fun K hK => ?_)); (focus trivial))
    | ((with_reducible refine Ord.next_of ?_ (fun hOF => ?_)); (focus (first | exact c5 | trivial)))
    | ((with_reducible refine Ord.at_calm ?_); refine Ord.calm_skip rfl ?_ (fun K hK => ?_); (focus (simp [Region.wanted, yielded]; done))) | with_reducible refine Ord.walk_calm rfl rfl (fun K hK => ?_) | ((with_reducible refine Ord.at_wild ?_); refine Ord.wild_fieldAddr rfl rfl (fun W => by simp [go_sem]; rfl) (fun K hK => ?_)) | ((with_reducible refine Ord.at_wild ?_); refine Ord.wild_move rfl rfl (fun K hK => ?_)) | ((with_reducible refine Ord.at_wild ?_); refine Ord.wild_nilCheck rfl rfl (fun K hK => ?_)) | with_reducible refine Ord.walk_eff rfl (by first | (simp; done) | assumption | (go_simp; done) | (repeat (first | assumption | exact Below.refl _ _ | refine Below.drew ?_ | refine Below.alloc ?_ (by first | omega | (simp; done) | (simp; omega)) _ | refine Below.setCell ?_ (by first | omega | (simp; done) | (simp; omega)) _ | refine Below.trans ?_ (Below.mono (by assumption) (by first | omega | (simp; done) | (simp; omega)))))) (fun K hK => ?_) | with_reducible refine Ord.at_fork ?_ ?_ | with_reducible refine Ord.walk_nil ?_ | (with_reducible refine Ord.next_of (by first | (simp; done) | (go_simp; done) | (repeat (first | assumption | exact Below.refl _ _ | refine Below.drew ?_ | refine Below.alloc ?_ (by first | omega | (simp; done) | (simp; omega)) _ | refine Below.setCell ?_ (by first | omega | (simp; done) | (simp; omega)) _ | refine Below.trans ?_ (Below.mono (by assumption) (by first | omega | (simp; done) | (simp; omega)))))) (fun _ => ?_)))
  (try simp only [Exit.inBlock, Exit.then])
  refine bodyPost_ret (v := .agg #[.int .i64 5, .int .i64 3, .int .i64 2, .int .i64 3, .slice (some ⟨g5, 0, none⟩) 3 q5, .slice (some ⟨q, 0, none⟩) 1 qc]) (results_cell_blk rfl _ agg_bean rfl h6.blk rfl) rfl ⟨_, rfl, ⟨_, _, rfl, ?_, ?_⟩, ?_⟩
  · exact own_store (own_store hown5 (Nat.le_refl _) b5 (by decide) (fun k hk => Below.heap_setCell w5 _ _ k hk)) (by omega) b26 (by decide) h6.heap
  · exact own_store (own_store hOP5 (Nat.le_refl _) b5 (by decide) (fun k hk => Below.heap_setCell w5 _ _ k hk)) (by omega) b26 (by decide) h6.heap
  · exact h6.below ((hB5.setCell (by show _ ≤ p; omega) _)) (Nat.le_refl _)

set_option maxHeartbeats 4000000 in
set_option maxRecDepth 100000 in
theorem l_clash (w : World) : Calls Try.prog 35 #[] w (Votes clashBn w) := by
  have S := Lib.hid l_second
  obtain ⟨i0, hi0, hz0, hz1, hz2⟩ := info_parts Try.info54
  go_enter Try.func35, Try.ntmps35
  go_wp2_with (first
    | (go_at_call 32; refine (S.out _).mono ?_; rintro e w1 ⟨_, rfl, ⟨gv, pv, rfl, hOG, hOP⟩, hb1⟩; refine at_stop ?_))
  unfold Stop
  have b1 := (Blk.new w #[.int .i64 0, .int .i64 0, .int .i64 0, .int .i64 0, .slice none 0 0, .slice none 0 0] 27).below hb1 (by simp)
  have hB := ((Below.refl w.heap.size w).alloc (Nat.le_refl _) _).trans (hb1.mono (by simp))
  obtain ⟨g, gc, rfl⟩ := own_slice hOG (by decide)
  obtain ⟨q, qc, rfl⟩ := own_slice hOP (by decide)
  have hg1 := hOG.lt g rfl
  have hg2 := hOP.lt q rfl
  simp only [World.size_alloc] at hg1 hg2
  go_wp2_with (first
    | (refine wpList_store_blk 27 (.tmp 1) (.tmp 2) agg_bean rfl rfl rfl rfl (Blk.new _ _ _) rfl rfl (by simp [Value.oneCell']) ?_; intro w2 h2; refine at_stop ?_))
  unfold Stop
  have hb12 : Below w1.heap.size w1 w2 := h2.below ((Below.refl _ _).alloc (Nat.le_refl _) _) (Nat.le_refl _)
  have hOG2 := ownsRow_below hOG hb12
  have hOP2 := ownsRow_below hOP hb12
  have b2 := b1.below hb12 b1.lt
  simp only [World.size_alloc] at hOG2 hOP2
  have b4 := h2.blk
  have hs2 : w1.heap.size < w2.heap.size := b4.lt
  have hB2 := hB.trans (hb12.mono hB.size)
  have hs0 := hB.size
  have hlt0 := b1.lt
  generalize hp : w1.heap.size = p at *
  clear h2 hOG hOP b1 hb1 hb12 hB
  simp only [secondB, sampleB, List.length_cons, List.length_nil, Nat.zero_add, Nat.reduceAdd] at *
  have c3 : w2.cell? ⟨p, 5, none⟩ = some (.slice (some ⟨q, 0, none⟩) 1 qc) := by rw [b4.cell]; simp
  go_wp2_with (first
    | (at_builtin; refine at_stop ?_))
  unfold Stop
  refine wpList_append_own _ rfl (.tmp 4) (.tmp 6) 25 rfl (w.heap.size + 1) 54 i0 (.agg #[.int .i64 0, .int .i64 0, .bool false]) 3 24 Try.underlying25 hi0 hz0 hz1 hz2 rfl (by decide) (.slice (some ⟨q, 0, none⟩) 1 qc) 1 ([(0, 1, true)].flatMap pcell) rfl (World.ownsRow.alloc hOP2 _) ⟨w2.heap.size, 0, none⟩ 1 1 (pcell (0, 2, true)) rfl rfl (news_blk (A := #[.int .i64 0, .int .i64 2, .bool true]) (Blk.new _ _ _)) (by simp [pcell, Value.oneCell']) (by decide) (by decide) (by simp; omega) ?_
  intro v5 w5 hown5 hgrow5 _
  have hOG5 := World.ownsRow.kept (World.ownsRow.alloc hOG2 _) hgrow5 (ownBlock_ne hOG2 hOP2 (by decide))
  have hne : ∀ k, k ≠ q → some k ≠ (Value.slice (some ⟨q, 0, none⟩) 1 qc).ownBlock := by intro k hk; simpa [Value.ownBlock] using hk
  have b5 : Blk w5 p _ _ := (hgrow5.block p (by simp; omega) (hne p (by omega))).trans (b4.alloc _)
  have b25 : Blk w5 w.heap.size _ _ := (hgrow5.block w.heap.size (by simp; omega) (hne _ (by omega))).trans (b2.alloc _)
  have hB5 := (hB2.alloc (by omega) (.cells #[.int .i64 0, .int .i64 2, .bool true] 54)).grown hgrow5 (by simp; omega) (fun j e => by simp only [Value.ownBlock, Option.some.injEq] at e; omega)
  have hs5 : w2.heap.size < w5.heap.size := by have := hgrow5.size; simp at this; omega
  clear hgrow5 hOG2 hOP2 b2 b4 hne c3
  obtain ⟨g5, q5, rfl⟩ := own_slice hown5 (by omega)
  have c5 : w5.cell? ⟨p, 5, none⟩ = some (.slice (some ⟨q, 0, none⟩) 1 qc) := by rw [b5.cell]; simp
  have f5 : w5.frozen? ⟨p, 5, none⟩ = false := b5.free 5
  have b6 : Blk (w5.setCell ⟨p, 5, none⟩ (.slice (some ⟨g5, 0, none⟩) 2 q5)) p #[.int .i64 5, .int .i64 3, .int .i64 2, .int .i64 3, .slice (some ⟨g, 0, none⟩) 3 gc, .slice (some ⟨g5, 0, none⟩) 2 q5] 27 := b5.set 5 _
  have b26 : Blk (w5.setCell ⟨p, 5, none⟩ (.slice (some ⟨g5, 0, none⟩) 2 q5)) w.heap.size _ _ := b25.other (by show _ ≠ p; omega) _
  have hlt5 := (hown5.lt g5 rfl)
  go_wp2_with (first
    | (refine wpList_load_blk 27 (.tmp 1) agg_bean rfl rfl rfl b6 rfl ?_)
    | (refine wpList_store_blk 27 (.tmp 0) (.tmp 9) agg_bean rfl rfl rfl rfl b26 rfl rfl (by simp [Value.oneCell']) ?_; intro w6 h6))
  (try simp only [Exit.inBlock, Exit.then])
  refine bodyPost_ret (v := .agg #[.int .i64 5, .int .i64 3, .int .i64 2, .int .i64 3, .slice (some ⟨g, 0, none⟩) 3 gc, .slice (some ⟨g5, 0, none⟩) 2 q5]) (results_cell_blk rfl _ agg_bean rfl h6.blk rfl) rfl ⟨_, rfl, ⟨_, _, rfl, ?_, ?_⟩, ?_⟩
  · exact own_store (own_store hOG5 (Nat.le_refl _) b5 (by decide) (fun k hk => Below.heap_setCell w5 _ _ k hk)) (by omega) b26 (by decide) h6.heap
  · exact own_store (own_store hown5 (Nat.le_refl _) b5 (by decide) (fun k hk => Below.heap_setCell w5 _ _ k hk)) (by omega) b26 (by decide) h6.heap
  · exact h6.below ((hB5.setCell (by show _ ≤ p; omega) _)) (Nat.le_refl _)
end Go.Proofs.Ytjbjmoghloabpaa
set_option linter.unusedVariables false
set_option linter.unusedSimpArgs false
namespace Go.Ord
/-- An operation that is not wanted. -/
theorem walk_skip {P : Program} {lo : List Oper} {Q : Exit → Act → World → Prop} {H : World → Prop} {k c : Nat} {l : List (Nat × Nat)} {a : Act} {w : World} {o : Oper} (ho : lo[k]? = some o) (hw : Region.wanted o (yielded lo.toArray a.tmps) = false)
    (h : ∀ K : Act → World → Prop, (∀ a, walk P lo.toArray H Q l a w → K a w) → wpList P lo.toArray (Exit.then K (fun _ _ _ => False)) [{ o with op := .move (.const undef) }] a w) : walk P lo.toArray H Q ((k, c) :: l) a w := by
  have := h (fun a' w' => w' = w ∧ walk P lo.toArray H Q l a' w) (fun _ h => ⟨rfl, h⟩)
  rw [walk]; simp only [at_list ho, hw, Bool.false_eq_true, if_false]
  simp only [wpList] at this
  have hwt : Region.wanted { o with op := .move (.const undef) } (yielded lo.toArray a.tmps) = Region.wanted o (yielded lo.toArray a.tmps) := rfl
  rw [hwt, hw] at this
  exact this.2
/-- The guard: an effect is next. -/
theorem at_eff {P : Program} {ops : Array Oper} {Q : Exit → Act → World → Prop} {H : World → Prop} {k : Nat} {l : List (Nat × Nat)} {a : Act} {w : World} (h : walk P ops H Q ((k, 2) :: l) a w) : walk P ops H Q ((k, 2) :: l) a w := h
end Go.Ord
namespace Go.Proofs.Ytjbjmoghloabpaa
open Go.RowKit Go.Proofs
/-- A list's cells, or nil. -/
def SrcAt (w : World) (sv : Value) (m size : Nat) (news : List Value) : Prop :=
  news.length = m * size ∧ ((∃ c, sv = .slice none m c ∧ m = 0) ∨ ∃ ad c, sv = .slice (some ad) m c ∧ ∀ j u, news[j]? = some u → w.cell? (ad.add j) = some u)
section
variable {P : Program} {w : World}
theorem run_append_none (base : Nat) (t ty e : TypeId) (i : TypeInfo) (ht : P.underlying t = some (.slice e)) (hi : P.info? e = some i)
    (v : Value) (n : Nat) (size : Nat) (xs : List Value) (hown : w.ownsRow base e size v n xs) (c : Nat) :
    (Builtin.append_ #[t, t] ty #[v, .slice none 0 c]).run P w = .ok v w := by
  rcases hown.2 with ⟨rfl, rfl⟩ | ⟨g, cap, cur, rfl, hbg, hg, hnc, hcm, hcs, htake⟩
  · simp [Builtin.append_, run_underlying ht, sizeOf, typeInfo, hi, Builtin.lenOf, Builtin.firstCells]
  · simp [Builtin.append_, run_underlying ht, sizeOf, typeInfo, hi, Builtin.lenOf, Builtin.firstCells, storeCells, hnc]
end
theorem flat_src {α : Type} (f : α → List Value) (hf : ∀ a, (f a).length = 3) (l : List α) (ga : Option Addr) (gc : Nat) (w : World)
    (h : ∀ i (hi : i < l.length), ∃ gb go, ga = some ⟨gb, go, none⟩ ∧ ∀ j, j < 3 → ∀ u, (f l[i])[j]? = some u → w.cell? ⟨gb, go + i * 3 + j, none⟩ = some u) :
    SrcAt w (.slice ga l.length gc) l.length 3 (l.flatMap f) := by
  have hlen : (l.flatMap f).length = l.length * 3 := by
    clear h
    induction l with
    | nil => rfl
    | cons a l ih => rw [List.flatMap_cons, List.length_append, ih, hf, List.length_cons]; omega
  refine ⟨hlen, ?_⟩
  cases ga with
  | none =>
    left
    refine ⟨gc, rfl, ?_⟩
    cases l with
    | nil => rfl
    | cons a l => obtain ⟨gb, go, e, _⟩ := h 0 (by simp); cases e
  | some ad =>
    right
    refine ⟨ad, gc, rfl, fun j u hj => ?_⟩
    have hjl : j < (l.flatMap f).length := (List.getElem?_eq_some_iff.1 hj).1
    have hi : j / 3 < l.length := by omega
    obtain ⟨gb, go, e, hc⟩ := h (j / 3) hi
    obtain rfl : ad = ⟨gb, go, none⟩ := by injection e
    have hr : j % 3 < 3 := Nat.mod_lt _ (by omega)
    have h1 := flat_get f hf l (j / 3) hi (j % 3) hr
    rw [show j / 3 * 3 + j % 3 = j by omega] at h1
    have h2 := hc (j % 3) hr u (by rw [← h1]; exact hj)
    rw [Addr.add_lit]
    rw [show go + j = go + j / 3 * 3 + j % 3 by omega]
    exact h2
theorem GsAt.src {w : World} {ga : Option Addr} {gs : List (Int × Int × Int)} (h : GsAt w ga gs) (gc : Nat) : SrcAt w (.slice ga gs.length gc) gs.length 3 (gs.flatMap gcell) :=
  flat_src gcell (fun _ => rfl) gs ga gc w fun i hi => by
    obtain ⟨gb, go, e, h1, h2, h3⟩ := h i hi
    refine ⟨gb, go, e, fun j hj u hu => ?_⟩
    match j, hj with
    | 0, _ => simp only [gcell, List.getElem?_cons_zero, Option.some.injEq] at hu; subst hu; exact h1
    | 1, _ => simp only [gcell, List.getElem?_cons_succ, List.getElem?_cons_zero, Option.some.injEq] at hu; subst hu; exact h2
    | 2, _ => simp only [gcell, List.getElem?_cons_succ, List.getElem?_cons_zero, Option.some.injEq] at hu; subst hu; exact h3
theorem PsAt.src {w : World} {ga : Option Addr} {gs : List (Int × Int × Bool)} (h : PsAt w ga gs) (gc : Nat) : SrcAt w (.slice ga gs.length gc) gs.length 3 (gs.flatMap pcell) :=
  flat_src pcell (fun _ => rfl) gs ga gc w fun i hi => by
    obtain ⟨gb, go, e, h1, h2, h3⟩ := h i hi
    refine ⟨gb, go, e, fun j hj u hu => ?_⟩
    match j, hj with
    | 0, _ => simp only [pcell, List.getElem?_cons_zero, Option.some.injEq] at hu; subst hu; exact h1
    | 1, _ => simp only [pcell, List.getElem?_cons_succ, List.getElem?_cons_zero, Option.some.injEq] at hu; subst hu; exact h2
    | 2, _ => simp only [pcell, List.getElem?_cons_succ, List.getElem?_cons_zero, Option.some.injEq] at hu; subst hu; exact h3
theorem gcell_one (l : List (Int × Int × Int)) : ∀ u ∈ l.flatMap gcell, u.oneCell' = true := by
  intro u hu
  obtain ⟨g, _, hg⟩ := List.mem_flatMap.1 hu
  simp only [gcell, List.mem_cons, List.not_mem_nil, or_false] at hg
  rcases hg with rfl | rfl | rfl <;> rfl
theorem pcell_one (l : List (Int × Int × Bool)) : ∀ u ∈ l.flatMap pcell, u.oneCell' = true := by
  intro u hu
  obtain ⟨g, _, hg⟩ := List.mem_flatMap.1 hu
  simp only [pcell, List.mem_cons, List.not_mem_nil, or_false] at hg
  rcases hg with rfl | rfl | rfl <;> rfl
end Go.Proofs.Ytjbjmoghloabpaa

set_option linter.unusedVariables false
set_option linter.unusedSimpArgs false
namespace Go.Ord
/-- As calm, but the look ahead goes F rounds. -/
def calmG (F : Nat) (ops : Array Oper) (eff : Nat → Bool) (i : Nat) (listed : Array Bool) : Bool :=
  let L := reach ops i F listed
  (Region.ready .any ops L).all (· == i) && (List.range ops.size).all fun j => (!listed.getD j false || L.getD j false) && (listed.getD j true || !eff j || j == i || !L.getD j false)
theorem calmG_spec {F : Nat} {ops : Array Oper} {eff : Nat → Bool} {i : Nat} {listed : Array Bool} (hs : listed.size = ops.size) (h : calmG F ops eff i listed = true) : ∃ L, Calm ops eff i L listed := by
  unfold calmG at h
  simp only [Bool.and_eq_true, List.all_eq_true, List.mem_range, beq_iff_eq, Bool.or_eq_true, Bool.not_eq_true'] at h
  obtain ⟨h1, h2⟩ := h
  refine ⟨reach ops i F listed, h1, fun j hj hl => ?_, fun j hj hl hne hL => ?_, by rw [reach_size, hs], hs⟩
  · have := (h2 j hj).1
    rw [hl] at this
    simpa using this
  · have := (h2 j hj).2
    rw [hl, hL] at this
    simpa [hne] using this
variable {P : Program} {ops : Array Oper} {Q : Exit → Act → World → Prop} {H : World → Prop} {eff : Nat → Bool}
def planG (F : Nat) (ops : Array Oper) (eff : Nat → Bool) : List (Nat × Nat) → Array Bool → Bool
  | [], listed => (Region.ready .any ops listed).isEmpty
  | (k, c) :: l, listed =>
    (if eff k then c == 2 && decide (Region.ready .any ops listed = [k])
     else decide (c < 2) && (decide (Region.ready .any ops listed = [k]) || ((Region.ready .any ops listed).contains k && Region.free .any ops listed k && (c == 1 || calmG F ops eff k listed)))) &&
    planG F ops eff l (listed.setIfInBounds k true)
def planOkG (F : Nat) (ops : Array Oper) (l : List (Nat × Nat)) : Bool :=
  Region.noSelect ops && l.length == ops.size && planG F ops (fun i => l.any fun (k, c) => k == i && c == 2) l (Array.replicate ops.size false)
theorem any_of_walkG (F : Nat) (hs : Region.noSelect ops = true) (hQ : ∀ c a d v w, Q (.panic c) (a.put d v) w → Q (.panic c) a w) : ∀ (l : List (Nat × Nat)) (listed : Array Bool) (a : Act) (w : World), listed.size = ops.size → H w →
    planG F ops eff l listed = true → walk P ops H Q l a w → any P ops eff H Q l.length listed a w
  | [], _, _, _, _, _, hB, h => ⟨by simpa [planG] using hB, h⟩
  | (k, c) :: l, listed, a, w, hsz, hw, hB, h => by
    rw [planG, Bool.and_eq_true] at hB
    obtain ⟨hB, hB'⟩ := hB
    rw [walk] at h
    cases ho : ops[k]? with
    | none => simp only [ho] at h
    | some o =>
      simp only [ho] at h
      have hsz' : (listed.setIfInBounds k true).size = ops.size := by simp [hsz]
      have ih : ∀ a w, H w → walk P ops H Q l a w → any P ops eff H Q l.length (listed.setIfInBounds k true) a w := fun a w h1 h2 => any_of_walkG F hs hQ l _ a w hsz' h1 hB' h2
      cases he : eff k with
      | true =>
        simp only [he, if_true, Bool.and_eq_true, beq_iff_eq, decide_eq_true_eq] at hB
        obtain ⟨rfl, hr⟩ := hB
        refine ⟨fun h0 => (by rw [h0] at hr; cases hr), fun j hj => ?_⟩
        rw [hr] at hj
        have hjk : j = k := by simpa using hj
        subst hjk
        unfold op
        simp only [ho, he, if_true]
        split
        · rename_i hwt
          simp only [hwt, if_true] at h
          exact h.imp (Oper.wp_mono (fun a w hk => ⟨hk.1, ih a w hk.1 hk.2⟩)) id
        · rename_i hwt
          simp only [hwt] at h
          exact ih _ _ hw h
      | false =>
        simp only [he, Bool.false_eq_true, if_false, Bool.and_eq_true, Bool.or_eq_true, beq_iff_eq, decide_eq_true_eq] at hB
        obtain ⟨hc2, hone | ⟨⟨hr, hf⟩, hcc⟩⟩ := hB
        · refine ⟨fun h0 => (by rw [h0] at hone; cases hone), fun j hj => ?_⟩
          rw [hone] at hj
          have hjk : j = k := by simpa using hj
          subst hjk
          unfold op
          simp only [ho, he, Bool.false_eq_true, if_false]
          split
          · rename_i hwt
            simp only [hwt, if_true] at h
            match c, hc2, h with
            | 0, _, h =>
              obtain ⟨v, h1, h2⟩ := h
              exact ⟨v, h1, ih _ _ hw h2⟩
            | 1, _, h =>
              obtain ⟨v, h1, h2⟩ := h
              exact ⟨v, h1 w hw, ih _ _ hw h2⟩
            | (n + 2), hc2, _ => exact absurd hc2 (by omega)
          · rename_i hwt
            simp only [hwt] at h
            exact ih _ _ hw h
        have hr' : k ∈ Region.ready .any ops listed := by simpa using hr
        by_cases hwt : Region.wanted o (yielded ops a.tmps) = true
        · simp only [hwt, if_true] at h
          match c, hc2, h with
          | 0, _, h =>
            obtain ⟨v, h1, h2⟩ := h
            have hcalm : calmG F ops eff k listed = true := hcc.resolve_left (by simp)
            obtain ⟨L, hL⟩ := calmG_spec hsz hcalm
            exact any_calm ho he (Region.noSelect_spec hs) (fun c a w => hQ c a _ _ w) l.length listed a hL (Region.free_spec ho hf) hr' (.inl ⟨hwt, fun w' e => by subst e; exact h1⟩) (ih _ _ hw h2)
          | 1, _, h =>
            obtain ⟨v, h1, h2⟩ := h
            exact any_first ho he (Region.noSelect_spec hs) (fun c a w => hQ c a _ _ w) l.length listed a w hw (Region.free_spec ho hf) hr' (.inl ⟨hwt, h1⟩) (ih _ _ hw h2)
          | (n + 2), hc2, _ => exact absurd hc2 (by omega)
        · have hwt' : Region.wanted o (yielded ops a.tmps) = false := by simpa using hwt
          simp only [hwt', Bool.false_eq_true, if_false] at h
          exact any_first ho he (Region.noSelect_spec hs) (fun c a w => hQ c a _ _ w) l.length listed a w hw (Region.free_spec ho hf) hr' (.inr ⟨hwt', rfl⟩) (ih _ _ hw h)
theorem wp_regionG {id : Nat} {a : Act} {w : World} {lo : List Oper} (F : Nat) (l : List (Nat × Nat)) (H : World → Prop) (hm : P.follows .mixedOrders = true) (hp : planOkG F lo.toArray l = true)
    (hQ : ∀ c a d v w, Q (.panic c) (a.put d v) w → Q (.panic c) a w) (hH : H w.drew) (h : walk P lo.toArray H Q l a w.drew) : (Code.region id lo.toArray true).wp P Q a w := by
  simp only [planOkG, Bool.and_eq_true, beq_iff_eq] at hp
  obtain ⟨⟨hs, hl⟩, hp⟩ := hp
  refine wp_region_any hm (wpAny_of_any (H := H) (eff := fun i => l.any fun (k, c) => k == i && c == 2) _ _ _ _ ?_)
  have h2 := any_of_walkG F (H := H) (eff := fun i => l.any fun (k, c) => k == i && c == 2) hs hQ l (Array.replicate lo.toArray.size false) a _ (by simp) hH hp h
  rw [hl] at h2
  exact h2
end Go.Ord
set_option linter.unusedVariables false
set_option linter.unusedSimpArgs false
namespace Go.Ord
/-- A tree of orders. -/
inductive Pl where
  | leaf (l : List (Nat × Nat))
  | fork2 (l : List (Nat × Nat)) (k1 : Nat) (t1 : Pl) (k2 : Nat) (t2 : Pl)
  | fork3 (l : List (Nat × Nat)) (k1 : Nat) (t1 : Pl) (k2 : Nat) (t2 : Pl) (k3 : Nat) (t3 : Pl)
namespace Pl
def len : Pl → Nat
  | leaf l => l.length
  | fork2 l _ t1 _ _ => l.length + (t1.len + 1)
  | fork3 l _ t1 _ _ _ _ => l.length + (t1.len + 1)
end Pl
variable {P : Program} {ops : Array Oper} {Q : Exit → Act → World → Prop} {H : World → Prop} {eff : Nat → Bool}
theorem letsOut_qn {R : Act → World → Prop} (h : LetsOut (Qn Q R)) : LetsOut Q := h
end Go.Ord
namespace Go.Ord.Two
variable {P : Program} {Q : Exit → Act → World → Prop}
theorem wpIn_region {l n : Nat} {id : Nat} {a : Act} {w : World} {lo : List Oper} (hO : ¬ LetsOut Q) (l1 l2 : List (Nat × Nat)) (H : World → Prop) (hm : P.follows .mixedOrders = true) (hp : planOk lo.toArray l1 l2 = true) (hd : lo.all noDefer = true)
    (hQ : ∀ c a d v w, Q (.panic c) (a.put d v) w → Q (.panic c) a w) (hH : H w.drew) (h : walk P lo.toArray H (Qn Q (walk P lo.toArray (fun _ => True) Q l2)) l1 a w.drew) : (Code.region id lo.toArray true).wpIn (Fence.wide.inRound l) n P Q a w := by
  simp only [planOk, Bool.and_eq_true, beq_iff_eq] at hp
  obtain ⟨⟨hs, hl⟩, hp⟩ := hp
  split at hp
  · cases hp
  · rename_i L hL
    refine wpIn_region_any hm (wpAnyIn_of hO (fun i o ho => List.all_eq_true.1 hd o (List.mem_of_getElem? (by simpa using ho))) _ _ _ _ (wpAny_of_any (H := H) (eff := isEff (l1 ++ l2)) (hold := isEff l1) _ _ _ _ ?_))
    have hsz : L.size = lo.toArray.size := by
      have : ∀ (l : List (Nat × Nat)) (x y : Array Bool), plan1 lo.toArray (isEff (l1 ++ l2)) (isEff l1) l x = some y → y.size = x.size := by
        intro l
        induction l with
        | nil => intro x y h; simp only [plan1, Option.some.injEq] at h; rw [h]
        | cons p l ih =>
          intro x y h
          rw [plan1] at h
          split at h
          · rw [ih _ _ h]; simp
          · cases h
      rw [this _ _ _ hL]; simp
    have h2 := any_of_walk1 (H := H) (eff := isEff (l1 ++ l2)) (hold := isEff l1) hs hQ (m := l2.length) (fun a w hR => any_of_walk2 hs hQ l2 L a w hsz hp hR) l1 (Array.replicate lo.toArray.size false) a _ (by simp) hH hL h
    rw [hl] at h2
    exact h2
end Go.Ord.Two
set_option linter.unusedVariables false
set_option linter.unusedSimpArgs false
namespace Go.Ord
variable {P : Program} {ops : Array Oper} {Q : Exit → Act → World → Prop} {H : World → Prop} {eff : Nat → Bool}
end Go.Ord
set_option linter.unusedVariables false
set_option linter.unusedSimpArgs false
namespace Go.Ord
variable {P : Program} {ops : Array Oper} {Q : Exit → Act → World → Prop}
/-- One more operation has come up. -/
def upd (ls : Nat → Bool) (i : Nat) : Nat → Bool := fun j => j == i || ls j
def unl (n : Nat) (listed : Array Bool) : Nat := ((List.range n).filter fun i => !listed.getD i false).length
theorem upd_set {listed : Array Bool} {i : Nat} (hi : i < listed.size) : (fun j => (listed.setIfInBounds i true).getD j false) = upd (fun j => listed.getD j false) i := by
  funext j
  unfold upd
  by_cases h : j = i
  · subst h; simp [hi]
  · rw [getD_set_ne false (Ne.symm h)]; simp [h]
theorem unl_set {n : Nat} {listed : Array Bool} {i : Nat} (hn : i < n) (hi : i < listed.size) (h : listed.getD i false = false) : unl n (listed.setIfInBounds i true) + 1 ≤ unl n listed := by
  unfold unl
  have key : ∀ l : List Nat, l.Nodup → i ∈ l → (l.filter fun j => !(listed.setIfInBounds i true).getD j false).length + 1 ≤ (l.filter fun j => !listed.getD j false).length := by
    intro l
    induction l with
    | nil => intro _ h; cases h
    | cons x l ih =>
      intro hnd hm
      have hx := List.nodup_cons.1 hnd
      by_cases hxi : x = i
      · subst hxi
        have e1 : (listed.setIfInBounds x true).getD x false = true := by simp [hi]
        have e2 : (l.filter fun j => !(listed.setIfInBounds x true).getD j false) = (l.filter fun j => !listed.getD j false) := by
          apply List.filter_congr
          intro j hj
          rw [getD_set_ne false (show x ≠ j from fun e => hx.1 (e ▸ hj))]
        rw [List.filter_cons, List.filter_cons, e1, h, e2]
        simp
      · have hm2 : i ∈ l := by
          rcases List.mem_cons.1 hm with h | h
          · exact absurd h.symm hxi
          · exact h
        have ih2 := ih hx.2 hm2
        have e1 : (listed.setIfInBounds i true).getD x false = listed.getD x false := getD_set_ne false (Ne.symm hxi)
        rw [List.filter_cons, List.filter_cons, e1]
        split
        · simp only [List.length_cons]; omega
        · exact ih2
  exact key _ List.nodup_range (List.mem_range.2 hn)
theorem wpOp_mono' {i : Nat} {K K' : Act → World → Prop} {a : Act} {w : World} (h : ∀ a w, K a w → K' a w) (hh : wpOp P ops Q i K a w) : wpOp P ops Q i K' a w := by
  unfold wpOp at *
  cases ho : ops[i]? with
  | none => simp only [ho] at hh ⊢; exact h _ _ hh
  | some o =>
    simp only [ho] at hh ⊢
    split
    · rename_i hw
      simp only [hw, if_true] at hh
      exact hh.imp (Oper.wp_mono h) id
    · rename_i hw
      simp only [hw] at hh
      exact h _ _ hh
theorem wpOp_of_walk {R : Act → World → Prop} {k : Nat} {a : Act} {w : World} (h : walk P ops (fun _ => True) (Qn Q R) [(k, 2)] a w) : wpOp P ops Q k R a w := by
  rw [walk] at h
  unfold wpOp
  cases ho : ops[k]? with
  | none => simp only [ho] at h
  | some o =>
    simp only [ho] at h ⊢
    split
    · rename_i hwt
      simp only [hwt, if_true] at h
      exact h.imp (fun h => Two.wp_qn (Oper.wp_mono (fun a w hk => hk.2) h)) (fun h => ⟨h.1, letsOut_qn h.2⟩)
    · rename_i hwt
      simp only [hwt] at h
      exact h
/-- What has to have come up ahead of an operation. -/
def predsB (lo : List Oper) (ls : Nat → Bool) (i : Nat) : Bool := ((lo[i]?).map fun o => o.after.all fun e => !Region.binds .any e || ls e.on).getD false
end Go.Ord
