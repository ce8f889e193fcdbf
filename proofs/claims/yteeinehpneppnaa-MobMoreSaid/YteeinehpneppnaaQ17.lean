/- Parts of a proof: MoQ. -/
import Derived.Test.YteeinehpneppnaaQ16
import Derived.Test.YteeinehpneppnaaQ03
set_option linter.unusedVariables false
set_option linter.unusedSimpArgs false
namespace Go.Proofs.Yteeinehpneppnaa
open Go.RowKit Go.Proofs
attribute [local irreducible] Ord.walk
/-- What a panic within a region leaves. -/
def PanAt (ds : List Deferred) (i j : Nat) (s t : Value) (E : Int) (P : World → Prop) (e : Exit) (a : Act) (w : World) : Prop := e = stopX E ∧ a.defers = ds ∧ a.tmps.getD i undef = s ∧ a.tmps.getD j undef = t ∧ P w
set_option maxHeartbeats 40000000 in
set_option maxRecDepth 100000 in
theorem m_Stretch_stop {m : Mb} {A : Ma} (i : Int) (w : World) (hl : Mlen m) (hm : MbAt w m A) (hk : validM m = false ∨ herdB m i = false) :
    Calls Try.prog 24 #[mv m A, .int .i64 i] w (Gives2 (spv (0, 0)) (.int .i64 (knownP m (herdB m i))) w) := by
  have hmf := hmf_mob
  have HO : Hid (∀ W, Below w.heap.size w W → Blk W (w.heap.size + 1) #[.int .i64 i] 3 → Calls Try.prog 42 #[mv m A, .func (.func 83) #[] #[.pointer (some ⟨w.heap.size + 1, 0, none⟩)]] W (Stops (knownP m (herdB m i)) W)) := fun W hb b1 =>
    (m_open m A 83 #[.pointer (some ⟨w.heap.size + 1, 0, none⟩)] (herdB m i) W hl (hm.below hb) (fun args W => Try.call83 args W) (fun hv W' wp mb pa pc hw hb' => m_herdC 83 (.inl rfl) _ i W' hl hw (b1.below hb' b1.lt))).mono fun e w' h => open_stop h hk
  generalize knownP m (herdB m i) = E at *
  clear hl hm hk
  unfold mv mcells at *
  obtain ⟨W5, hW5⟩ : ∃ W5, ((((w.alloc (.cells #[.slice A.pa m.places.length A.pc, .slice A.la m.legs.length A.lc, .slice A.ha m.herds.length A.hc, .slice A.sa m.seen.length A.sc] 27)).alloc (.cells #[.int .i64 i] 3)).alloc (.cells #[.int .i64 0, .int .i64 0] 39)).alloc (.cells #[.int .i64 0] 30)) = W5 := ⟨_, rfl⟩
  have hB5 : Below w.heap.size w W5 := by rw [← hW5]; (repeat (first | assumption | exact Below.refl _ _ | refine Below.drew ?_ | refine Below.alloc ?_ (by first | omega | (simp; done) | (simp; omega)) _ | refine Below.setCell ?_ (by first | omega | (simp; done) | (simp; omega)) _ | refine Below.trans ?_ (Below.mono (by assumption) (by first | omega | (simp; done) | (simp; omega)))))
  have b1 : Blk W5 (w.heap.size + 1) #[.int .i64 i] 3 := by rw [← hW5]; exact (((Blk.new' _ _ _ _ (by simp)).alloc _).alloc _)
  have b3 : Blk W5 (w.heap.size + 2) #[.int .i64 0, .int .i64 0] 39 := by rw [← hW5]; exact (Blk.new' _ _ _ _ (by simp)).alloc _
  have b4 : Blk W5 (w.heap.size + 3) #[.int .i64 0] 30 := by rw [← hW5]; exact Blk.new' _ _ _ _ (by simp)
  have bm : Blk W5 w.heap.size #[.slice A.pa m.places.length A.pc, .slice A.la m.legs.length A.lc, .slice A.ha m.herds.length A.hc, .slice A.sa m.seen.length A.sc] 27 := by rw [← hW5]; exact ((((Blk.new _ _ _).alloc _).alloc _).alloc _)
  have hs5 : W5.heap.size = w.heap.size + 4 := by rw [← hW5]; simp
  have hs5a : W5.heap.size ≤ w.heap.size + 4 ∧ w.heap.size + 4 ≤ W5.heap.size := by omega
  clear hs5
  refine callsIn_wide.1 (callsIn_of_wp_marks (F := Fence.wide) (n := 0) Try.func24 rfl trivial (wpIn_wide.2 ?_) rfl)
  simp only [Try.ntmps24, List.size_toArray, List.length_cons, List.length_nil, Nat.reduceAdd, Nat.reduceSub, Array.replicate_succ, Array.replicate_zero, List.push_toArray, List.append_toArray, List.nil_append, List.cons_append]
  go_wp2_with fail
  clear hW5
  have b1d := b1.drew
  have bmd := bm.drew
  have r1 := b1.cell
  have HO5 := Lib.hid (HO.out W5.drew hB5.drew b1.drew)
  refine wp_mono (Q := PanAt [dcl 82 (w.heap.size + 3)] 4 5 (.pointer (some ⟨w.heap.size + 2, 0, none⟩)) (.pointer (some ⟨w.heap.size + 3, 0, none⟩)) E (fun W => Below w.heap.size w W ∧ Blk W (w.heap.size + 3) #[.int .i64 0] 30 ∧ Blk W (w.heap.size + 2) #[.int .i64 0, .int .i64 0] 39)) ?_ ?_
  · refine Ord.wp_regionD [(0, 0), (1, 0), (4, 1), (2, 2), (3, 2), (5, 2), (6, 2), (7, 2)] (fun W => Blk W (w.heap.size + 1) #[.int .i64 i] 3 ∧ Blk W w.heap.size #[.slice A.pa m.places.length A.pc, .slice A.la m.legs.length A.lc, .slice A.ha m.herds.length A.hc, .slice A.sa m.seen.length A.sc] 27) (by kernel_rfl) (by kernel_rfl) ?_ ⟨b1.drew, bm.drew⟩ ?_
    · rintro c ⟨tm, ds⟩ d v u ⟨o, ho, rfl⟩ h
      have hd : o.dst = some 7 ∨ o.dst = some 8 ∨ o.dst = some 9 ∨ o.dst = some 10 ∨ o.dst = some 11 ∨ o.dst = some 12 ∨ o.dst = none := by
        simp only [List.mem_toArray, List.mem_cons, List.not_mem_nil, or_false] at ho
        rcases ho with rfl | rfl | rfl | rfl | rfl | rfl | rfl | rfl <;> simp
      unfold PanAt at *
      rcases hd with e | e | e | e | e | e | e <;> rw [e] at h <;> simpa [Act.put, Array.getD_eq_getD_getElem?] using h
    go_wp2_with (first
      | (refine wpList_load_blk 27 (.tmp 2) agg_mob rfl rfl rfl bmd rfl ?_)
      | (go_at_call 42; refine HO5.out.mono ?_; rintro e w6 ⟨rfl, hb6⟩; exact ⟨rfl, rfl, rfl, rfl, hB5.trans (hb6.undrew.mono (by omega)), b4.drew.below hb6 b4.lt, b3.drew.below hb6 b3.lt⟩)
      | ((with_reducible refine Ord.at_wild ?_); refine Ord.wild_load (ad := ⟨w.heap.size + 1, 0, none⟩) (.int .i64 i) rfl rfl ?_ ?_; (focus (intro W hW; have r := hW.1.cell; simp [go_sem, r]; done)); intro K hK)
      | ((with_reducible refine Ord.at_calm ?_); refine Ord.calm_skip rfl ?_ (fun K hK => ?_); (focus (simp [Region.wanted, yielded]; done))) | with_reducible refine Ord.walk_calm rfl rfl (fun K hK => ?_) | ((with_reducible refine Ord.at_wild ?_); refine Ord.wild_fieldAddr rfl rfl (fun W => by simp [go_sem]; rfl) (fun K hK => ?_)) | ((with_reducible refine Ord.at_wild ?_); refine Ord.wild_move rfl rfl (fun K hK => ?_)) | ((with_reducible refine Ord.at_wild ?_); refine Ord.wild_nilCheck rfl rfl (fun K hK => ?_)) | with_reducible refine Ord.walk_eff rfl (by first | (simp; done) | assumption | (go_simp; done) | (repeat (first | assumption | exact Below.refl _ _ | refine Below.drew ?_ | refine Below.alloc ?_ (by first | omega | (simp; done) | (simp; omega)) _ | refine Below.setCell ?_ (by first | omega | (simp; done) | (simp; omega)) _ | refine Below.trans ?_ (Below.mono (by assumption) (by first | omega | (simp; done) | (simp; omega)))))) (fun K hK => ?_) | with_reducible refine Ord.at_fork ?_ ?_ | with_reducible refine Ord.walk_nil ?_ | (with_reducible refine Ord.next_of (by first | (simp; done) | (go_simp; done) | (repeat (first | assumption | exact Below.refl _ _ | refine Below.drew ?_ | refine Below.alloc ?_ (by first | omega | (simp; done) | (simp; omega)) _ | refine Below.setCell ?_ (by first | omega | (simp; done) | (simp; omega)) _ | refine Below.trans ?_ (Below.mono (by assumption) (by first | omega | (simp; done) | (simp; omega)))))) (fun _ => ?_)))
  rintro e ⟨tm, ds⟩ w8 ⟨rfl, rfl, h4, h5, hb8, he8, hs8⟩
  refine post_catch (v := .tuple #[spv (0, 0), .int .i64 E]) catch_Stretch (fun W => by simp [go_sem]) rfl he8 fun w' hl hb => ⟨?_, rfl, below_lets hb8 hl (Nat.le_refl _) (fun _ _ _ => by omega)⟩
  simp only [Array.getD_eq_getD_getElem?] at h4 h5
  have r4 := hb.cell
  have r3 := (hl.blk hs8 (by omega)).cell
  simp [results, Try.results24, go_sem, h4, h5, r4, r3]
set_option maxHeartbeats 40000000 in
set_option maxRecDepth 100000 in
theorem m_Stretch_clash {m : Mb} {A : Ma} (i : Int) (w : World) (hl : Mlen m) (hm : MbAt w m A) (hv : validM m = true) (hi : herdB m i = true) (hk : knownM m = false) :
    Calls Try.prog 24 #[mv m A, .int .i64 i] w (Gives2 (spv (0, 0)) (.int .i64 10) w) := by
  have hmf := hmf_mob
  have HO : Hid (∀ W, Below w.heap.size w W → Blk W (w.heap.size + 1) #[.int .i64 i] 3 → Calls Try.prog 42 #[mv m A, .func (.func 83) #[] #[.pointer (some ⟨w.heap.size + 1, 0, none⟩)]] W (fun e w' => ∃ wp mb pa pc, e = .returned (.pointer (some ⟨wp, 0, none⟩)) ∧ Opened w' wp m A pa pc mb ∧ Below W.heap.size W w' ∧ W.heap.size ≤ wp ∧ W.heap.size ≤ mb)) := fun W hb b1 =>
    (m_open m A 83 #[.pointer (some ⟨w.heap.size + 1, 0, none⟩)] (herdB m i) W hl (hm.below hb) (fun args W => Try.call83 args W) (fun hv W' wp mb pa pc hw hb' => m_herdC 83 (.inl rfl) _ i W' hl hw (b1.below hb' b1.lt))).mono fun e w' h => open_ok h hv hi
  clear hl hm
  unfold mv mcells at *
  obtain ⟨W5, hW5⟩ : ∃ W5, ((((w.alloc (.cells #[.slice A.pa m.places.length A.pc, .slice A.la m.legs.length A.lc, .slice A.ha m.herds.length A.hc, .slice A.sa m.seen.length A.sc] 27)).alloc (.cells #[.int .i64 i] 3)).alloc (.cells #[.int .i64 0, .int .i64 0] 39)).alloc (.cells #[.int .i64 0] 30)) = W5 := ⟨_, rfl⟩
  have hB5 : Below w.heap.size w W5 := by rw [← hW5]; (repeat (first | assumption | exact Below.refl _ _ | refine Below.drew ?_ | refine Below.alloc ?_ (by first | omega | (simp; done) | (simp; omega)) _ | refine Below.setCell ?_ (by first | omega | (simp; done) | (simp; omega)) _ | refine Below.trans ?_ (Below.mono (by assumption) (by first | omega | (simp; done) | (simp; omega)))))
  have b1 : Blk W5 (w.heap.size + 1) #[.int .i64 i] 3 := by rw [← hW5]; exact (((Blk.new' _ _ _ _ (by simp)).alloc _).alloc _)
  have b3 : Blk W5 (w.heap.size + 2) #[.int .i64 0, .int .i64 0] 39 := by rw [← hW5]; exact (Blk.new' _ _ _ _ (by simp)).alloc _
  have b4 : Blk W5 (w.heap.size + 3) #[.int .i64 0] 30 := by rw [← hW5]; exact Blk.new' _ _ _ _ (by simp)
  have bm : Blk W5 w.heap.size #[.slice A.pa m.places.length A.pc, .slice A.la m.legs.length A.lc, .slice A.ha m.herds.length A.hc, .slice A.sa m.seen.length A.sc] 27 := by rw [← hW5]; exact ((((Blk.new _ _ _).alloc _).alloc _).alloc _)
  have hs5 : W5.heap.size = w.heap.size + 4 := by rw [← hW5]; simp
  have hs5a : W5.heap.size ≤ w.heap.size + 4 ∧ w.heap.size + 4 ≤ W5.heap.size := by omega
  clear hs5
  refine callsIn_wide.1 (callsIn_of_wp_marks (F := Fence.wide) (n := 0) Try.func24 rfl trivial (wpIn_wide.2 ?_) rfl)
  simp only [Try.ntmps24, List.size_toArray, List.length_cons, List.length_nil, Nat.reduceAdd, Nat.reduceSub, Array.replicate_succ, Array.replicate_zero, List.push_toArray, List.append_toArray, List.nil_append, List.cons_append]
  go_wp2_with fail
  clear hW5
  have b1d := b1.drew
  have bmd := bm.drew
  have r1 := b1.cell
  have HO5 := Lib.hid (HO.out W5.drew hB5.drew b1.drew)
  refine wp_mono (Q := PanAt [dcl 82 (w.heap.size + 3)] 4 5 (.pointer (some ⟨w.heap.size + 2, 0, none⟩)) (.pointer (some ⟨w.heap.size + 3, 0, none⟩)) 10 (fun W => Below w.heap.size w W ∧ Blk W (w.heap.size + 3) #[.int .i64 0] 30 ∧ Blk W (w.heap.size + 2) #[.int .i64 0, .int .i64 0] 39)) ?_ ?_
  · refine Ord.wp_regionD [(0, 0), (1, 0), (4, 1), (2, 2), (3, 2), (5, 2), (6, 2), (7, 2)] (fun W => Blk W (w.heap.size + 1) #[.int .i64 i] 3 ∧ Blk W w.heap.size #[.slice A.pa m.places.length A.pc, .slice A.la m.legs.length A.lc, .slice A.ha m.herds.length A.hc, .slice A.sa m.seen.length A.sc] 27) (by kernel_rfl) (by kernel_rfl) ?_ ⟨b1.drew, bm.drew⟩ ?_
    · rintro c ⟨tm, ds⟩ d v u ⟨o, ho, rfl⟩ h
      have hd : o.dst = some 7 ∨ o.dst = some 8 ∨ o.dst = some 9 ∨ o.dst = some 10 ∨ o.dst = some 11 ∨ o.dst = some 12 ∨ o.dst = none := by
        simp only [List.mem_toArray, List.mem_cons, List.not_mem_nil, or_false] at ho
        rcases ho with rfl | rfl | rfl | rfl | rfl | rfl | rfl | rfl <;> simp
      unfold PanAt at *
      rcases hd with e | e | e | e | e | e | e <;> rw [e] at h <;> simpa [Act.put, Array.getD_eq_getD_getElem?] using h
    go_wp2_with (first
      | (refine wpList_load_blk 27 (.tmp 2) agg_mob rfl rfl rfl bmd rfl ?_)
      | (go_at_call 42; refine HO5.out.mono ?_; rintro e w6 ⟨wp, mb, pa, pc, rfl, hOp, hb6, hwp, hmb⟩; (try simp only [World.size_drew] at hwp hmb); have HKn := Lib.hid (m_known_no hv hOp w6 ⟨hOp.kept, Lets.refl _ _⟩ hk); have hH6 := And.intro (b1.drew.below hb6 b1.lt) (bm.drew.below hb6 bm.lt))
      | (go_at_call 45; refine HKn.out.mono ?_; rintro e w7 ⟨rfl, hW7, hl7⟩; exact ⟨rfl, rfl, rfl, rfl, below_lets (hB5.trans (hb6.undrew.mono (by omega))) hl7 (Nat.le_refl _) (fun _ _ _ => by omega), hl7.blk (b4.drew.below hb6 b4.lt) (by omega), hl7.blk (b3.drew.below hb6 b3.lt) (by omega)⟩)
      | ((with_reducible refine Ord.at_wild ?_); refine Ord.wild_load (ad := ⟨w.heap.size + 1, 0, none⟩) (.int .i64 i) rfl rfl ?_ ?_; (focus (intro W hW; have r := hW.1.cell; simp [go_sem, r]; done)); intro K hK)
      | ((with_reducible refine Ord.at_calm ?_); refine Ord.calm_skip rfl ?_ (fun K hK => ?_); (focus (simp [Region.wanted, yielded]; done))) | with_reducible refine Ord.walk_calm rfl rfl (fun K hK => ?_) | ((with_reducible refine Ord.at_wild ?_); refine Ord.wild_fieldAddr rfl rfl (fun W => by simp [go_sem]; rfl) (fun K hK => ?_)) | ((with_reducible refine Ord.at_wild ?_); refine Ord.wild_move rfl rfl (fun K hK => ?_)) | ((with_reducible refine Ord.at_wild ?_); refine Ord.wild_nilCheck rfl rfl (fun K hK => ?_)) | with_reducible refine Ord.walk_eff rfl (by first | (simp; done) | assumption | (go_simp; done) | (repeat (first | assumption | exact Below.refl _ _ | refine Below.drew ?_ | refine Below.alloc ?_ (by first | omega | (simp; done) | (simp; omega)) _ | refine Below.setCell ?_ (by first | omega | (simp; done) | (simp; omega)) _ | refine Below.trans ?_ (Below.mono (by assumption) (by first | omega | (simp; done) | (simp; omega)))))) (fun K hK => ?_) | with_reducible refine Ord.at_fork ?_ ?_ | with_reducible refine Ord.walk_nil ?_ | (with_reducible refine Ord.next_of (by first | (simp; done) | (go_simp; done) | (repeat (first | assumption | exact Below.refl _ _ | refine Below.drew ?_ | refine Below.alloc ?_ (by first | omega | (simp; done) | (simp; omega)) _ | refine Below.setCell ?_ (by first | omega | (simp; done) | (simp; omega)) _ | refine Below.trans ?_ (Below.mono (by assumption) (by first | omega | (simp; done) | (simp; omega)))))) (fun _ => ?_)))
  rintro e ⟨tm, ds⟩ w8 ⟨rfl, rfl, h4, h5, hb8, he8, hs8⟩
  refine post_catch (v := .tuple #[spv (0, 0), .int .i64 10]) catch_Stretch (fun W => by simp [go_sem]) rfl he8 fun w' hl hb => ⟨?_, rfl, below_lets hb8 hl (Nat.le_refl _) (fun _ _ _ => by omega)⟩
  simp only [Array.getD_eq_getD_getElem?] at h4 h5
  have r4 := hb.cell
  have r3 := (hl.blk hs8 (by omega)).cell
  simp [results, Try.results24, go_sem, h4, h5, r4, r3]
set_option maxHeartbeats 40000000 in
set_option maxRecDepth 100000 in
theorem m_Stretch_ok {m : Mb} {A : Ma} (i : Nat) (w : World) (hl : Mlen m) (hm : MbAt w m A) (hv : validM m = true) (hi : herdB m i = true) (hk : knownM m = true) :
    Calls Try.prog 24 #[mv m A, .int .i64 (i : Int)] w (Gives2 (spv (joinL ((toldL m (everyN m)).map fun L => stretS m L i))) (.int .i64 0) w) := by
  have hih : i < m.herds.length := by have := inB_of hi; omega
  have hmf := hmf_mob
  have HO : Hid (∀ W, Below w.heap.size w W → Blk W (w.heap.size + 1) #[.int .i64 (i : Int)] 3 → Calls Try.prog 42 #[mv m A, .func (.func 83) #[] #[.pointer (some ⟨w.heap.size + 1, 0, none⟩)]] W (fun e w' => ∃ wp mb pa pc, e = .returned (.pointer (some ⟨wp, 0, none⟩)) ∧ Opened w' wp m A pa pc mb ∧ Below W.heap.size W w' ∧ W.heap.size ≤ wp ∧ W.heap.size ≤ mb)) := fun W hb b1 =>
    (m_open m A 83 #[.pointer (some ⟨w.heap.size + 1, 0, none⟩)] (herdB m i) W hl (hm.below hb) (fun args W => Try.call83 args W) (fun hv W' wp mb pa pc hw hb' => m_herdC 83 (.inl rfl) _ (i : Int) W' hl hw (b1.below hb' b1.lt))).mono fun e w' h => open_ok h hv hi
  clear hl hm
  generalize hJ : (joinL ((toldL m (everyN m)).map fun L => stretS m L i)) = J at *
  have HJ := Lib.hid hJ
  clear hJ
  obtain ⟨j1, j2⟩ := J
  unfold mv mcells at *
  obtain ⟨W5, hW5⟩ : ∃ W5, ((((w.alloc (.cells #[.slice A.pa m.places.length A.pc, .slice A.la m.legs.length A.lc, .slice A.ha m.herds.length A.hc, .slice A.sa m.seen.length A.sc] 27)).alloc (.cells #[.int .i64 (i : Int)] 3)).alloc (.cells #[.int .i64 0, .int .i64 0] 39)).alloc (.cells #[.int .i64 0] 30)) = W5 := ⟨_, rfl⟩
  have hB5 : Below w.heap.size w W5 := by rw [← hW5]; (repeat (first | assumption | exact Below.refl _ _ | refine Below.drew ?_ | refine Below.alloc ?_ (by first | omega | (simp; done) | (simp; omega)) _ | refine Below.setCell ?_ (by first | omega | (simp; done) | (simp; omega)) _ | refine Below.trans ?_ (Below.mono (by assumption) (by first | omega | (simp; done) | (simp; omega)))))
  have b1 : Blk W5 (w.heap.size + 1) #[.int .i64 (i : Int)] 3 := by rw [← hW5]; exact (((Blk.new' _ _ _ _ (by simp)).alloc _).alloc _)
  have b3 : Blk W5 (w.heap.size + 2) #[.int .i64 0, .int .i64 0] 39 := by rw [← hW5]; exact (Blk.new' _ _ _ _ (by simp)).alloc _
  have b4 : Blk W5 (w.heap.size + 3) #[.int .i64 0] 30 := by rw [← hW5]; exact Blk.new' _ _ _ _ (by simp)
  have bm : Blk W5 w.heap.size #[.slice A.pa m.places.length A.pc, .slice A.la m.legs.length A.lc, .slice A.ha m.herds.length A.hc, .slice A.sa m.seen.length A.sc] 27 := by rw [← hW5]; exact ((((Blk.new _ _ _).alloc _).alloc _).alloc _)
  have hs5 : W5.heap.size = w.heap.size + 4 := by rw [← hW5]; simp
  have hs5a : W5.heap.size ≤ w.heap.size + 4 ∧ w.heap.size + 4 ≤ W5.heap.size := by omega
  clear hs5
  refine callsIn_wide.1 (callsIn_of_wp_marks (F := Fence.wide) (n := 0) Try.func24 rfl trivial (wpIn_wide.2 ?_) rfl)
  simp only [Try.ntmps24, List.size_toArray, List.length_cons, List.length_nil, Nat.reduceAdd, Nat.reduceSub, Array.replicate_succ, Array.replicate_zero, List.push_toArray, List.append_toArray, List.nil_append, List.cons_append]
  go_wp2_with fail
  clear hW5
  have b1d := b1.drew
  have bmd := bm.drew
  have r1 := b1.cell
  have HO5 := Lib.hid (HO.out W5.drew hB5.drew b1.drew)
  refine Ord.wp_regionN [(0, 0), (1, 0), (4, 1), (2, 2), (3, 2), (5, 2), (6, 2), (7, 2)] (fun W => w.heap.size + 4 ≤ W.heap.size ∧ Blk W (w.heap.size + 1) #[.int .i64 (i : Int)] 3) (by kernel_rfl) (by kernel_rfl) ⟨by simp; omega, b1.drew⟩ ?_
  go_wp2_with (first
      | (refine wpList_load_blk 27 (.tmp 2) agg_mob rfl rfl rfl bmd rfl ?_)
      | (go_at_call 42; refine HO5.out.mono ?_; rintro e w6 ⟨wp, mb, pa, pc, rfl, hOp, hb6, hwp, hmb⟩; (try simp only [World.size_drew] at hwp hmb); have hs6 := hb6.size; (try simp only [World.size_drew] at hs6); have hmb6 := hOp.mb_lt; have HKn := Lib.hid (m_known_yes hv hOp w6 ⟨hOp.kept, Lets.refl _ _⟩ hk); have hH6 := And.intro (show w.heap.size + 4 ≤ w6.heap.size by omega) (b1.drew.below hb6 b1.lt))
      | (go_at_call 45; refine HKn.out.mono ?_; rintro e w7 ⟨rfl, hW7, hl7⟩; have hs7 := hl7.size; have HSt := Lib.hid (m_stretches hv hOp i hih w7 hW7); rw [HJ.out] at HSt; have hH7 := And.intro (show w.heap.size + 4 ≤ w7.heap.size by omega) (hl7.blk hH6.2 (by omega)))
      | (go_at_call 84; refine HSt.out.mono ?_; rintro e wa ⟨rfl, hWa, hla⟩; have hsa := hla.size; have b3a := hla.blk (hl7.blk (b3.drew.below hb6 b3.lt) (by omega)) (by omega); have b4a := hla.blk (hl7.blk (b4.drew.below hb6 b4.lt) (by omega)) (by omega); have hHa := And.intro (show w.heap.size + 4 ≤ wa.heap.size by omega) (hla.blk hH7.2 (by omega)))
      | (refine wpList_store_blk 39 (.tmp 4) (.tmp 12) agg_span rfl rfl rfl rfl b3a rfl rfl (by simp [Value.oneCell']) ?_; intro wc hc; have b4c := hc.other b4a (by omega); have r4c := b4c.cell; have f4c := b4c.free; have l4c := b4c.lt; have hHc := And.intro (show w.heap.size + 4 ≤ wc.heap.size by omega) (hc.other hHa.2 (by omega)))
      | (refine Ord.next_of ⟨by simp; omega, hHc.2.other (by simp) _⟩ (fun _ => ?_))
      | (with_reducible refine Ord.at_nm ?_)
      | ((with_reducible refine Ord.at_wild ?_); refine Ord.wild_load (ad := ⟨w.heap.size + 1, 0, none⟩) (.int .i64 (i : Int)) rfl rfl ?_ ?_; (focus (intro W hW; have r := hW.2.cell; simp [go_sem, r]; done)); intro K hK)
      | ((with_reducible refine Ord.at_calm ?_); refine Ord.calm_skip rfl ?_ (fun K hK => ?_); (focus (simp [Region.wanted, yielded]; done))) | with_reducible refine Ord.walk_calm rfl rfl (fun K hK => ?_) | ((with_reducible refine Ord.at_wild ?_); refine Ord.wild_fieldAddr rfl rfl (fun W => by simp [go_sem]; rfl) (fun K hK => ?_)) | ((with_reducible refine Ord.at_wild ?_); refine Ord.wild_move rfl rfl (fun K hK => ?_)) | ((with_reducible refine Ord.at_wild ?_); refine Ord.wild_nilCheck rfl rfl (fun K hK => ?_)) | with_reducible refine Ord.walk_eff rfl (by first | (simp; done) | assumption | (go_simp; done) | (repeat (first | assumption | exact Below.refl _ _ | refine Below.drew ?_ | refine Below.alloc ?_ (by first | omega | (simp; done) | (simp; omega)) _ | refine Below.setCell ?_ (by first | omega | (simp; done) | (simp; omega)) _ | refine Below.trans ?_ (Below.mono (by assumption) (by first | omega | (simp; done) | (simp; omega)))))) (fun K hK => ?_) | with_reducible refine Ord.at_fork ?_ ?_ | with_reducible refine Ord.walk_nil ?_ | (with_reducible refine Ord.next_of (by first | (simp; done) | (go_simp; done) | (repeat (first | assumption | exact Below.refl _ _ | refine Below.drew ?_ | refine Below.alloc ?_ (by first | omega | (simp; done) | (simp; omega)) _ | refine Below.setCell ?_ (by first | omega | (simp; done) | (simp; omega)) _ | refine Below.trans ?_ (Below.mono (by assumption) (by first | omega | (simp; done) | (simp; omega)))))) (fun _ => ?_)))
  obtain ⟨Wf, hWf⟩ : ∃ Wf, wc.setCell ⟨w.heap.size + 3, 0, none⟩ (.int .i64 0) = Wf := ⟨_, rfl⟩
  have r3f := (by rw [← hWf]; exact (hc.blk).other (by simp only; omega) _ : Blk Wf (w.heap.size + 2) #[.int .i64 j1, .int .i64 j2] 39).cell
  have r4f := (by rw [← hWf]; exact b4c.set 0 _ : Blk Wf (w.heap.size + 3) #[.int .i64 0] 30).cell
  have hlc : Lets (fun k _ => k = w.heap.size + 2 ∨ k = w.heap.size + 3) wa Wf := by rw [← hWf]; exact ((Lets.refl _ _).rowed hc (.inl rfl)).setCell (.inr rfl) _
  have hl6 : Lets (fun k _ => w.heap.size ≤ k) w w6 := Lets.of_below (hB5.trans (hb6.undrew.mono (by omega)))
  have hbf : Below w.heap.size w Wf := (((hl6.trans (hl7.mono fun _ _ e => by omega)).trans (hla.mono fun _ _ e => by omega)).trans (hlc.mono fun _ _ e => by omega)).below (Nat.le_refl _) (fun k hk e => by omega)
  change bodyPostM Fence.wide 0 Try.prog _ _ .ret _ (wc.setCell ⟨w.heap.size + 3, 0, none⟩ (.int .i64 0))
  rw [hWf]
  refine post_out (v := .tuple #[spv (j1, j2), .int .i64 0]) catch_Stretch (fun W => by simp [go_sem]) rfl ?_ ⟨rfl, hbf⟩
  simp [results, Try.results24, go_sem, r3f, r4f]
theorem knownP_cases (m : Mb) (b : Bool) : ((validM m = false ∨ b = false) ∧ knownP m b ≠ 0) ∨ (validM m = true ∧ b = true ∧ knownM m = false ∧ knownP m b = 10) ∨ (validM m = true ∧ b = true ∧ knownM m = true ∧ knownP m b = 0) := by
  unfold knownP
  cases validM m <;> cases b <;> cases knownM m <;> simp
def stretchR (m : Mb) (i : Int) : (Int × Int) × Int := if knownP m (herdB m i) = 0 then (joinL ((toldL m (everyN m)).map fun L => stretS m L i.toNat), 0) else ((0, 0), knownP m (herdB m i))
theorem m_Stretch {m : Mb} {A : Ma} (i : Int) (w : World) (hl : Mlen m) (hm : MbAt w m A) :
    Calls Try.prog 24 #[mv m A, .int .i64 i] w (Gives2 (spv (stretchR m i).1) (.int .i64 (stretchR m i).2) w) := by
  unfold stretchR
  rcases knownP_cases m (herdB m i) with ⟨h1, h2⟩ | ⟨hv, hi, hk, h2⟩ | ⟨hv, hi, hk, h2⟩
  · rw [if_neg h2]; exact m_Stretch_stop i w hl hm h1
  · rw [h2, if_neg (by simp)]; exact m_Stretch_clash i w hl hm hv hi hk
  · rw [if_pos h2]
    have b1 := inB_of hi
    obtain ⟨i', rfl⟩ : ∃ i' : Nat, i = (i' : Int) := ⟨i.toNat, by omega⟩
    exact m_Stretch_ok i' w hl hm hv hi hk
end Go.Proofs.Yteeinehpneppnaa
