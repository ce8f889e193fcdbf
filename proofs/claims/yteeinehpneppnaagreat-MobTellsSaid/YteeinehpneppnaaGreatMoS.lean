/- Package mob: There, Ahead, Where, Clash, where open or known stops. (Printed by mkMoS.py) -/
import Derived.Test.YteeinehpneppnaaGreatMoQ
set_option linter.unusedVariables false
set_option linter.unusedSimpArgs false
namespace Go.Proofs.YteeinehpneppnaaGreat
open Go.RowKit Go.Proofs
attribute [local irreducible] Ord.walk
set_option maxHeartbeats 40000000 in
set_option maxRecDepth 100000 in
theorem m_There_stop {m : Mb} {A : Ma} (d : Int) (w : World) (hl : Mlen m) (hm : MbAt w m A) (hk : validM m = false ∨ (inB d 0 100) = false) :
    Calls Tryz.prog 19 #[mv m A, .int .i64 d] w (Gives3 (.int .i64 0) (.int .i64 0) (.int .i64 (knownP m (inB d 0 100))) w) := by
  have hmf := hmf_mob
  have HO : Hid (∀ W, Below w.heap.size w W → Blk W (w.heap.size + 1) #[.int .i64 d] 3 → Calls Tryz.prog 25 #[mv m A, .func (.func 63) #[] #[.pointer (some ⟨w.heap.size + 1, 0, none⟩)]] W (Stops (knownP m (inB d 0 100)) W)) := fun W hb b1 =>
    (m_open m A 63 #[.pointer (some ⟨w.heap.size + 1, 0, none⟩)] (inB d 0 100) W hl (hm.below hb) (fun args W => Tryz.call63 args W) (fun hv W' wp mb pa pc hw hb' => m_dayC _ wp d W' (b1.below hb' b1.lt))).mono fun e w' h => open_stop h hk
  generalize knownP m (inB d 0 100) = E at *
  clear hl hm hk
  unfold mv mcells at *
  refine callsIn_wide.1 (callsIn_of_wp_marks (F := Fence.wide) (n := 0) Tryz.func19 rfl trivial (wpIn_wide.2 ?_) rfl)
  simp only [Tryz.ntmps19, List.size_toArray, List.length_cons, List.length_nil, Nat.reduceAdd, Nat.reduceSub, Array.replicate_succ, Array.replicate_zero, List.push_toArray, List.append_toArray, List.nil_append, List.cons_append]
  go_wp2_with (first
    | (go_at_call 25; refine at_stop ?_))
  unfold Stop
  obtain ⟨W5, hW5⟩ : ∃ W5, (((w.alloc (.cells #[.slice A.pa m.places.length A.pc, .slice A.la m.legs.length A.lc, .slice A.ha m.herds.length A.hc, .slice A.sa m.seen.length A.sc] 27)).alloc (.cells #[.int .i64 d] 3)).alloc (.cells #[.int .i64 0] 32)) = W5 := ⟨_, rfl⟩
  have hB5 : Below w.heap.size w W5 := by rw [← hW5]; (repeat (first | assumption | exact Below.refl _ _ | refine Below.drew ?_ | refine Below.alloc ?_ (by first | omega | (simp; done) | (simp; omega)) _ | refine Below.setCell ?_ (by first | omega | (simp; done) | (simp; omega)) _ | refine Below.trans ?_ (Below.mono (by assumption) (by first | omega | (simp; done) | (simp; omega)))))
  have b1 : Blk W5 (w.heap.size + 1) #[.int .i64 d] 3 := by rw [← hW5]; exact ((Blk.new' _ _ _ _ (by simp)).alloc _)
  have b4 : Blk W5 (w.heap.size + 2) #[.int .i64 0] 32 := by rw [← hW5]; exact Blk.new' _ _ _ _ (by simp)
  have hs5 : W5.heap.size = w.heap.size + 3 := by rw [← hW5]; simp
  rw [hW5]
  refine (HO.out W5 hB5 b1).mono ?_
  rintro e w6 ⟨rfl, hb6⟩
  refine post_catch (v := .tuple #[.int .i64 0, .int .i64 0, .int .i64 E]) catch_There (fun W => by simp [go_sem]) rfl (b4.below hb6 b4.lt) fun w' hl hb => ⟨?_, rfl, ?_⟩
  · have r4 := hb.cell
    simp [results, Tryz.results19, go_sem, r4]
  · exact below_lets (hB5.trans (hb6.mono (by omega))) hl (Nat.le_refl _) (fun _ _ _ => by omega)
set_option maxHeartbeats 40000000 in
set_option maxRecDepth 100000 in
theorem m_There_clash {m : Mb} {A : Ma} (d : Int) (w : World) (hl : Mlen m) (hm : MbAt w m A) (hv : validM m = true) (hi : (inB d 0 100) = true) (hk : knownM m = false) :
    Calls Tryz.prog 19 #[mv m A, .int .i64 d] w (Gives3 (.int .i64 0) (.int .i64 0) (.int .i64 10) w) := by
  have hmf := hmf_mob
  have HO : Hid (∀ W, Below w.heap.size w W → Blk W (w.heap.size + 1) #[.int .i64 d] 3 → Calls Tryz.prog 25 #[mv m A, .func (.func 63) #[] #[.pointer (some ⟨w.heap.size + 1, 0, none⟩)]] W (fun e w' => ∃ wp mb pa pc, e = .returned (.pointer (some ⟨wp, 0, none⟩)) ∧ Opened w' wp m A pa pc mb ∧ Below W.heap.size W w' ∧ W.heap.size ≤ wp ∧ W.heap.size ≤ mb)) := fun W hb b1 =>
    (m_open m A 63 #[.pointer (some ⟨w.heap.size + 1, 0, none⟩)] (inB d 0 100) W hl (hm.below hb) (fun args W => Tryz.call63 args W) (fun hv W' wp mb pa pc hw hb' => m_dayC _ wp d W' (b1.below hb' b1.lt))).mono fun e w' h => open_ok h hv hi
  clear hl hm
  unfold mv mcells at *
  refine callsIn_wide.1 (callsIn_of_wp_marks (F := Fence.wide) (n := 0) Tryz.func19 rfl trivial (wpIn_wide.2 ?_) rfl)
  simp only [Tryz.ntmps19, List.size_toArray, List.length_cons, List.length_nil, Nat.reduceAdd, Nat.reduceSub, Array.replicate_succ, Array.replicate_zero, List.push_toArray, List.append_toArray, List.nil_append, List.cons_append]
  go_wp2_with (first
    | (go_at_call 25; refine at_stop ?_))
  unfold Stop
  obtain ⟨W5, hW5⟩ : ∃ W5, (((w.alloc (.cells #[.slice A.pa m.places.length A.pc, .slice A.la m.legs.length A.lc, .slice A.ha m.herds.length A.hc, .slice A.sa m.seen.length A.sc] 27)).alloc (.cells #[.int .i64 d] 3)).alloc (.cells #[.int .i64 0] 32)) = W5 := ⟨_, rfl⟩
  have hB5 : Below w.heap.size w W5 := by rw [← hW5]; (repeat (first | assumption | exact Below.refl _ _ | refine Below.drew ?_ | refine Below.alloc ?_ (by first | omega | (simp; done) | (simp; omega)) _ | refine Below.setCell ?_ (by first | omega | (simp; done) | (simp; omega)) _ | refine Below.trans ?_ (Below.mono (by assumption) (by first | omega | (simp; done) | (simp; omega)))))
  have b1 : Blk W5 (w.heap.size + 1) #[.int .i64 d] 3 := by rw [← hW5]; exact ((Blk.new' _ _ _ _ (by simp)).alloc _)
  have b4 : Blk W5 (w.heap.size + 2) #[.int .i64 0] 32 := by rw [← hW5]; exact Blk.new' _ _ _ _ (by simp)
  have hs5 : W5.heap.size = w.heap.size + 3 := by rw [← hW5]; simp
  rw [hW5]
  refine (HO.out W5 hB5 b1).mono ?_
  rintro e w6 ⟨wp, mb, pa, pc, rfl, hO, hb6, hwp, hmb⟩
  have hs6 := hb6.size
  have hW6 : Way w6 mb m w6 := ⟨hO.kept, Lets.refl _ _⟩
  have HKn := Lib.hid (m_known_no hv hO w6 hW6 hk)
  go_wp2_with (first
    | (go_at_call 28; refine HKn.out.mono ?_; rintro e w7 ⟨rfl, hW7, hl7⟩))
  refine post_catch (v := .tuple #[.int .i64 0, .int .i64 0, .int .i64 10]) catch_There (fun W => by simp [go_sem]) rfl (hl7.blk (b4.below hb6 b4.lt) (by omega)) fun w' hl hb => ⟨?_, rfl, ?_⟩
  · have r4 := hb.cell
    simp [results, Tryz.results19, go_sem, r4]
  · exact below_lets (below_lets (hB5.trans (hb6.mono (by omega))) hl7 (Nat.le_refl _) (fun _ _ _ => by omega)) hl (Nat.le_refl _) (fun _ _ _ => by omega)
set_option maxHeartbeats 40000000 in
set_option maxRecDepth 100000 in
theorem m_Ahead_stop {m : Mb} {A : Ma} (i k : Int) (w : World) (hl : Mlen m) (hm : MbAt w m A) (hk : validM m = false ∨ ((herdB m i && herdB m k)) = false) :
    Calls Tryz.prog 18 #[mv m A, .int .i64 i, .int .i64 k] w (Gives2 (.int .i64 0) (.int .i64 (knownP m ((herdB m i && herdB m k)))) w) := by
  have hmf := hmf_mob
  have HO : Hid (∀ W, Below w.heap.size w W → Blk W (w.heap.size + 1) #[.int .i64 i] 3 → Blk W (w.heap.size + 2) #[.int .i64 k] 3 → Calls Tryz.prog 25 #[mv m A, .func (.func 60) #[] #[.pointer (some ⟨w.heap.size + 1, 0, none⟩), .pointer (some ⟨w.heap.size + 2, 0, none⟩)]] W (Stops (knownP m ((herdB m i && herdB m k))) W)) := fun W hb b1 b2 =>
    (m_open m A 60 #[.pointer (some ⟨w.heap.size + 1, 0, none⟩), .pointer (some ⟨w.heap.size + 2, 0, none⟩)] ((herdB m i && herdB m k)) W hl (hm.below hb) (fun args W => Tryz.call60 args W) (fun hv W' wp mb pa pc hw hb' => m_herdsC _ _ i k W' hl hw (b1.below hb' b1.lt) (b2.below hb' b2.lt))).mono fun e w' h => open_stop h hk
  generalize knownP m ((herdB m i && herdB m k)) = E at *
  clear hl hm hk
  unfold mv mcells at *
  refine callsIn_wide.1 (callsIn_of_wp_marks (F := Fence.wide) (n := 0) Tryz.func18 rfl trivial (wpIn_wide.2 ?_) rfl)
  simp only [Tryz.ntmps18, List.size_toArray, List.length_cons, List.length_nil, Nat.reduceAdd, Nat.reduceSub, Array.replicate_succ, Array.replicate_zero, List.push_toArray, List.append_toArray, List.nil_append, List.cons_append]
  go_wp2_with (first
    | (go_at_call 25; refine at_stop ?_))
  unfold Stop
  obtain ⟨W5, hW5⟩ : ∃ W5, ((((w.alloc (.cells #[.slice A.pa m.places.length A.pc, .slice A.la m.legs.length A.lc, .slice A.ha m.herds.length A.hc, .slice A.sa m.seen.length A.sc] 27)).alloc (.cells #[.int .i64 i] 3)).alloc (.cells #[.int .i64 k] 3)).alloc (.cells #[.int .i64 0] 32)) = W5 := ⟨_, rfl⟩
  have hB5 : Below w.heap.size w W5 := by rw [← hW5]; (repeat (first | assumption | exact Below.refl _ _ | refine Below.drew ?_ | refine Below.alloc ?_ (by first | omega | (simp; done) | (simp; omega)) _ | refine Below.setCell ?_ (by first | omega | (simp; done) | (simp; omega)) _ | refine Below.trans ?_ (Below.mono (by assumption) (by first | omega | (simp; done) | (simp; omega)))))
  have b1 : Blk W5 (w.heap.size + 1) #[.int .i64 i] 3 := by rw [← hW5]; exact (((Blk.new' _ _ _ _ (by simp)).alloc _).alloc _)
  have b2 : Blk W5 (w.heap.size + 2) #[.int .i64 k] 3 := by rw [← hW5]; exact ((Blk.new' _ _ _ _ (by simp)).alloc _)
  have b4 : Blk W5 (w.heap.size + 3) #[.int .i64 0] 32 := by rw [← hW5]; exact Blk.new' _ _ _ _ (by simp)
  have hs5 : W5.heap.size = w.heap.size + 4 := by rw [← hW5]; simp
  rw [hW5]
  refine (HO.out W5 hB5 b1 b2).mono ?_
  rintro e w6 ⟨rfl, hb6⟩
  refine post_catch (v := .tuple #[.int .i64 0, .int .i64 E]) catch_Ahead (fun W => by simp [go_sem]) rfl (b4.below hb6 b4.lt) fun w' hl hb => ⟨?_, rfl, ?_⟩
  · have r4 := hb.cell
    simp [results, Tryz.results18, go_sem, r4]
  · exact below_lets (hB5.trans (hb6.mono (by omega))) hl (Nat.le_refl _) (fun _ _ _ => by omega)
set_option maxHeartbeats 40000000 in
set_option maxRecDepth 100000 in
theorem m_Ahead_clash {m : Mb} {A : Ma} (i k : Int) (w : World) (hl : Mlen m) (hm : MbAt w m A) (hv : validM m = true) (hi : ((herdB m i && herdB m k)) = true) (hk : knownM m = false) :
    Calls Tryz.prog 18 #[mv m A, .int .i64 i, .int .i64 k] w (Gives2 (.int .i64 0) (.int .i64 10) w) := by
  have hmf := hmf_mob
  have HO : Hid (∀ W, Below w.heap.size w W → Blk W (w.heap.size + 1) #[.int .i64 i] 3 → Blk W (w.heap.size + 2) #[.int .i64 k] 3 → Calls Tryz.prog 25 #[mv m A, .func (.func 60) #[] #[.pointer (some ⟨w.heap.size + 1, 0, none⟩), .pointer (some ⟨w.heap.size + 2, 0, none⟩)]] W (fun e w' => ∃ wp mb pa pc, e = .returned (.pointer (some ⟨wp, 0, none⟩)) ∧ Opened w' wp m A pa pc mb ∧ Below W.heap.size W w' ∧ W.heap.size ≤ wp ∧ W.heap.size ≤ mb)) := fun W hb b1 b2 =>
    (m_open m A 60 #[.pointer (some ⟨w.heap.size + 1, 0, none⟩), .pointer (some ⟨w.heap.size + 2, 0, none⟩)] ((herdB m i && herdB m k)) W hl (hm.below hb) (fun args W => Tryz.call60 args W) (fun hv W' wp mb pa pc hw hb' => m_herdsC _ _ i k W' hl hw (b1.below hb' b1.lt) (b2.below hb' b2.lt))).mono fun e w' h => open_ok h hv hi
  clear hl hm
  unfold mv mcells at *
  refine callsIn_wide.1 (callsIn_of_wp_marks (F := Fence.wide) (n := 0) Tryz.func18 rfl trivial (wpIn_wide.2 ?_) rfl)
  simp only [Tryz.ntmps18, List.size_toArray, List.length_cons, List.length_nil, Nat.reduceAdd, Nat.reduceSub, Array.replicate_succ, Array.replicate_zero, List.push_toArray, List.append_toArray, List.nil_append, List.cons_append]
  go_wp2_with (first
    | (go_at_call 25; refine at_stop ?_))
  unfold Stop
  obtain ⟨W5, hW5⟩ : ∃ W5, ((((w.alloc (.cells #[.slice A.pa m.places.length A.pc, .slice A.la m.legs.length A.lc, .slice A.ha m.herds.length A.hc, .slice A.sa m.seen.length A.sc] 27)).alloc (.cells #[.int .i64 i] 3)).alloc (.cells #[.int .i64 k] 3)).alloc (.cells #[.int .i64 0] 32)) = W5 := ⟨_, rfl⟩
  have hB5 : Below w.heap.size w W5 := by rw [← hW5]; (repeat (first | assumption | exact Below.refl _ _ | refine Below.drew ?_ | refine Below.alloc ?_ (by first | omega | (simp; done) | (simp; omega)) _ | refine Below.setCell ?_ (by first | omega | (simp; done) | (simp; omega)) _ | refine Below.trans ?_ (Below.mono (by assumption) (by first | omega | (simp; done) | (simp; omega)))))
  have b1 : Blk W5 (w.heap.size + 1) #[.int .i64 i] 3 := by rw [← hW5]; exact (((Blk.new' _ _ _ _ (by simp)).alloc _).alloc _)
  have b2 : Blk W5 (w.heap.size + 2) #[.int .i64 k] 3 := by rw [← hW5]; exact ((Blk.new' _ _ _ _ (by simp)).alloc _)
  have b4 : Blk W5 (w.heap.size + 3) #[.int .i64 0] 32 := by rw [← hW5]; exact Blk.new' _ _ _ _ (by simp)
  have hs5 : W5.heap.size = w.heap.size + 4 := by rw [← hW5]; simp
  rw [hW5]
  refine (HO.out W5 hB5 b1 b2).mono ?_
  rintro e w6 ⟨wp, mb, pa, pc, rfl, hO, hb6, hwp, hmb⟩
  have hs6 := hb6.size
  have hW6 : Way w6 mb m w6 := ⟨hO.kept, Lets.refl _ _⟩
  have HKn := Lib.hid (m_known_no hv hO w6 hW6 hk)
  go_wp2_with (first
    | (go_at_call 28; refine HKn.out.mono ?_; rintro e w7 ⟨rfl, hW7, hl7⟩))
  refine post_catch (v := .tuple #[.int .i64 0, .int .i64 10]) catch_Ahead (fun W => by simp [go_sem]) rfl (hl7.blk (b4.below hb6 b4.lt) (by omega)) fun w' hl hb => ⟨?_, rfl, ?_⟩
  · have r4 := hb.cell
    simp [results, Tryz.results18, go_sem, r4]
  · exact below_lets (below_lets (hB5.trans (hb6.mono (by omega))) hl7 (Nat.le_refl _) (fun _ _ _ => by omega)) hl (Nat.le_refl _) (fun _ _ _ => by omega)
set_option maxHeartbeats 40000000 in
set_option maxRecDepth 100000 in
theorem m_Where_stop {m : Mb} {A : Ma} (i d : Int) (w : World) (hl : Mlen m) (hm : MbAt w m A) (hk : validM m = false ∨ ((herdB m i && inB d 0 100)) = false) :
    Calls Tryz.prog 8 #[mv m A, .int .i64 i, .int .i64 d] w (Gives2 (.int .i64 0) (.int .i64 (knownP m ((herdB m i && inB d 0 100)))) w) := by
  have hmf := hmf_mob
  have HO : Hid (∀ W, Below w.heap.size w W → Blk W (w.heap.size + 1) #[.int .i64 i] 3 → Blk W (w.heap.size + 2) #[.int .i64 d] 3 → Calls Tryz.prog 25 #[mv m A, .func (.func 39) #[] #[.pointer (some ⟨w.heap.size + 1, 0, none⟩), .pointer (some ⟨w.heap.size + 2, 0, none⟩)]] W (Stops (knownP m ((herdB m i && inB d 0 100))) W)) := fun W hb b1 b2 =>
    (m_open m A 39 #[.pointer (some ⟨w.heap.size + 1, 0, none⟩), .pointer (some ⟨w.heap.size + 2, 0, none⟩)] ((herdB m i && inB d 0 100)) W hl (hm.below hb) (fun args W => Tryz.call39 args W) (fun hv W' wp mb pa pc hw hb' => m_herdDayC _ _ i d W' hl hw (b1.below hb' b1.lt) (b2.below hb' b2.lt))).mono fun e w' h => open_stop h hk
  generalize knownP m ((herdB m i && inB d 0 100)) = E at *
  clear hl hm hk
  unfold mv mcells at *
  refine callsIn_wide.1 (callsIn_of_wp_marks (F := Fence.wide) (n := 0) Tryz.func8 rfl trivial (wpIn_wide.2 ?_) rfl)
  simp only [Tryz.ntmps8, List.size_toArray, List.length_cons, List.length_nil, Nat.reduceAdd, Nat.reduceSub, Array.replicate_succ, Array.replicate_zero, List.push_toArray, List.append_toArray, List.nil_append, List.cons_append]
  go_wp2_with (first
    | (go_at_call 25; refine at_stop ?_))
  unfold Stop
  obtain ⟨W5, hW5⟩ : ∃ W5, ((((w.alloc (.cells #[.slice A.pa m.places.length A.pc, .slice A.la m.legs.length A.lc, .slice A.ha m.herds.length A.hc, .slice A.sa m.seen.length A.sc] 27)).alloc (.cells #[.int .i64 i] 3)).alloc (.cells #[.int .i64 d] 3)).alloc (.cells #[.int .i64 0] 32)) = W5 := ⟨_, rfl⟩
  have hB5 : Below w.heap.size w W5 := by rw [← hW5]; (repeat (first | assumption | exact Below.refl _ _ | refine Below.drew ?_ | refine Below.alloc ?_ (by first | omega | (simp; done) | (simp; omega)) _ | refine Below.setCell ?_ (by first | omega | (simp; done) | (simp; omega)) _ | refine Below.trans ?_ (Below.mono (by assumption) (by first | omega | (simp; done) | (simp; omega)))))
  have b1 : Blk W5 (w.heap.size + 1) #[.int .i64 i] 3 := by rw [← hW5]; exact (((Blk.new' _ _ _ _ (by simp)).alloc _).alloc _)
  have b2 : Blk W5 (w.heap.size + 2) #[.int .i64 d] 3 := by rw [← hW5]; exact ((Blk.new' _ _ _ _ (by simp)).alloc _)
  have b4 : Blk W5 (w.heap.size + 3) #[.int .i64 0] 32 := by rw [← hW5]; exact Blk.new' _ _ _ _ (by simp)
  have hs5 : W5.heap.size = w.heap.size + 4 := by rw [← hW5]; simp
  rw [hW5]
  refine (HO.out W5 hB5 b1 b2).mono ?_
  rintro e w6 ⟨rfl, hb6⟩
  refine post_catch (v := .tuple #[.int .i64 0, .int .i64 E]) catch_Where (fun W => by simp [go_sem]) rfl (b4.below hb6 b4.lt) fun w' hl hb => ⟨?_, rfl, ?_⟩
  · have r4 := hb.cell
    simp [results, Tryz.results8, go_sem, r4]
  · exact below_lets (hB5.trans (hb6.mono (by omega))) hl (Nat.le_refl _) (fun _ _ _ => by omega)
set_option maxHeartbeats 40000000 in
set_option maxRecDepth 100000 in
theorem m_Where_clash {m : Mb} {A : Ma} (i d : Int) (w : World) (hl : Mlen m) (hm : MbAt w m A) (hv : validM m = true) (hi : ((herdB m i && inB d 0 100)) = true) (hk : knownM m = false) :
    Calls Tryz.prog 8 #[mv m A, .int .i64 i, .int .i64 d] w (Gives2 (.int .i64 0) (.int .i64 10) w) := by
  have hmf := hmf_mob
  have HO : Hid (∀ W, Below w.heap.size w W → Blk W (w.heap.size + 1) #[.int .i64 i] 3 → Blk W (w.heap.size + 2) #[.int .i64 d] 3 → Calls Tryz.prog 25 #[mv m A, .func (.func 39) #[] #[.pointer (some ⟨w.heap.size + 1, 0, none⟩), .pointer (some ⟨w.heap.size + 2, 0, none⟩)]] W (fun e w' => ∃ wp mb pa pc, e = .returned (.pointer (some ⟨wp, 0, none⟩)) ∧ Opened w' wp m A pa pc mb ∧ Below W.heap.size W w' ∧ W.heap.size ≤ wp ∧ W.heap.size ≤ mb)) := fun W hb b1 b2 =>
    (m_open m A 39 #[.pointer (some ⟨w.heap.size + 1, 0, none⟩), .pointer (some ⟨w.heap.size + 2, 0, none⟩)] ((herdB m i && inB d 0 100)) W hl (hm.below hb) (fun args W => Tryz.call39 args W) (fun hv W' wp mb pa pc hw hb' => m_herdDayC _ _ i d W' hl hw (b1.below hb' b1.lt) (b2.below hb' b2.lt))).mono fun e w' h => open_ok h hv hi
  clear hl hm
  unfold mv mcells at *
  refine callsIn_wide.1 (callsIn_of_wp_marks (F := Fence.wide) (n := 0) Tryz.func8 rfl trivial (wpIn_wide.2 ?_) rfl)
  simp only [Tryz.ntmps8, List.size_toArray, List.length_cons, List.length_nil, Nat.reduceAdd, Nat.reduceSub, Array.replicate_succ, Array.replicate_zero, List.push_toArray, List.append_toArray, List.nil_append, List.cons_append]
  go_wp2_with (first
    | (go_at_call 25; refine at_stop ?_))
  unfold Stop
  obtain ⟨W5, hW5⟩ : ∃ W5, ((((w.alloc (.cells #[.slice A.pa m.places.length A.pc, .slice A.la m.legs.length A.lc, .slice A.ha m.herds.length A.hc, .slice A.sa m.seen.length A.sc] 27)).alloc (.cells #[.int .i64 i] 3)).alloc (.cells #[.int .i64 d] 3)).alloc (.cells #[.int .i64 0] 32)) = W5 := ⟨_, rfl⟩
  have hB5 : Below w.heap.size w W5 := by rw [← hW5]; (repeat (first | assumption | exact Below.refl _ _ | refine Below.drew ?_ | refine Below.alloc ?_ (by first | omega | (simp; done) | (simp; omega)) _ | refine Below.setCell ?_ (by first | omega | (simp; done) | (simp; omega)) _ | refine Below.trans ?_ (Below.mono (by assumption) (by first | omega | (simp; done) | (simp; omega)))))
  have b1 : Blk W5 (w.heap.size + 1) #[.int .i64 i] 3 := by rw [← hW5]; exact (((Blk.new' _ _ _ _ (by simp)).alloc _).alloc _)
  have b2 : Blk W5 (w.heap.size + 2) #[.int .i64 d] 3 := by rw [← hW5]; exact ((Blk.new' _ _ _ _ (by simp)).alloc _)
  have b4 : Blk W5 (w.heap.size + 3) #[.int .i64 0] 32 := by rw [← hW5]; exact Blk.new' _ _ _ _ (by simp)
  have hs5 : W5.heap.size = w.heap.size + 4 := by rw [← hW5]; simp
  rw [hW5]
  refine (HO.out W5 hB5 b1 b2).mono ?_
  rintro e w6 ⟨wp, mb, pa, pc, rfl, hO, hb6, hwp, hmb⟩
  have hs6 := hb6.size
  have hW6 : Way w6 mb m w6 := ⟨hO.kept, Lets.refl _ _⟩
  have HKn := Lib.hid (m_known_no hv hO w6 hW6 hk)
  go_wp2_with (first
    | (go_at_call 28; refine HKn.out.mono ?_; rintro e w7 ⟨rfl, hW7, hl7⟩))
  refine post_catch (v := .tuple #[.int .i64 0, .int .i64 10]) catch_Where (fun W => by simp [go_sem]) rfl (hl7.blk (b4.below hb6 b4.lt) (by omega)) fun w' hl hb => ⟨?_, rfl, ?_⟩
  · have r4 := hb.cell
    simp [results, Tryz.results8, go_sem, r4]
  · exact below_lets (below_lets (hB5.trans (hb6.mono (by omega))) hl7 (Nat.le_refl _) (fun _ _ _ => by omega)) hl (Nat.le_refl _) (fun _ _ _ => by omega)
set_option maxHeartbeats 40000000 in
set_option maxRecDepth 100000 in
theorem m_Clash_stop {m : Mb} {A : Ma} (w : World) (hl : Mlen m) (hm : MbAt w m A) (hk : validM m = false ∨ (true) = false) :
    Calls Tryz.prog 20 #[mv m A] w (Gives2 (.int .i64 0) (.int .i64 (knownP m (true))) w) := by
  have hmf := hmf_mob
  have HO : Hid (∀ W, Below w.heap.size w W → Calls Tryz.prog 25 #[mv m A, .func (.func 66) #[] #[]] W (Stops (knownP m (true)) W)) := fun W hb  =>
    (m_open m A 66 #[] (true) W hl (hm.below hb) (fun args W => Tryz.call66 args W) (fun hv W' wp mb pa pc hw hb' => (m_always _ W').mono fun e w' h => ⟨h.1, h.2 ▸ Below.refl _ _⟩)).mono fun e w' h => open_stop h hk
  generalize knownP m (true) = E at *
  clear hl hm hk
  unfold mv mcells at *
  refine callsIn_wide.1 (callsIn_of_wp_marks (F := Fence.wide) (n := 0) Tryz.func20 rfl trivial (wpIn_wide.2 ?_) rfl)
  simp only [Tryz.ntmps20, List.size_toArray, List.length_cons, List.length_nil, Nat.reduceAdd, Nat.reduceSub, Array.replicate_succ, Array.replicate_zero, List.push_toArray, List.append_toArray, List.nil_append, List.cons_append]
  go_wp2_with (first
    | (go_at_call 25; refine at_stop ?_))
  unfold Stop
  obtain ⟨W5, hW5⟩ : ∃ W5, ((w.alloc (.cells #[.slice A.pa m.places.length A.pc, .slice A.la m.legs.length A.lc, .slice A.ha m.herds.length A.hc, .slice A.sa m.seen.length A.sc] 27)).alloc (.cells #[.int .i64 0] 32)) = W5 := ⟨_, rfl⟩
  have hB5 : Below w.heap.size w W5 := by rw [← hW5]; (repeat (first | assumption | exact Below.refl _ _ | refine Below.drew ?_ | refine Below.alloc ?_ (by first | omega | (simp; done) | (simp; omega)) _ | refine Below.setCell ?_ (by first | omega | (simp; done) | (simp; omega)) _ | refine Below.trans ?_ (Below.mono (by assumption) (by first | omega | (simp; done) | (simp; omega)))))
  have b4 : Blk W5 (w.heap.size + 1) #[.int .i64 0] 32 := by rw [← hW5]; exact Blk.new' _ _ _ _ (by simp)
  have hs5 : W5.heap.size = w.heap.size + 2 := by rw [← hW5]; simp
  rw [hW5]
  refine (HO.out W5 hB5).mono ?_
  rintro e w6 ⟨rfl, hb6⟩
  refine post_catch (v := .tuple #[.int .i64 0, .int .i64 E]) catch_Clash (fun W => by simp [go_sem]) rfl (b4.below hb6 b4.lt) fun w' hl hb => ⟨?_, rfl, ?_⟩
  · have r4 := hb.cell
    simp [results, Tryz.results20, go_sem, r4]
  · exact below_lets (hB5.trans (hb6.mono (by omega))) hl (Nat.le_refl _) (fun _ _ _ => by omega)
end Go.Proofs.YteeinehpneppnaaGreat
