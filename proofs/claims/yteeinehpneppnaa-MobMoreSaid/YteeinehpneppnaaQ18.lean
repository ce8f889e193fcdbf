/- Parts of a proof: MoS, MoT. -/
import Derived.Test.YteeinehpneppnaaQ17
import Derived.Deep.CutRange
set_option linter.unusedVariables false
set_option linter.unusedSimpArgs false
namespace Go.Proofs.Yteeinehpneppnaa
open Go.RowKit Go.Proofs
attribute [local irreducible] Ord.walk
set_option maxHeartbeats 40000000 in
set_option maxRecDepth 100000 in
theorem m_There_stop {m : Mb} {A : Ma} (d : Int) (w : World) (hl : Mlen m) (hm : MbAt w m A) (hk : validM m = false ∨ (inB d 0 100) = false) :
    Calls Try.prog 15 #[mv m A, .int .i64 d] w (Gives3 (.int .i64 0) (.int .i64 0) (.int .i64 (knownP m (inB d 0 100))) w) := by
  have hmf := hmf_mob
  have HO : Hid (∀ W, Below w.heap.size w W → Blk W (w.heap.size + 1) #[.int .i64 d] 3 → Calls Try.prog 42 #[mv m A, .func (.func 54) #[] #[.pointer (some ⟨w.heap.size + 1, 0, none⟩)]] W (Stops (knownP m (inB d 0 100)) W)) := fun W hb b1 =>
    (m_open m A 54 #[.pointer (some ⟨w.heap.size + 1, 0, none⟩)] (inB d 0 100) W hl (hm.below hb) (fun args W => Try.call54 args W) (fun hv W' wp mb pa pc hw hb' => m_dayC _ wp d W' (b1.below hb' b1.lt))).mono fun e w' h => open_stop h hk
  generalize knownP m (inB d 0 100) = E at *
  clear hl hm hk
  unfold mv mcells at *
  refine callsIn_wide.1 (callsIn_of_wp_marks (F := Fence.wide) (n := 0) Try.func15 rfl trivial (wpIn_wide.2 ?_) rfl)
  simp only [Try.ntmps15, List.size_toArray, List.length_cons, List.length_nil, Nat.reduceAdd, Nat.reduceSub, Array.replicate_succ, Array.replicate_zero, List.push_toArray, List.append_toArray, List.nil_append, List.cons_append]
  go_wp2_with (first
    | (go_at_call 42; refine at_stop ?_))
  unfold Stop
  obtain ⟨W5, hW5⟩ : ∃ W5, (((w.alloc (.cells #[.slice A.pa m.places.length A.pc, .slice A.la m.legs.length A.lc, .slice A.ha m.herds.length A.hc, .slice A.sa m.seen.length A.sc] 27)).alloc (.cells #[.int .i64 d] 3)).alloc (.cells #[.int .i64 0] 30)) = W5 := ⟨_, rfl⟩
  have hB5 : Below w.heap.size w W5 := by rw [← hW5]; (repeat (first | assumption | exact Below.refl _ _ | refine Below.drew ?_ | refine Below.alloc ?_ (by first | omega | (simp; done) | (simp; omega)) _ | refine Below.setCell ?_ (by first | omega | (simp; done) | (simp; omega)) _ | refine Below.trans ?_ (Below.mono (by assumption) (by first | omega | (simp; done) | (simp; omega)))))
  have b1 : Blk W5 (w.heap.size + 1) #[.int .i64 d] 3 := by rw [← hW5]; exact ((Blk.new' _ _ _ _ (by simp)).alloc _)
  have b4 : Blk W5 (w.heap.size + 2) #[.int .i64 0] 30 := by rw [← hW5]; exact Blk.new' _ _ _ _ (by simp)
  have hs5 : W5.heap.size = w.heap.size + 3 := by rw [← hW5]; simp
  rw [hW5]
  refine (HO.out W5 hB5 b1).mono ?_
  rintro e w6 ⟨rfl, hb6⟩
  refine post_catch (v := .tuple #[.int .i64 0, .int .i64 0, .int .i64 E]) catch_There (fun W => by simp [go_sem]) rfl (b4.below hb6 b4.lt) fun w' hl hb => ⟨?_, rfl, ?_⟩
  · have r4 := hb.cell
    simp [results, Try.results15, go_sem, r4]
  · exact below_lets (hB5.trans (hb6.mono (by omega))) hl (Nat.le_refl _) (fun _ _ _ => by omega)
set_option maxHeartbeats 40000000 in
set_option maxRecDepth 100000 in
theorem m_There_clash {m : Mb} {A : Ma} (d : Int) (w : World) (hl : Mlen m) (hm : MbAt w m A) (hv : validM m = true) (hi : (inB d 0 100) = true) (hk : knownM m = false) :
    Calls Try.prog 15 #[mv m A, .int .i64 d] w (Gives3 (.int .i64 0) (.int .i64 0) (.int .i64 10) w) := by
  have hmf := hmf_mob
  have HO : Hid (∀ W, Below w.heap.size w W → Blk W (w.heap.size + 1) #[.int .i64 d] 3 → Calls Try.prog 42 #[mv m A, .func (.func 54) #[] #[.pointer (some ⟨w.heap.size + 1, 0, none⟩)]] W (fun e w' => ∃ wp mb pa pc, e = .returned (.pointer (some ⟨wp, 0, none⟩)) ∧ Opened w' wp m A pa pc mb ∧ Below W.heap.size W w' ∧ W.heap.size ≤ wp ∧ W.heap.size ≤ mb)) := fun W hb b1 =>
    (m_open m A 54 #[.pointer (some ⟨w.heap.size + 1, 0, none⟩)] (inB d 0 100) W hl (hm.below hb) (fun args W => Try.call54 args W) (fun hv W' wp mb pa pc hw hb' => m_dayC _ wp d W' (b1.below hb' b1.lt))).mono fun e w' h => open_ok h hv hi
  clear hl hm
  unfold mv mcells at *
  refine callsIn_wide.1 (callsIn_of_wp_marks (F := Fence.wide) (n := 0) Try.func15 rfl trivial (wpIn_wide.2 ?_) rfl)
  simp only [Try.ntmps15, List.size_toArray, List.length_cons, List.length_nil, Nat.reduceAdd, Nat.reduceSub, Array.replicate_succ, Array.replicate_zero, List.push_toArray, List.append_toArray, List.nil_append, List.cons_append]
  go_wp2_with (first
    | (go_at_call 42; refine at_stop ?_))
  unfold Stop
  obtain ⟨W5, hW5⟩ : ∃ W5, (((w.alloc (.cells #[.slice A.pa m.places.length A.pc, .slice A.la m.legs.length A.lc, .slice A.ha m.herds.length A.hc, .slice A.sa m.seen.length A.sc] 27)).alloc (.cells #[.int .i64 d] 3)).alloc (.cells #[.int .i64 0] 30)) = W5 := ⟨_, rfl⟩
  have hB5 : Below w.heap.size w W5 := by rw [← hW5]; (repeat (first | assumption | exact Below.refl _ _ | refine Below.drew ?_ | refine Below.alloc ?_ (by first | omega | (simp; done) | (simp; omega)) _ | refine Below.setCell ?_ (by first | omega | (simp; done) | (simp; omega)) _ | refine Below.trans ?_ (Below.mono (by assumption) (by first | omega | (simp; done) | (simp; omega)))))
  have b1 : Blk W5 (w.heap.size + 1) #[.int .i64 d] 3 := by rw [← hW5]; exact ((Blk.new' _ _ _ _ (by simp)).alloc _)
  have b4 : Blk W5 (w.heap.size + 2) #[.int .i64 0] 30 := by rw [← hW5]; exact Blk.new' _ _ _ _ (by simp)
  have hs5 : W5.heap.size = w.heap.size + 3 := by rw [← hW5]; simp
  rw [hW5]
  refine (HO.out W5 hB5 b1).mono ?_
  rintro e w6 ⟨wp, mb, pa, pc, rfl, hO, hb6, hwp, hmb⟩
  have hs6 := hb6.size
  have hW6 : Way w6 mb m w6 := ⟨hO.kept, Lets.refl _ _⟩
  have HKn := Lib.hid (m_known_no hv hO w6 hW6 hk)
  go_wp2_with (first
    | (go_at_call 45; refine HKn.out.mono ?_; rintro e w7 ⟨rfl, hW7, hl7⟩))
  refine post_catch (v := .tuple #[.int .i64 0, .int .i64 0, .int .i64 10]) catch_There (fun W => by simp [go_sem]) rfl (hl7.blk (b4.below hb6 b4.lt) (by omega)) fun w' hl hb => ⟨?_, rfl, ?_⟩
  · have r4 := hb.cell
    simp [results, Try.results15, go_sem, r4]
  · exact below_lets (below_lets (hB5.trans (hb6.mono (by omega))) hl7 (Nat.le_refl _) (fun _ _ _ => by omega)) hl (Nat.le_refl _) (fun _ _ _ => by omega)
set_option maxHeartbeats 40000000 in
set_option maxRecDepth 100000 in
theorem m_Ahead_stop {m : Mb} {A : Ma} (i k : Int) (w : World) (hl : Mlen m) (hm : MbAt w m A) (hk : validM m = false ∨ ((herdB m i && herdB m k)) = false) :
    Calls Try.prog 13 #[mv m A, .int .i64 i, .int .i64 k] w (Gives2 (.int .i64 0) (.int .i64 (knownP m ((herdB m i && herdB m k)))) w) := by
  have hmf := hmf_mob
  have HO : Hid (∀ W, Below w.heap.size w W → Blk W (w.heap.size + 1) #[.int .i64 i] 3 → Blk W (w.heap.size + 2) #[.int .i64 k] 3 → Calls Try.prog 42 #[mv m A, .func (.func 43) #[] #[.pointer (some ⟨w.heap.size + 1, 0, none⟩), .pointer (some ⟨w.heap.size + 2, 0, none⟩)]] W (Stops (knownP m ((herdB m i && herdB m k))) W)) := fun W hb b1 b2 =>
    (m_open m A 43 #[.pointer (some ⟨w.heap.size + 1, 0, none⟩), .pointer (some ⟨w.heap.size + 2, 0, none⟩)] ((herdB m i && herdB m k)) W hl (hm.below hb) (fun args W => Try.call43 args W) (fun hv W' wp mb pa pc hw hb' => m_herdsC _ _ i k W' hl hw (b1.below hb' b1.lt) (b2.below hb' b2.lt))).mono fun e w' h => open_stop h hk
  generalize knownP m ((herdB m i && herdB m k)) = E at *
  clear hl hm hk
  unfold mv mcells at *
  refine callsIn_wide.1 (callsIn_of_wp_marks (F := Fence.wide) (n := 0) Try.func13 rfl trivial (wpIn_wide.2 ?_) rfl)
  simp only [Try.ntmps13, List.size_toArray, List.length_cons, List.length_nil, Nat.reduceAdd, Nat.reduceSub, Array.replicate_succ, Array.replicate_zero, List.push_toArray, List.append_toArray, List.nil_append, List.cons_append]
  go_wp2_with (first
    | (go_at_call 42; refine at_stop ?_))
  unfold Stop
  obtain ⟨W5, hW5⟩ : ∃ W5, ((((w.alloc (.cells #[.slice A.pa m.places.length A.pc, .slice A.la m.legs.length A.lc, .slice A.ha m.herds.length A.hc, .slice A.sa m.seen.length A.sc] 27)).alloc (.cells #[.int .i64 i] 3)).alloc (.cells #[.int .i64 k] 3)).alloc (.cells #[.int .i64 0] 30)) = W5 := ⟨_, rfl⟩
  have hB5 : Below w.heap.size w W5 := by rw [← hW5]; (repeat (first | assumption | exact Below.refl _ _ | refine Below.drew ?_ | refine Below.alloc ?_ (by first | omega | (simp; done) | (simp; omega)) _ | refine Below.setCell ?_ (by first | omega | (simp; done) | (simp; omega)) _ | refine Below.trans ?_ (Below.mono (by assumption) (by first | omega | (simp; done) | (simp; omega)))))
  have b1 : Blk W5 (w.heap.size + 1) #[.int .i64 i] 3 := by rw [← hW5]; exact (((Blk.new' _ _ _ _ (by simp)).alloc _).alloc _)
  have b2 : Blk W5 (w.heap.size + 2) #[.int .i64 k] 3 := by rw [← hW5]; exact ((Blk.new' _ _ _ _ (by simp)).alloc _)
  have b4 : Blk W5 (w.heap.size + 3) #[.int .i64 0] 30 := by rw [← hW5]; exact Blk.new' _ _ _ _ (by simp)
  have hs5 : W5.heap.size = w.heap.size + 4 := by rw [← hW5]; simp
  rw [hW5]
  refine (HO.out W5 hB5 b1 b2).mono ?_
  rintro e w6 ⟨rfl, hb6⟩
  refine post_catch (v := .tuple #[.int .i64 0, .int .i64 E]) catch_Ahead (fun W => by simp [go_sem]) rfl (b4.below hb6 b4.lt) fun w' hl hb => ⟨?_, rfl, ?_⟩
  · have r4 := hb.cell
    simp [results, Try.results13, go_sem, r4]
  · exact below_lets (hB5.trans (hb6.mono (by omega))) hl (Nat.le_refl _) (fun _ _ _ => by omega)
set_option maxHeartbeats 40000000 in
set_option maxRecDepth 100000 in
theorem m_Ahead_clash {m : Mb} {A : Ma} (i k : Int) (w : World) (hl : Mlen m) (hm : MbAt w m A) (hv : validM m = true) (hi : ((herdB m i && herdB m k)) = true) (hk : knownM m = false) :
    Calls Try.prog 13 #[mv m A, .int .i64 i, .int .i64 k] w (Gives2 (.int .i64 0) (.int .i64 10) w) := by
  have hmf := hmf_mob
  have HO : Hid (∀ W, Below w.heap.size w W → Blk W (w.heap.size + 1) #[.int .i64 i] 3 → Blk W (w.heap.size + 2) #[.int .i64 k] 3 → Calls Try.prog 42 #[mv m A, .func (.func 43) #[] #[.pointer (some ⟨w.heap.size + 1, 0, none⟩), .pointer (some ⟨w.heap.size + 2, 0, none⟩)]] W (fun e w' => ∃ wp mb pa pc, e = .returned (.pointer (some ⟨wp, 0, none⟩)) ∧ Opened w' wp m A pa pc mb ∧ Below W.heap.size W w' ∧ W.heap.size ≤ wp ∧ W.heap.size ≤ mb)) := fun W hb b1 b2 =>
    (m_open m A 43 #[.pointer (some ⟨w.heap.size + 1, 0, none⟩), .pointer (some ⟨w.heap.size + 2, 0, none⟩)] ((herdB m i && herdB m k)) W hl (hm.below hb) (fun args W => Try.call43 args W) (fun hv W' wp mb pa pc hw hb' => m_herdsC _ _ i k W' hl hw (b1.below hb' b1.lt) (b2.below hb' b2.lt))).mono fun e w' h => open_ok h hv hi
  clear hl hm
  unfold mv mcells at *
  refine callsIn_wide.1 (callsIn_of_wp_marks (F := Fence.wide) (n := 0) Try.func13 rfl trivial (wpIn_wide.2 ?_) rfl)
  simp only [Try.ntmps13, List.size_toArray, List.length_cons, List.length_nil, Nat.reduceAdd, Nat.reduceSub, Array.replicate_succ, Array.replicate_zero, List.push_toArray, List.append_toArray, List.nil_append, List.cons_append]
  go_wp2_with (first
    | (go_at_call 42; refine at_stop ?_))
  unfold Stop
  obtain ⟨W5, hW5⟩ : ∃ W5, ((((w.alloc (.cells #[.slice A.pa m.places.length A.pc, .slice A.la m.legs.length A.lc, .slice A.ha m.herds.length A.hc, .slice A.sa m.seen.length A.sc] 27)).alloc (.cells #[.int .i64 i] 3)).alloc (.cells #[.int .i64 k] 3)).alloc (.cells #[.int .i64 0] 30)) = W5 := ⟨_, rfl⟩
  have hB5 : Below w.heap.size w W5 := by rw [← hW5]; (repeat (first | assumption | exact Below.refl _ _ | refine Below.drew ?_ | refine Below.alloc ?_ (by first | omega | (simp; done) | (simp; omega)) _ | refine Below.setCell ?_ (by first | omega | (simp; done) | (simp; omega)) _ | refine Below.trans ?_ (Below.mono (by assumption) (by first | omega | (simp; done) | (simp; omega)))))
  have b1 : Blk W5 (w.heap.size + 1) #[.int .i64 i] 3 := by rw [← hW5]; exact (((Blk.new' _ _ _ _ (by simp)).alloc _).alloc _)
  have b2 : Blk W5 (w.heap.size + 2) #[.int .i64 k] 3 := by rw [← hW5]; exact ((Blk.new' _ _ _ _ (by simp)).alloc _)
  have b4 : Blk W5 (w.heap.size + 3) #[.int .i64 0] 30 := by rw [← hW5]; exact Blk.new' _ _ _ _ (by simp)
  have hs5 : W5.heap.size = w.heap.size + 4 := by rw [← hW5]; simp
  rw [hW5]
  refine (HO.out W5 hB5 b1 b2).mono ?_
  rintro e w6 ⟨wp, mb, pa, pc, rfl, hO, hb6, hwp, hmb⟩
  have hs6 := hb6.size
  have hW6 : Way w6 mb m w6 := ⟨hO.kept, Lets.refl _ _⟩
  have HKn := Lib.hid (m_known_no hv hO w6 hW6 hk)
  go_wp2_with (first
    | (go_at_call 45; refine HKn.out.mono ?_; rintro e w7 ⟨rfl, hW7, hl7⟩))
  refine post_catch (v := .tuple #[.int .i64 0, .int .i64 10]) catch_Ahead (fun W => by simp [go_sem]) rfl (hl7.blk (b4.below hb6 b4.lt) (by omega)) fun w' hl hb => ⟨?_, rfl, ?_⟩
  · have r4 := hb.cell
    simp [results, Try.results13, go_sem, r4]
  · exact below_lets (below_lets (hB5.trans (hb6.mono (by omega))) hl7 (Nat.le_refl _) (fun _ _ _ => by omega)) hl (Nat.le_refl _) (fun _ _ _ => by omega)
set_option maxHeartbeats 40000000 in
set_option maxRecDepth 100000 in
theorem m_Where_stop {m : Mb} {A : Ma} (i d : Int) (w : World) (hl : Mlen m) (hm : MbAt w m A) (hk : validM m = false ∨ ((herdB m i && inB d 0 100)) = false) :
    Calls Try.prog 23 #[mv m A, .int .i64 i, .int .i64 d] w (Gives2 (.int .i64 0) (.int .i64 (knownP m ((herdB m i && inB d 0 100)))) w) := by
  have hmf := hmf_mob
  have HO : Hid (∀ W, Below w.heap.size w W → Blk W (w.heap.size + 1) #[.int .i64 i] 3 → Blk W (w.heap.size + 2) #[.int .i64 d] 3 → Calls Try.prog 42 #[mv m A, .func (.func 79) #[] #[.pointer (some ⟨w.heap.size + 1, 0, none⟩), .pointer (some ⟨w.heap.size + 2, 0, none⟩)]] W (Stops (knownP m ((herdB m i && inB d 0 100))) W)) := fun W hb b1 b2 =>
    (m_open m A 79 #[.pointer (some ⟨w.heap.size + 1, 0, none⟩), .pointer (some ⟨w.heap.size + 2, 0, none⟩)] ((herdB m i && inB d 0 100)) W hl (hm.below hb) (fun args W => Try.call79 args W) (fun hv W' wp mb pa pc hw hb' => m_herdDayC _ _ i d W' hl hw (b1.below hb' b1.lt) (b2.below hb' b2.lt))).mono fun e w' h => open_stop h hk
  generalize knownP m ((herdB m i && inB d 0 100)) = E at *
  clear hl hm hk
  unfold mv mcells at *
  refine callsIn_wide.1 (callsIn_of_wp_marks (F := Fence.wide) (n := 0) Try.func23 rfl trivial (wpIn_wide.2 ?_) rfl)
  simp only [Try.ntmps23, List.size_toArray, List.length_cons, List.length_nil, Nat.reduceAdd, Nat.reduceSub, Array.replicate_succ, Array.replicate_zero, List.push_toArray, List.append_toArray, List.nil_append, List.cons_append]
  go_wp2_with (first
    | (go_at_call 42; refine at_stop ?_))
  unfold Stop
  obtain ⟨W5, hW5⟩ : ∃ W5, ((((w.alloc (.cells #[.slice A.pa m.places.length A.pc, .slice A.la m.legs.length A.lc, .slice A.ha m.herds.length A.hc, .slice A.sa m.seen.length A.sc] 27)).alloc (.cells #[.int .i64 i] 3)).alloc (.cells #[.int .i64 d] 3)).alloc (.cells #[.int .i64 0] 30)) = W5 := ⟨_, rfl⟩
  have hB5 : Below w.heap.size w W5 := by rw [← hW5]; (repeat (first | assumption | exact Below.refl _ _ | refine Below.drew ?_ | refine Below.alloc ?_ (by first | omega | (simp; done) | (simp; omega)) _ | refine Below.setCell ?_ (by first | omega | (simp; done) | (simp; omega)) _ | refine Below.trans ?_ (Below.mono (by assumption) (by first | omega | (simp; done) | (simp; omega)))))
  have b1 : Blk W5 (w.heap.size + 1) #[.int .i64 i] 3 := by rw [← hW5]; exact (((Blk.new' _ _ _ _ (by simp)).alloc _).alloc _)
  have b2 : Blk W5 (w.heap.size + 2) #[.int .i64 d] 3 := by rw [← hW5]; exact ((Blk.new' _ _ _ _ (by simp)).alloc _)
  have b4 : Blk W5 (w.heap.size + 3) #[.int .i64 0] 30 := by rw [← hW5]; exact Blk.new' _ _ _ _ (by simp)
  have hs5 : W5.heap.size = w.heap.size + 4 := by rw [← hW5]; simp
  rw [hW5]
  refine (HO.out W5 hB5 b1 b2).mono ?_
  rintro e w6 ⟨rfl, hb6⟩
  refine post_catch (v := .tuple #[.int .i64 0, .int .i64 E]) catch_Where (fun W => by simp [go_sem]) rfl (b4.below hb6 b4.lt) fun w' hl hb => ⟨?_, rfl, ?_⟩
  · have r4 := hb.cell
    simp [results, Try.results23, go_sem, r4]
  · exact below_lets (hB5.trans (hb6.mono (by omega))) hl (Nat.le_refl _) (fun _ _ _ => by omega)
set_option maxHeartbeats 40000000 in
set_option maxRecDepth 100000 in
theorem m_Where_clash {m : Mb} {A : Ma} (i d : Int) (w : World) (hl : Mlen m) (hm : MbAt w m A) (hv : validM m = true) (hi : ((herdB m i && inB d 0 100)) = true) (hk : knownM m = false) :
    Calls Try.prog 23 #[mv m A, .int .i64 i, .int .i64 d] w (Gives2 (.int .i64 0) (.int .i64 10) w) := by
  have hmf := hmf_mob
  have HO : Hid (∀ W, Below w.heap.size w W → Blk W (w.heap.size + 1) #[.int .i64 i] 3 → Blk W (w.heap.size + 2) #[.int .i64 d] 3 → Calls Try.prog 42 #[mv m A, .func (.func 79) #[] #[.pointer (some ⟨w.heap.size + 1, 0, none⟩), .pointer (some ⟨w.heap.size + 2, 0, none⟩)]] W (fun e w' => ∃ wp mb pa pc, e = .returned (.pointer (some ⟨wp, 0, none⟩)) ∧ Opened w' wp m A pa pc mb ∧ Below W.heap.size W w' ∧ W.heap.size ≤ wp ∧ W.heap.size ≤ mb)) := fun W hb b1 b2 =>
    (m_open m A 79 #[.pointer (some ⟨w.heap.size + 1, 0, none⟩), .pointer (some ⟨w.heap.size + 2, 0, none⟩)] ((herdB m i && inB d 0 100)) W hl (hm.below hb) (fun args W => Try.call79 args W) (fun hv W' wp mb pa pc hw hb' => m_herdDayC _ _ i d W' hl hw (b1.below hb' b1.lt) (b2.below hb' b2.lt))).mono fun e w' h => open_ok h hv hi
  clear hl hm
  unfold mv mcells at *
  refine callsIn_wide.1 (callsIn_of_wp_marks (F := Fence.wide) (n := 0) Try.func23 rfl trivial (wpIn_wide.2 ?_) rfl)
  simp only [Try.ntmps23, List.size_toArray, List.length_cons, List.length_nil, Nat.reduceAdd, Nat.reduceSub, Array.replicate_succ, Array.replicate_zero, List.push_toArray, List.append_toArray, List.nil_append, List.cons_append]
  go_wp2_with (first
    | (go_at_call 42; refine at_stop ?_))
  unfold Stop
  obtain ⟨W5, hW5⟩ : ∃ W5, ((((w.alloc (.cells #[.slice A.pa m.places.length A.pc, .slice A.la m.legs.length A.lc, .slice A.ha m.herds.length A.hc, .slice A.sa m.seen.length A.sc] 27)).alloc (.cells #[.int .i64 i] 3)).alloc (.cells #[.int .i64 d] 3)).alloc (.cells #[.int .i64 0] 30)) = W5 := ⟨_, rfl⟩
  have hB5 : Below w.heap.size w W5 := by rw [← hW5]; (repeat (first | assumption | exact Below.refl _ _ | refine Below.drew ?_ | refine Below.alloc ?_ (by first | omega | (simp; done) | (simp; omega)) _ | refine Below.setCell ?_ (by first | omega | (simp; done) | (simp; omega)) _ | refine Below.trans ?_ (Below.mono (by assumption) (by first | omega | (simp; done) | (simp; omega)))))
  have b1 : Blk W5 (w.heap.size + 1) #[.int .i64 i] 3 := by rw [← hW5]; exact (((Blk.new' _ _ _ _ (by simp)).alloc _).alloc _)
  have b2 : Blk W5 (w.heap.size + 2) #[.int .i64 d] 3 := by rw [← hW5]; exact ((Blk.new' _ _ _ _ (by simp)).alloc _)
  have b4 : Blk W5 (w.heap.size + 3) #[.int .i64 0] 30 := by rw [← hW5]; exact Blk.new' _ _ _ _ (by simp)
  have hs5 : W5.heap.size = w.heap.size + 4 := by rw [← hW5]; simp
  rw [hW5]
  refine (HO.out W5 hB5 b1 b2).mono ?_
  rintro e w6 ⟨wp, mb, pa, pc, rfl, hO, hb6, hwp, hmb⟩
  have hs6 := hb6.size
  have hW6 : Way w6 mb m w6 := ⟨hO.kept, Lets.refl _ _⟩
  have HKn := Lib.hid (m_known_no hv hO w6 hW6 hk)
  go_wp2_with (first
    | (go_at_call 45; refine HKn.out.mono ?_; rintro e w7 ⟨rfl, hW7, hl7⟩))
  refine post_catch (v := .tuple #[.int .i64 0, .int .i64 10]) catch_Where (fun W => by simp [go_sem]) rfl (hl7.blk (b4.below hb6 b4.lt) (by omega)) fun w' hl hb => ⟨?_, rfl, ?_⟩
  · have r4 := hb.cell
    simp [results, Try.results23, go_sem, r4]
  · exact below_lets (below_lets (hB5.trans (hb6.mono (by omega))) hl7 (Nat.le_refl _) (fun _ _ _ => by omega)) hl (Nat.le_refl _) (fun _ _ _ => by omega)
set_option maxHeartbeats 40000000 in
set_option maxRecDepth 100000 in
theorem m_Clash_stop {m : Mb} {A : Ma} (w : World) (hl : Mlen m) (hm : MbAt w m A) (hk : validM m = false ∨ (true) = false) :
    Calls Try.prog 17 #[mv m A] w (Gives2 (.int .i64 0) (.int .i64 (knownP m (true))) w) := by
  have hmf := hmf_mob
  have HO : Hid (∀ W, Below w.heap.size w W → Calls Try.prog 42 #[mv m A, .func (.func 61) #[] #[]] W (Stops (knownP m (true)) W)) := fun W hb  =>
    (m_open m A 61 #[] (true) W hl (hm.below hb) (fun args W => Try.call61 args W) (fun hv W' wp mb pa pc hw hb' => (m_always _ W').mono fun e w' h => ⟨h.1, h.2 ▸ Below.refl _ _⟩)).mono fun e w' h => open_stop h hk
  generalize knownP m (true) = E at *
  clear hl hm hk
  unfold mv mcells at *
  refine callsIn_wide.1 (callsIn_of_wp_marks (F := Fence.wide) (n := 0) Try.func17 rfl trivial (wpIn_wide.2 ?_) rfl)
  simp only [Try.ntmps17, List.size_toArray, List.length_cons, List.length_nil, Nat.reduceAdd, Nat.reduceSub, Array.replicate_succ, Array.replicate_zero, List.push_toArray, List.append_toArray, List.nil_append, List.cons_append]
  go_wp2_with (first
    | (go_at_call 42; refine at_stop ?_))
  unfold Stop
  obtain ⟨W5, hW5⟩ : ∃ W5, ((w.alloc (.cells #[.slice A.pa m.places.length A.pc, .slice A.la m.legs.length A.lc, .slice A.ha m.herds.length A.hc, .slice A.sa m.seen.length A.sc] 27)).alloc (.cells #[.int .i64 0] 30)) = W5 := ⟨_, rfl⟩
  have hB5 : Below w.heap.size w W5 := by rw [← hW5]; (repeat (first | assumption | exact Below.refl _ _ | refine Below.drew ?_ | refine Below.alloc ?_ (by first | omega | (simp; done) | (simp; omega)) _ | refine Below.setCell ?_ (by first | omega | (simp; done) | (simp; omega)) _ | refine Below.trans ?_ (Below.mono (by assumption) (by first | omega | (simp; done) | (simp; omega)))))
  have b4 : Blk W5 (w.heap.size + 1) #[.int .i64 0] 30 := by rw [← hW5]; exact Blk.new' _ _ _ _ (by simp)
  have hs5 : W5.heap.size = w.heap.size + 2 := by rw [← hW5]; simp
  rw [hW5]
  refine (HO.out W5 hB5).mono ?_
  rintro e w6 ⟨rfl, hb6⟩
  refine post_catch (v := .tuple #[.int .i64 0, .int .i64 E]) catch_Clash (fun W => by simp [go_sem]) rfl (b4.below hb6 b4.lt) fun w' hl hb => ⟨?_, rfl, ?_⟩
  · have r4 := hb.cell
    simp [results, Try.results17, go_sem, r4]
  · exact below_lets (hB5.trans (hb6.mono (by omega))) hl (Nat.le_refl _) (fun _ _ _ => by omega)
end Go.Proofs.Yteeinehpneppnaa
set_option linter.unusedVariables false
set_option linter.unusedSimpArgs false
namespace Go.Proofs.Yteeinehpneppnaa
open Go.RowKit Go.Proofs
attribute [local irreducible] Ord.walk
theorem or_pow6 : ∀ a < 64, ∀ i < 6, a < 2 ^ i → bits .or .i64 ((a : Nat) : Int) ((2 ^ i : Nat) : Int) = ((a + 2 ^ i : Nat) : Int) := by decide +kernel
/-- The set of the numbers of which something is so. -/
def setN (f : Nat → Bool) : Nat → Nat
  | 0 => 0
  | k + 1 => if f k = true then setN f k + 2 ^ k else setN f k
theorem setN_lt (f : Nat → Bool) : ∀ k, setN f k < 2 ^ k
  | 0 => by simp [setN]
  | k + 1 => by
    have ih := setN_lt f k
    simp only [setN]
    rw [Nat.pow_succ]
    split <;> omega
/-- When a mob comes to the shed. -/
def thereJ (m : Mb) (k : Nat) : Int × Int := joinL ((toldL m (everyN m)).map fun L => comeS m L k (shedN m))
set_option maxHeartbeats 4000000 in
set_option maxRecDepth 100000 in
theorem m_There3 {m : Mb} {A : Ma} {pa : Option Addr} {pc wp mb : Nat} {W0 : World} (hv : validM m = true) (hO : Opened W0 wp m A pa pc mb) {L : List Int} (hL : L ∈ prodL m.legs) (i : Nat) (hi : i < m.herds.length) (n0 n1 : Nat) (w : World) (hW : Way W0 mb m w)
    (b0 : Blk w n0 #[.pointer (some ⟨wp, 0, none⟩)] 80) (b1 : Blk w n1 #[.int .i64 (i : Int)] 3) :
    Calls Try.prog 57 #[.agg (legC L), .pointer (some ⟨n0, 0, none⟩), .pointer (some ⟨n1, 0, none⟩)] w (GivesW W0 mb m (spv (comeS m L i (shedN m))) w) := by
  have hmb := hO.mb_lt
  have hsz := hW.2.size
  obtain ⟨W2, hW2⟩ : ∃ W2, W2 = (w.alloc (.cells (legC L) 90)).alloc (.cells #[.int .i64 0, .int .i64 0] 39) := ⟨_, rfl⟩
  have hB2 : Below w.heap.size w W2 := by rw [hW2]; (repeat (first | assumption | exact Below.refl _ _ | refine Below.drew ?_ | refine Below.alloc ?_ (by first | omega | (simp; done) | (simp; omega)) _ | refine Below.setCell ?_ (by first | omega | (simp; done) | (simp; omega)) _ | refine Below.trans ?_ (Below.mono (by assumption) (by first | omega | (simp; done) | (simp; omega)))))
  have bl : Blk W2 w.heap.size (legC L) 90 := by rw [hW2]; exact (Blk.new _ _ _).alloc _
  have bs : Blk W2 (w.heap.size + 1) #[.int .i64 0, .int .i64 0] 39 := by rw [hW2]; exact Blk.new' _ _ _ _ (by simp)
  have hWy2 : Way W0 mb m W2 := hW.below hB2 hmb
  have HC := Lib.hid (m_shedW hv hO hL i hi W2 hWy2)
  have r0 := (b0.below hB2 b0.lt).cell
  have r1 := (b1.below hB2 b1.lt).cell
  have hL2 : Lets (fun k _ => k = mb) w W2 := Lets.of_below hB2
  generalize comeS m L i (shedN m) = cs at *
  obtain ⟨c1, c2⟩ := cs
  have hs2 : W2.heap.size = w.heap.size + 2 := by rw [hW2]; simp
  clear hv hL hi b0 b1
  go_enter Try.func57, Try.ntmps57
  go_upto_region 1 with fail
  rw [← hW2]
  clear hW2
  go_wp2_with (first
    | (refine wpList_load_blk 90 (.tmp 3) agg_legs rfl rfl rfl bl rfl ?_)
    | (go_at_call 48; refine HC.out.mono ?_; rintro e w6 ⟨rfl, hW6, hl6⟩; have b26 := hl6.blk bs (by omega))
    | (refine wpList_store_blk 39 (.tmp 4) (.tmp 8) agg_span rfl rfl rfl rfl b26 rfl rfl (by simp [Value.oneCell']) ?_; intro w8 h8))
  (try simp only [Exit.inBlock, Exit.then])
  have hl8 : Lets (fun k _ => k = w.heap.size + 1) w6 w8 := (Lets.refl _ _).rowed h8 rfl
  refine bodyPost_ret (v := spv (c1, c2)) (results_cell_blk rfl _ agg_span rfl h8.blk rfl) rfl ⟨rfl, hW6.lets hl8 hmb (fun _ _ e => by omega), (hL2.trans hl6).next hl8 (fun i hi hx => by omega)⟩
theorem there_hull {m : Mb} {A : Ma} {pa : Option Addr} {pc wp mb : Nat} {W0 : World} (hv : validM m = true) (hO : Opened W0 wp m A pa pc mb) (k : Nat) (hk : k < m.herds.length) (z7 t10 tb : Nat) (W : World) (hW : Way W0 mb m W) (hT : ToldAt W tb wp (everyN m)) (htb : W0.heap.size ≤ tb)
    (b7 : Blk W z7 #[.pointer (some ⟨wp, 0, none⟩)] 80) (b10 : Blk W t10 #[.int .i64 (k : Int)] 3) (h7 : z7 ≠ mb) (h10 : t10 ≠ mb) :
    Calls Try.prog 56 #[toldF tb, .agg #[.func (.func 57) #[] #[.pointer (some ⟨z7, 0, none⟩), .pointer (some ⟨t10, 0, none⟩)]]] W (GivesW W0 mb m (spv (thereJ m k)) W) := by
  have hE5 := everyN_lt hv
  have h7l := b7.lt
  have h10l := b10.lt
  exact m_hull hv hO (everyN m) (by omega) tb W hW hT htb 57 #[.pointer (some ⟨z7, 0, none⟩), .pointer (some ⟨t10, 0, none⟩)] (fun L => comeS m L k (shedN m))
    (fun W => Blk W z7 #[.pointer (some ⟨wp, 0, none⟩)] 80 ∧ Blk W t10 #[.int .i64 (k : Int)] 3) ⟨b7, b10⟩
    (fun X Y h hl => ⟨hl.blk h.1 (by omega), hl.blk h.2 (by omega)⟩)
    (fun args W => Try.call57 args W)
    (fun L hL W hw hc => m_There3 hv hO (List.mem_filter.1 hL).1 k hk _ _ W hw hc.1 hc.2)
end Go.Proofs.Yteeinehpneppnaa
