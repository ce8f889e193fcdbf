/- Parts of a proof: MoS, MoT, MoU. -/
import Derived.Test.YteeinehpneppnaaW18
import Derived.Deep.CutRange
/- Package mob: There, Ahead, Where, Clash, where open or known stops. (Printed by mkMoS.py) -/
set_option linter.unusedVariables false
set_option linter.unusedSimpArgs false
namespace Go.Proofs.Yteeinehpneppnaa
open Go.RowKit Go.Proofs
attribute [local irreducible] Ord.walk
set_option maxHeartbeats 40000000 in
set_option maxRecDepth 100000 in
theorem m_There_stop {m : Mb} {A : Ma} (d : Int) (w : World) (hl : Mlen m) (hm : MbAt w m A) (hk : validM m = false ∨ (inB d 0 100) = false) :
    Calls Try.prog 15 #[mv m A, .int .i64 d] w (Gives3 (.int .i64 0) (.int .i64 0) (.int .i64 (knownP m (inB d 0 100))) w) := by
  have hmf := hmf_mob
  have HO : Hid (∀ W, Below w.heap.size w W → Blk W (w.heap.size + 1) #[.int .i64 d] 3 → Calls Try.prog 42 #[mv m A, .func (.func 54) #[] #[.pointer (some ⟨w.heap.size + 1, 0, none⟩)]] W (Stops (knownP m (inB d 0 100)) W)) := fun W hb b1 =>
    (m_open m A 54 #[.pointer (some ⟨w.heap.size + 1, 0, none⟩)] (inB d 0 100) W hl (hm.below hb) (fun args W => Try.call54 args W) (fun hv W' wp mb pa pc hw hb' => m_dayC _ wp d W' (b1.below hb' b1.lt))).mono fun e w' h => open_stop h hk
  generalize knownP m (inB d 0 100) = E at *
  clear hl hm hk
  unfold mv mcells at *
  refine callsIn_wide.1 (callsIn_of_wp_marks (F := Fence.wide) (n := 0) Try.func15 rfl trivial (wpIn_wide.2 ?_) rfl)
  simp only [Try.ntmps15, List.size_toArray, List.length_cons, List.length_nil, Nat.reduceAdd, Nat.reduceSub, Array.replicate_succ, Array.replicate_zero, List.push_toArray, List.append_toArray, List.nil_append, List.cons_append]
  go_wp2_with (first
    | (go_at_call 42; refine at_stop ?_))
  unfold Stop
  obtain ⟨W5, hW5⟩ : ∃ W5, (((w.alloc (.cells #[.slice A.pa m.places.length A.pc, .slice A.la m.legs.length A.lc, .slice A.ha m.herds.length A.hc, .slice A.sa m.seen.length A.sc] 27)).alloc (.cells #[.int .i64 d] 3)).alloc (.cells #[.int .i64 0] 30)) = W5 := ⟨_, rfl⟩
  have hB5 : Below w.heap.size w W5 := by rw [← hW5]; (repeat (first | assumption | exact Below.refl _ _ | refine Below.drew ?_ | refine Below.alloc ?_ (by first | omega | (simp; done) | (simp; omega)) _ | refine Below.setCell ?_ (by first | omega | (simp; done) | (simp; omega)) _ | refine Below.trans ?_ (Below.mono (by assumption) (by first | omega | (simp; done) | (simp; omega)))))
  have b1 : Blk W5 (w.heap.size + 1) #[.int .i64 d] 3 := by rw [← hW5]; exact ((Blk.new' _ _ _ _ (by simp)).alloc _)
  have b4 : Blk W5 (w.heap.size + 2) #[.int .i64 0] 30 := by rw [← hW5]; exact Blk.new' _ _ _ _ (by simp)
  have hs5 : W5.heap.size = w.heap.size + 3 := by rw [← hW5]; simp
  rw [hW5]
  refine (HO.out W5 hB5 b1).mono ?_
  rintro e w6 ⟨rfl, hb6⟩
  refine post_catch (v := .tuple #[.int .i64 0, .int .i64 0, .int .i64 E]) catch_There (fun W => by simp [go_sem]) rfl (b4.below hb6 b4.lt) fun w' hl hb => ⟨?_, rfl, ?_⟩
  · have r4 := hb.cell
    simp [results, Try.results15, go_sem, r4]
  · exact below_lets (hB5.trans (hb6.mono (by omega))) hl (Nat.le_refl _) (fun _ _ _ => by omega)
set_option maxHeartbeats 40000000 in
set_option maxRecDepth 100000 in
theorem m_There_clash {m : Mb} {A : Ma} (d : Int) (w : World) (hl : Mlen m) (hm : MbAt w m A) (hv : validM m = true) (hi : (inB d 0 100) = true) (hk : knownM m = false) :
    Calls Try.prog 15 #[mv m A, .int .i64 d] w (Gives3 (.int .i64 0) (.int .i64 0) (.int .i64 10) w) := by
  have hmf := hmf_mob
  have HO : Hid (∀ W, Below w.heap.size w W → Blk W (w.heap.size + 1) #[.int .i64 d] 3 → Calls Try.prog 42 #[mv m A, .func (.func 54) #[] #[.pointer (some ⟨w.heap.size + 1, 0, none⟩)]] W (fun e w' => ∃ wp mb pa pc, e = .returned (.pointer (some ⟨wp, 0, none⟩)) ∧ Opened w' wp m A pa pc mb ∧ Below W.heap.size W w' ∧ W.heap.size ≤ wp ∧ W.heap.size ≤ mb)) := fun W hb b1 =>
    (m_open m A 54 #[.pointer (some ⟨w.heap.size + 1, 0, none⟩)] (inB d 0 100) W hl (hm.below hb) (fun args W => Try.call54 args W) (fun hv W' wp mb pa pc hw hb' => m_dayC _ wp d W' (b1.below hb' b1.lt))).mono fun e w' h => open_ok h hv hi
  clear hl hm
  unfold mv mcells at *
  refine callsIn_wide.1 (callsIn_of_wp_marks (F := Fence.wide) (n := 0) Try.func15 rfl trivial (wpIn_wide.2 ?_) rfl)
  simp only [Try.ntmps15, List.size_toArray, List.length_cons, List.length_nil, Nat.reduceAdd, Nat.reduceSub, Array.replicate_succ, Array.replicate_zero, List.push_toArray, List.append_toArray, List.nil_append, List.cons_append]
  go_wp2_with (first
    | (go_at_call 42; refine at_stop ?_))
  unfold Stop
  obtain ⟨W5, hW5⟩ : ∃ W5, (((w.alloc (.cells #[.slice A.pa m.places.length A.pc, .slice A.la m.legs.length A.lc, .slice A.ha m.herds.length A.hc, .slice A.sa m.seen.length A.sc] 27)).alloc (.cells #[.int .i64 d] 3)).alloc (.cells #[.int .i64 0] 30)) = W5 := ⟨_, rfl⟩
  have hB5 : Below w.heap.size w W5 := by rw [← hW5]; (repeat (first | assumption | exact Below.refl _ _ | refine Below.drew ?_ | refine Below.alloc ?_ (by first | omega | (simp; done) | (simp; omega)) _ | refine Below.setCell ?_ (by first | omega | (simp; done) | (simp; omega)) _ | refine Below.trans ?_ (Below.mono (by assumption) (by first | omega | (simp; done) | (simp; omega)))))
  have b1 : Blk W5 (w.heap.size + 1) #[.int .i64 d] 3 := by rw [← hW5]; exact ((Blk.new' _ _ _ _ (by simp)).alloc _)
  have b4 : Blk W5 (w.heap.size + 2) #[.int .i64 0] 30 := by rw [← hW5]; exact Blk.new' _ _ _ _ (by simp)
  have hs5 : W5.heap.size = w.heap.size + 3 := by rw [← hW5]; simp
  rw [hW5]
  refine (HO.out W5 hB5 b1).mono ?_
  rintro e w6 ⟨wp, mb, pa, pc, rfl, hO, hb6, hwp, hmb⟩
  have hs6 := hb6.size
  have hW6 : Way w6 mb m w6 := ⟨hO.kept, Lets.refl _ _⟩
  have HKn := Lib.hid (m_known_no hv hO w6 hW6 hk)
  go_wp2_with (first
    | (go_at_call 45; refine HKn.out.mono ?_; rintro e w7 ⟨rfl, hW7, hl7⟩))
  refine post_catch (v := .tuple #[.int .i64 0, .int .i64 0, .int .i64 10]) catch_There (fun W => by simp [go_sem]) rfl (hl7.blk (b4.below hb6 b4.lt) (by omega)) fun w' hl hb => ⟨?_, rfl, ?_⟩
  · have r4 := hb.cell
    simp [results, Try.results15, go_sem, r4]
  · exact below_lets (below_lets (hB5.trans (hb6.mono (by omega))) hl7 (Nat.le_refl _) (fun _ _ _ => by omega)) hl (Nat.le_refl _) (fun _ _ _ => by omega)
set_option maxHeartbeats 40000000 in
set_option maxRecDepth 100000 in
theorem m_Ahead_stop {m : Mb} {A : Ma} (i k : Int) (w : World) (hl : Mlen m) (hm : MbAt w m A) (hk : validM m = false ∨ ((herdB m i && herdB m k)) = false) :
    Calls Try.prog 13 #[mv m A, .int .i64 i, .int .i64 k] w (Gives2 (.int .i64 0) (.int .i64 (knownP m ((herdB m i && herdB m k)))) w) := by
  have hmf := hmf_mob
  have HO : Hid (∀ W, Below w.heap.size w W → Blk W (w.heap.size + 1) #[.int .i64 i] 3 → Blk W (w.heap.size + 2) #[.int .i64 k] 3 → Calls Try.prog 42 #[mv m A, .func (.func 43) #[] #[.pointer (some ⟨w.heap.size + 1, 0, none⟩), .pointer (some ⟨w.heap.size + 2, 0, none⟩)]] W (Stops (knownP m ((herdB m i && herdB m k))) W)) := fun W hb b1 b2 =>
    (m_open m A 43 #[.pointer (some ⟨w.heap.size + 1, 0, none⟩), .pointer (some ⟨w.heap.size + 2, 0, none⟩)] ((herdB m i && herdB m k)) W hl (hm.below hb) (fun args W => Try.call43 args W) (fun hv W' wp mb pa pc hw hb' => m_herdsC _ _ i k W' hl hw (b1.below hb' b1.lt) (b2.below hb' b2.lt))).mono fun e w' h => open_stop h hk
  generalize knownP m ((herdB m i && herdB m k)) = E at *
  clear hl hm hk
  unfold mv mcells at *
  refine callsIn_wide.1 (callsIn_of_wp_marks (F := Fence.wide) (n := 0) Try.func13 rfl trivial (wpIn_wide.2 ?_) rfl)
  simp only [Try.ntmps13, List.size_toArray, List.length_cons, List.length_nil, Nat.reduceAdd, Nat.reduceSub, Array.replicate_succ, Array.replicate_zero, List.push_toArray, List.append_toArray, List.nil_append, List.cons_append]
  go_wp2_with (first
    | (go_at_call 42; refine at_stop ?_))
  unfold Stop
  obtain ⟨W5, hW5⟩ : ∃ W5, ((((w.alloc (.cells #[.slice A.pa m.places.length A.pc, .slice A.la m.legs.length A.lc, .slice A.ha m.herds.length A.hc, .slice A.sa m.seen.length A.sc] 27)).alloc (.cells #[.int .i64 i] 3)).alloc (.cells #[.int .i64 k] 3)).alloc (.cells #[.int .i64 0] 30)) = W5 := ⟨_, rfl⟩
  have hB5 : Below w.heap.size w W5 := by rw [← hW5]; (repeat (first | assumption | exact Below.refl _ _ | refine Below.drew ?_ | refine Below.alloc ?_ (by first | omega | (simp; done) | (simp; omega)) _ | refine Below.setCell ?_ (by first | omega | (simp; done) | (simp; omega)) _ | refine Below.trans ?_ (Below.mono (by assumption) (by first | omega | (simp; done) | (simp; omega)))))
  have b1 : Blk W5 (w.heap.size + 1) #[.int .i64 i] 3 := by rw [← hW5]; exact (((Blk.new' _ _ _ _ (by simp)).alloc _).alloc _)
  have b2 : Blk W5 (w.heap.size + 2) #[.int .i64 k] 3 := by rw [← hW5]; exact ((Blk.new' _ _ _ _ (by simp)).alloc _)
  have b4 : Blk W5 (w.heap.size + 3) #[.int .i64 0] 30 := by rw [← hW5]; exact Blk.new' _ _ _ _ (by simp)
  have hs5 : W5.heap.size = w.heap.size + 4 := by rw [← hW5]; simp
  rw [hW5]
  refine (HO.out W5 hB5 b1 b2).mono ?_
  rintro e w6 ⟨rfl, hb6⟩
  refine post_catch (v := .tuple #[.int .i64 0, .int .i64 E]) catch_Ahead (fun W => by simp [go_sem]) rfl (b4.below hb6 b4.lt) fun w' hl hb => ⟨?_, rfl, ?_⟩
  · have r4 := hb.cell
    simp [results, Try.results13, go_sem, r4]
  · exact below_lets (hB5.trans (hb6.mono (by omega))) hl (Nat.le_refl _) (fun _ _ _ => by omega)
set_option maxHeartbeats 40000000 in
set_option maxRecDepth 100000 in
theorem m_Ahead_clash {m : Mb} {A : Ma} (i k : Int) (w : World) (hl : Mlen m) (hm : MbAt w m A) (hv : validM m = true) (hi : ((herdB m i && herdB m k)) = true) (hk : knownM m = false) :
    Calls Try.prog 13 #[mv m A, .int .i64 i, .int .i64 k] w (Gives2 (.int .i64 0) (.int .i64 10) w) := by
  have hmf := hmf_mob
  have HO : Hid (∀ W, Below w.heap.size w W → Blk W (w.heap.size + 1) #[.int .i64 i] 3 → Blk W (w.heap.size + 2) #[.int .i64 k] 3 → Calls Try.prog 42 #[mv m A, .func (.func 43) #[] #[.pointer (some ⟨w.heap.size + 1, 0, none⟩), .pointer (some ⟨w.heap.size + 2, 0, none⟩)]] W (fun e w' => ∃ wp mb pa pc, e = .returned (.pointer (some ⟨wp, 0, none⟩)) ∧ Opened w' wp m A pa pc mb ∧ Below W.heap.size W w' ∧ W.heap.size ≤ wp ∧ W.heap.size ≤ mb)) := fun W hb b1 b2 =>
    (m_open m A 43 #[.pointer (some ⟨w.heap.size + 1, 0, none⟩), .pointer (some ⟨w.heap.size + 2, 0, none⟩)] ((herdB m i && herdB m k)) W hl (hm.below hb) (fun args W => Try.call43 args W) (fun hv W' wp mb pa pc hw hb' => m_herdsC _ _ i k W' hl hw (b1.below hb' b1.lt) (b2.below hb' b2.lt))).mono fun e w' h => open_ok h hv hi
  clear hl hm
  unfold mv mcells at *
  refine callsIn_wide.1 (callsIn_of_wp_marks (F := Fence.wide) (n := 0) Try.func13 rfl trivial (wpIn_wide.2 ?_) rfl)
  simp only [Try.ntmps13, List.size_toArray, List.length_cons, List.length_nil, Nat.reduceAdd, Nat.reduceSub, Array.replicate_succ, Array.replicate_zero, List.push_toArray, List.append_toArray, List.nil_append, List.cons_append]
  go_wp2_with (first
    | (go_at_call 42; refine at_stop ?_))
  unfold Stop
  obtain ⟨W5, hW5⟩ : ∃ W5, ((((w.alloc (.cells #[.slice A.pa m.places.length A.pc, .slice A.la m.legs.length A.lc, .slice A.ha m.herds.length A.hc, .slice A.sa m.seen.length A.sc] 27)).alloc (.cells #[.int .i64 i] 3)).alloc (.cells #[.int .i64 k] 3)).alloc (.cells #[.int .i64 0] 30)) = W5 := ⟨_, rfl⟩
  have hB5 : Below w.heap.size w W5 := by rw [← hW5]; (repeat (first | assumption | exact Below.refl _ _ | refine Below.drew ?_ | refine Below.alloc ?_ (by first | omega | (simp; done) | (simp; omega)) _ | refine Below.setCell ?_ (by first | omega | (simp; done) | (simp; omega)) _ | refine Below.trans ?_ (Below.mono (by assumption) (by first | omega | (simp; done) | (simp; omega)))))
  have b1 : Blk W5 (w.heap.size + 1) #[.int .i64 i] 3 := by rw [← hW5]; exact (((Blk.new' _ _ _ _ (by simp)).alloc _).alloc _)
  have b2 : Blk W5 (w.heap.size + 2) #[.int .i64 k] 3 := by rw [← hW5]; exact ((Blk.new' _ _ _ _ (by simp)).alloc _)
  have b4 : Blk W5 (w.heap.size + 3) #[.int .i64 0] 30 := by rw [← hW5]; exact Blk.new' _ _ _ _ (by simp)
  have hs5 : W5.heap.size = w.heap.size + 4 := by rw [← hW5]; simp
  rw [hW5]
  refine (HO.out W5 hB5 b1 b2).mono ?_
  rintro e w6 ⟨wp, mb, pa, pc, rfl, hO, hb6, hwp, hmb⟩
  have hs6 := hb6.size
  have hW6 : Way w6 mb m w6 := ⟨hO.kept, Lets.refl _ _⟩
  have HKn := Lib.hid (m_known_no hv hO w6 hW6 hk)
  go_wp2_with (first
    | (go_at_call 45; refine HKn.out.mono ?_; rintro e w7 ⟨rfl, hW7, hl7⟩))
  refine post_catch (v := .tuple #[.int .i64 0, .int .i64 10]) catch_Ahead (fun W => by simp [go_sem]) rfl (hl7.blk (b4.below hb6 b4.lt) (by omega)) fun w' hl hb => ⟨?_, rfl, ?_⟩
  · have r4 := hb.cell
    simp [results, Try.results13, go_sem, r4]
  · exact below_lets (below_lets (hB5.trans (hb6.mono (by omega))) hl7 (Nat.le_refl _) (fun _ _ _ => by omega)) hl (Nat.le_refl _) (fun _ _ _ => by omega)
set_option maxHeartbeats 40000000 in
set_option maxRecDepth 100000 in
theorem m_Where_stop {m : Mb} {A : Ma} (i d : Int) (w : World) (hl : Mlen m) (hm : MbAt w m A) (hk : validM m = false ∨ ((herdB m i && inB d 0 100)) = false) :
    Calls Try.prog 23 #[mv m A, .int .i64 i, .int .i64 d] w (Gives2 (.int .i64 0) (.int .i64 (knownP m ((herdB m i && inB d 0 100)))) w) := by
  have hmf := hmf_mob
  have HO : Hid (∀ W, Below w.heap.size w W → Blk W (w.heap.size + 1) #[.int .i64 i] 3 → Blk W (w.heap.size + 2) #[.int .i64 d] 3 → Calls Try.prog 42 #[mv m A, .func (.func 79) #[] #[.pointer (some ⟨w.heap.size + 1, 0, none⟩), .pointer (some ⟨w.heap.size + 2, 0, none⟩)]] W (Stops (knownP m ((herdB m i && inB d 0 100))) W)) := fun W hb b1 b2 =>
    (m_open m A 79 #[.pointer (some ⟨w.heap.size + 1, 0, none⟩), .pointer (some ⟨w.heap.size + 2, 0, none⟩)] ((herdB m i && inB d 0 100)) W hl (hm.below hb) (fun args W => Try.call79 args W) (fun hv W' wp mb pa pc hw hb' => m_herdDayC _ _ i d W' hl hw (b1.below hb' b1.lt) (b2.below hb' b2.lt))).mono fun e w' h => open_stop h hk
  generalize knownP m ((herdB m i && inB d 0 100)) = E at *
  clear hl hm hk
  unfold mv mcells at *
  refine callsIn_wide.1 (callsIn_of_wp_marks (F := Fence.wide) (n := 0) Try.func23 rfl trivial (wpIn_wide.2 ?_) rfl)
  simp only [Try.ntmps23, List.size_toArray, List.length_cons, List.length_nil, Nat.reduceAdd, Nat.reduceSub, Array.replicate_succ, Array.replicate_zero, List.push_toArray, List.append_toArray, List.nil_append, List.cons_append]
  go_wp2_with (first
    | (go_at_call 42; refine at_stop ?_))
  unfold Stop
  obtain ⟨W5, hW5⟩ : ∃ W5, ((((w.alloc (.cells #[.slice A.pa m.places.length A.pc, .slice A.la m.legs.length A.lc, .slice A.ha m.herds.length A.hc, .slice A.sa m.seen.length A.sc] 27)).alloc (.cells #[.int .i64 i] 3)).alloc (.cells #[.int .i64 d] 3)).alloc (.cells #[.int .i64 0] 30)) = W5 := ⟨_, rfl⟩
  have hB5 : Below w.heap.size w W5 := by rw [← hW5]; (repeat (first | assumption | exact Below.refl _ _ | refine Below.drew ?_ | refine Below.alloc ?_ (by first | omega | (simp; done) | (simp; omega)) _ | refine Below.setCell ?_ (by first | omega | (simp; done) | (simp; omega)) _ | refine Below.trans ?_ (Below.mono (by assumption) (by first | omega | (simp; done) | (simp; omega)))))
  have b1 : Blk W5 (w.heap.size + 1) #[.int .i64 i] 3 := by rw [← hW5]; exact (((Blk.new' _ _ _ _ (by simp)).alloc _).alloc _)
  have b2 : Blk W5 (w.heap.size + 2) #[.int .i64 d] 3 := by rw [← hW5]; exact ((Blk.new' _ _ _ _ (by simp)).alloc _)
  have b4 : Blk W5 (w.heap.size + 3) #[.int .i64 0] 30 := by rw [← hW5]; exact Blk.new' _ _ _ _ (by simp)
  have hs5 : W5.heap.size = w.heap.size + 4 := by rw [← hW5]; simp
  rw [hW5]
  refine (HO.out W5 hB5 b1 b2).mono ?_
  rintro e w6 ⟨rfl, hb6⟩
  refine post_catch (v := .tuple #[.int .i64 0, .int .i64 E]) catch_Where (fun W => by simp [go_sem]) rfl (b4.below hb6 b4.lt) fun w' hl hb => ⟨?_, rfl, ?_⟩
  · have r4 := hb.cell
    simp [results, Try.results23, go_sem, r4]
  · exact below_lets (hB5.trans (hb6.mono (by omega))) hl (Nat.le_refl _) (fun _ _ _ => by omega)
set_option maxHeartbeats 40000000 in
set_option maxRecDepth 100000 in
theorem m_Where_clash {m : Mb} {A : Ma} (i d : Int) (w : World) (hl : Mlen m) (hm : MbAt w m A) (hv : validM m = true) (hi : ((herdB m i && inB d 0 100)) = true) (hk : knownM m = false) :
    Calls Try.prog 23 #[mv m A, .int .i64 i, .int .i64 d] w (Gives2 (.int .i64 0) (.int .i64 10) w) := by
  have hmf := hmf_mob
  have HO : Hid (∀ W, Below w.heap.size w W → Blk W (w.heap.size + 1) #[.int .i64 i] 3 → Blk W (w.heap.size + 2) #[.int .i64 d] 3 → Calls Try.prog 42 #[mv m A, .func (.func 79) #[] #[.pointer (some ⟨w.heap.size + 1, 0, none⟩), .pointer (some ⟨w.heap.size + 2, 0, none⟩)]] W (fun e w' => ∃ wp mb pa pc, e = .returned (.pointer (some ⟨wp, 0, none⟩)) ∧ Opened w' wp m A pa pc mb ∧ Below W.heap.size W w' ∧ W.heap.size ≤ wp ∧ W.heap.size ≤ mb)) := fun W hb b1 b2 =>
    (m_open m A 79 #[.pointer (some ⟨w.heap.size + 1, 0, none⟩), .pointer (some ⟨w.heap.size + 2, 0, none⟩)] ((herdB m i && inB d 0 100)) W hl (hm.below hb) (fun args W => Try.call79 args W) (fun hv W' wp mb pa pc hw hb' => m_herdDayC _ _ i d W' hl hw (b1.below hb' b1.lt) (b2.below hb' b2.lt))).mono fun e w' h => open_ok h hv hi
  clear hl hm
  unfold mv mcells at *
  refine callsIn_wide.1 (callsIn_of_wp_marks (F := Fence.wide) (n := 0) Try.func23 rfl trivial (wpIn_wide.2 ?_) rfl)
  simp only [Try.ntmps23, List.size_toArray, List.length_cons, List.length_nil, Nat.reduceAdd, Nat.reduceSub, Array.replicate_succ, Array.replicate_zero, List.push_toArray, List.append_toArray, List.nil_append, List.cons_append]
  go_wp2_with (first
    | (go_at_call 42; refine at_stop ?_))
  unfold Stop
  obtain ⟨W5, hW5⟩ : ∃ W5, ((((w.alloc (.cells #[.slice A.pa m.places.length A.pc, .slice A.la m.legs.length A.lc, .slice A.ha m.herds.length A.hc, .slice A.sa m.seen.length A.sc] 27)).alloc (.cells #[.int .i64 i] 3)).alloc (.cells #[.int .i64 d] 3)).alloc (.cells #[.int .i64 0] 30)) = W5 := ⟨_, rfl⟩
  have hB5 : Below w.heap.size w W5 := by rw [← hW5]; (repeat (first | assumption | exact Below.refl _ _ | refine Below.drew ?_ | refine Below.alloc ?_ (by first | omega | (simp; done) | (simp; omega)) _ | refine Below.setCell ?_ (by first | omega | (simp; done) | (simp; omega)) _ | refine Below.trans ?_ (Below.mono (by assumption) (by first | omega | (simp; done) | (simp; omega)))))
  have b1 : Blk W5 (w.heap.size + 1) #[.int .i64 i] 3 := by rw [← hW5]; exact (((Blk.new' _ _ _ _ (by simp)).alloc _).alloc _)
  have b2 : Blk W5 (w.heap.size + 2) #[.int .i64 d] 3 := by rw [← hW5]; exact ((Blk.new' _ _ _ _ (by simp)).alloc _)
  have b4 : Blk W5 (w.heap.size + 3) #[.int .i64 0] 30 := by rw [← hW5]; exact Blk.new' _ _ _ _ (by simp)
  have hs5 : W5.heap.size = w.heap.size + 4 := by rw [← hW5]; simp
  rw [hW5]
  refine (HO.out W5 hB5 b1 b2).mono ?_
  rintro e w6 ⟨wp, mb, pa, pc, rfl, hO, hb6, hwp, hmb⟩
  have hs6 := hb6.size
  have hW6 : Way w6 mb m w6 := ⟨hO.kept, Lets.refl _ _⟩
  have HKn := Lib.hid (m_known_no hv hO w6 hW6 hk)
  go_wp2_with (first
    | (go_at_call 45; refine HKn.out.mono ?_; rintro e w7 ⟨rfl, hW7, hl7⟩))
  refine post_catch (v := .tuple #[.int .i64 0, .int .i64 10]) catch_Where (fun W => by simp [go_sem]) rfl (hl7.blk (b4.below hb6 b4.lt) (by omega)) fun w' hl hb => ⟨?_, rfl, ?_⟩
  · have r4 := hb.cell
    simp [results, Try.results23, go_sem, r4]
  · exact below_lets (below_lets (hB5.trans (hb6.mono (by omega))) hl7 (Nat.le_refl _) (fun _ _ _ => by omega)) hl (Nat.le_refl _) (fun _ _ _ => by omega)
set_option maxHeartbeats 40000000 in
set_option maxRecDepth 100000 in
theorem m_Clash_stop {m : Mb} {A : Ma} (w : World) (hl : Mlen m) (hm : MbAt w m A) (hk : validM m = false ∨ (true) = false) :
    Calls Try.prog 17 #[mv m A] w (Gives2 (.int .i64 0) (.int .i64 (knownP m (true))) w) := by
  have hmf := hmf_mob
  have HO : Hid (∀ W, Below w.heap.size w W → Calls Try.prog 42 #[mv m A, .func (.func 61) #[] #[]] W (Stops (knownP m (true)) W)) := fun W hb  =>
    (m_open m A 61 #[] (true) W hl (hm.below hb) (fun args W => Try.call61 args W) (fun hv W' wp mb pa pc hw hb' => (m_always _ W').mono fun e w' h => ⟨h.1, h.2 ▸ Below.refl _ _⟩)).mono fun e w' h => open_stop h hk
  generalize knownP m (true) = E at *
  clear hl hm hk
  unfold mv mcells at *
  refine callsIn_wide.1 (callsIn_of_wp_marks (F := Fence.wide) (n := 0) Try.func17 rfl trivial (wpIn_wide.2 ?_) rfl)
  simp only [Try.ntmps17, List.size_toArray, List.length_cons, List.length_nil, Nat.reduceAdd, Nat.reduceSub, Array.replicate_succ, Array.replicate_zero, List.push_toArray, List.append_toArray, List.nil_append, List.cons_append]
  go_wp2_with (first
    | (go_at_call 42; refine at_stop ?_))
  unfold Stop
  obtain ⟨W5, hW5⟩ : ∃ W5, ((w.alloc (.cells #[.slice A.pa m.places.length A.pc, .slice A.la m.legs.length A.lc, .slice A.ha m.herds.length A.hc, .slice A.sa m.seen.length A.sc] 27)).alloc (.cells #[.int .i64 0] 30)) = W5 := ⟨_, rfl⟩
  have hB5 : Below w.heap.size w W5 := by rw [← hW5]; (repeat (first | assumption | exact Below.refl _ _ | refine Below.drew ?_ | refine Below.alloc ?_ (by first | omega | (simp; done) | (simp; omega)) _ | refine Below.setCell ?_ (by first | omega | (simp; done) | (simp; omega)) _ | refine Below.trans ?_ (Below.mono (by assumption) (by first | omega | (simp; done) | (simp; omega)))))
  have b4 : Blk W5 (w.heap.size + 1) #[.int .i64 0] 30 := by rw [← hW5]; exact Blk.new' _ _ _ _ (by simp)
  have hs5 : W5.heap.size = w.heap.size + 2 := by rw [← hW5]; simp
  rw [hW5]
  refine (HO.out W5 hB5).mono ?_
  rintro e w6 ⟨rfl, hb6⟩
  refine post_catch (v := .tuple #[.int .i64 0, .int .i64 E]) catch_Clash (fun W => by simp [go_sem]) rfl (b4.below hb6 b4.lt) fun w' hl hb => ⟨?_, rfl, ?_⟩
  · have r4 := hb.cell
    simp [results, Try.results17, go_sem, r4]
  · exact below_lets (hB5.trans (hb6.mono (by omega))) hl (Nat.le_refl _) (fun _ _ _ => by omega)
end Go.Proofs.Yteeinehpneppnaa
/- Package mob: There, where there is a truth. -/
set_option linter.unusedVariables false
set_option linter.unusedSimpArgs false
namespace Go.Proofs.Yteeinehpneppnaa
open Go.RowKit Go.Proofs
attribute [local irreducible] Ord.walk
theorem or_pow6 : ∀ a < 64, ∀ i < 6, a < 2 ^ i → bits .or .i64 ((a : Nat) : Int) ((2 ^ i : Nat) : Int) = ((a + 2 ^ i : Nat) : Int) := by decide +kernel
/-- The set of the numbers of which something is so. -/
def setN (f : Nat → Bool) : Nat → Nat
  | 0 => 0
  | k + 1 => if f k = true then setN f k + 2 ^ k else setN f k
theorem setN_lt (f : Nat → Bool) : ∀ k, setN f k < 2 ^ k
  | 0 => by simp [setN]
  | k + 1 => by
    have ih := setN_lt f k
    simp only [setN]
    rw [Nat.pow_succ]
    split <;> omega
/-- When a mob comes to the shed. -/
def thereJ (m : Mb) (k : Nat) : Int × Int := joinL ((toldL m (everyN m)).map fun L => comeS m L k (shedN m))
set_option maxHeartbeats 4000000 in
set_option maxRecDepth 100000 in
theorem m_There3 {m : Mb} {A : Ma} {pa : Option Addr} {pc wp mb : Nat} {W0 : World} (hv : validM m = true) (hO : Opened W0 wp m A pa pc mb) {L : List Int} (hL : L ∈ prodL m.legs) (i : Nat) (hi : i < m.herds.length) (n0 n1 : Nat) (w : World) (hW : Way W0 mb m w)
    (b0 : Blk w n0 #[.pointer (some ⟨wp, 0, none⟩)] 80) (b1 : Blk w n1 #[.int .i64 (i : Int)] 3) :
    Calls Try.prog 57 #[.agg (legC L), .pointer (some ⟨n0, 0, none⟩), .pointer (some ⟨n1, 0, none⟩)] w (GivesW W0 mb m (spv (comeS m L i (shedN m))) w) := by
  have hmb := hO.mb_lt
  have hsz := hW.2.size
  obtain ⟨W2, hW2⟩ : ∃ W2, W2 = (w.alloc (.cells (legC L) 90)).alloc (.cells #[.int .i64 0, .int .i64 0] 39) := ⟨_, rfl⟩
  have hB2 : Below w.heap.size w W2 := by rw [hW2]; (repeat (first | assumption | exact Below.refl _ _ | refine Below.drew ?_ | refine Below.alloc ?_ (by first | omega | (simp; done) | (simp; omega)) _ | refine Below.setCell ?_ (by first | omega | (simp; done) | (simp; omega)) _ | refine Below.trans ?_ (Below.mono (by assumption) (by first | omega | (simp; done) | (simp; omega)))))
  have bl : Blk W2 w.heap.size (legC L) 90 := by rw [hW2]; exact (Blk.new _ _ _).alloc _
  have bs : Blk W2 (w.heap.size + 1) #[.int .i64 0, .int .i64 0] 39 := by rw [hW2]; exact Blk.new' _ _ _ _ (by simp)
  have hWy2 : Way W0 mb m W2 := hW.below hB2 hmb
  have HC := Lib.hid (m_shedW hv hO hL i hi W2 hWy2)
  have r0 := (b0.below hB2 b0.lt).cell
  have r1 := (b1.below hB2 b1.lt).cell
  have hL2 : Lets (fun k _ => k = mb) w W2 := Lets.of_below hB2
  generalize comeS m L i (shedN m) = cs at *
  obtain ⟨c1, c2⟩ := cs
  have hs2 : W2.heap.size = w.heap.size + 2 := by rw [hW2]; simp
  clear hv hL hi b0 b1
  go_enter Try.func57, Try.ntmps57
  go_upto_region 1 with fail
  rw [← hW2]
  clear hW2
  go_wp2_with (first
    | (refine wpList_load_blk 90 (.tmp 3) agg_legs rfl rfl rfl bl rfl ?_)
    | (go_at_call 48; refine HC.out.mono ?_; rintro e w6 ⟨rfl, hW6, hl6⟩; have b26 := hl6.blk bs (by omega))
    | (refine wpList_store_blk 39 (.tmp 4) (.tmp 8) agg_span rfl rfl rfl rfl b26 rfl rfl (by simp [Value.oneCell']) ?_; intro w8 h8))
  (try simp only [Exit.inBlock, Exit.then])
  have hl8 : Lets (fun k _ => k = w.heap.size + 1) w6 w8 := (Lets.refl _ _).rowed h8 rfl
  refine bodyPost_ret (v := spv (c1, c2)) (results_cell_blk rfl _ agg_span rfl h8.blk rfl) rfl ⟨rfl, hW6.lets hl8 hmb (fun _ _ e => by omega), (hL2.trans hl6).next hl8 (fun i hi hx => by omega)⟩
theorem there_hull {m : Mb} {A : Ma} {pa : Option Addr} {pc wp mb : Nat} {W0 : World} (hv : validM m = true) (hO : Opened W0 wp m A pa pc mb) (k : Nat) (hk : k < m.herds.length) (z7 t10 tb : Nat) (W : World) (hW : Way W0 mb m W) (hT : ToldAt W tb wp (everyN m)) (htb : W0.heap.size ≤ tb)
    (b7 : Blk W z7 #[.pointer (some ⟨wp, 0, none⟩)] 80) (b10 : Blk W t10 #[.int .i64 (k : Int)] 3) (h7 : z7 ≠ mb) (h10 : t10 ≠ mb) :
    Calls Try.prog 56 #[toldF tb, .agg #[.func (.func 57) #[] #[.pointer (some ⟨z7, 0, none⟩), .pointer (some ⟨t10, 0, none⟩)]]] W (GivesW W0 mb m (spv (thereJ m k)) W) := by
  have hE5 := everyN_lt hv
  have h7l := b7.lt
  have h10l := b10.lt
  exact m_hull hv hO (everyN m) (by omega) tb W hW hT htb 57 #[.pointer (some ⟨z7, 0, none⟩), .pointer (some ⟨t10, 0, none⟩)] (fun L => comeS m L k (shedN m))
    (fun W => Blk W z7 #[.pointer (some ⟨wp, 0, none⟩)] 80 ∧ Blk W t10 #[.int .i64 (k : Int)] 3) ⟨b7, b10⟩
    (fun X Y h hl => ⟨hl.blk h.1 (by omega), hl.blk h.2 (by omega)⟩)
    (fun args W => Try.call57 args W)
    (fun L hL W hw hc => m_There3 hv hO (List.mem_filter.1 hL).1 k hk _ _ W hw hc.1 hc.2)
end Go.Proofs.Yteeinehpneppnaa
/- Package mob: There. (Printed by mkMoU.py) -/
set_option linter.unusedVariables false
set_option linter.unusedSimpArgs false
namespace Go.Proofs.Yteeinehpneppnaa
open Go.RowKit Go.Proofs
attribute [local irreducible] Ord.walk
theorem wrap_pow (k : Nat) (h : k < 7) : wrap64 ((2 : Int) ^ k) = ((2 ^ k : Nat) : Int) := by
  rcases (show k = 0 ∨ k = 1 ∨ k = 2 ∨ k = 3 ∨ k = 4 ∨ k = 5 ∨ k = 6 by omega) with rfl | rfl | rfl | rfl | rfl | rfl | rfl <;> (unfold wrap64; decide)
def sureN (m : Mb) (d : Int) (k : Nat) : Nat := setN (fun i => decide ((thereJ m i).2 ≤ d)) k
def mayN (m : Mb) (d : Int) (k : Nat) : Nat := setN (fun i => decide ((thereJ m i).1 ≤ d)) k
set_option maxHeartbeats 40000000 in
set_option maxRecDepth 100000 in
theorem m_There_ok {m : Mb} {A : Ma} (d : Int) (w : World) (hl : Mlen m) (hm : MbAt w m A) (hv : validM m = true) (hi : (inB d 0 100) = true) (hk : knownM m = true) :
    Calls Try.prog 15 #[mv m A, .int .i64 d] w (Gives3 (.int .i64 (sureN m d m.herds.length : Nat)) (.int .i64 (mayN m d m.herds.length : Nat)) (.int .i64 0) w) := by
  have hh4 : m.herds.length ≤ 4 := (validM_len hv).2.2.2.1
  have hh4i : (m.herds.length : Int) ≤ 4 := by omega
  have hmf := hmf_mob
  have HO : Hid (∀ W, Below w.heap.size w W → Blk W (w.heap.size + 1) #[.int .i64 d] 3 → Calls Try.prog 42 #[mv m A, .func (.func 54) #[] #[.pointer (some ⟨w.heap.size + 1, 0, none⟩)]] W (fun e w' => ∃ wp mb pa pc, e = .returned (.pointer (some ⟨wp, 0, none⟩)) ∧ Opened w' wp m A pa pc mb ∧ Below W.heap.size W w' ∧ W.heap.size ≤ wp ∧ W.heap.size ≤ mb)) := fun W hb b1 =>
    (m_open m A 54 #[.pointer (some ⟨w.heap.size + 1, 0, none⟩)] (inB d 0 100) W hl (hm.below hb) (fun args W => Try.call54 args W) (fun hv W' wp mb pa pc hw hb' => m_dayC _ wp d W' (b1.below hb' b1.lt))).mono fun e w' h => open_ok h hv hi
  clear hl hm
  unfold mv mcells at *
  refine callsIn_wide.1 (callsIn_of_wp_marks (F := Fence.wide) (n := 0) Try.func15 rfl trivial (wpIn_wide.2 ?_) rfl)
  simp only [Try.ntmps15, List.size_toArray, List.length_cons, List.length_nil, Nat.reduceAdd, Nat.reduceSub, Array.replicate_succ, Array.replicate_zero, List.push_toArray, List.append_toArray, List.nil_append, List.cons_append]
  go_wp2_with (first
    | (go_at_call 42; refine at_stop ?_))
  unfold Stop
  obtain ⟨W5, hW5⟩ : ∃ W5, (((w.alloc (.cells #[.slice A.pa m.places.length A.pc, .slice A.la m.legs.length A.lc, .slice A.ha m.herds.length A.hc, .slice A.sa m.seen.length A.sc] 27)).alloc (.cells #[.int .i64 d] 3)).alloc (.cells #[.int .i64 0] 30)) = W5 := ⟨_, rfl⟩
  have hB5 : Below w.heap.size w W5 := by rw [← hW5]; (repeat (first | assumption | exact Below.refl _ _ | refine Below.drew ?_ | refine Below.alloc ?_ (by first | omega | (simp; done) | (simp; omega)) _ | refine Below.setCell ?_ (by first | omega | (simp; done) | (simp; omega)) _ | refine Below.trans ?_ (Below.mono (by assumption) (by first | omega | (simp; done) | (simp; omega)))))
  have b1 : Blk W5 (w.heap.size + 1) #[.int .i64 d] 3 := by rw [← hW5]; exact ((Blk.new' _ _ _ _ (by simp)).alloc _)
  have b4 : Blk W5 (w.heap.size + 2) #[.int .i64 0] 30 := by rw [← hW5]; exact Blk.new' _ _ _ _ (by simp)
  have bm : Blk W5 w.heap.size #[.slice A.pa m.places.length A.pc, .slice A.la m.legs.length A.lc, .slice A.ha m.herds.length A.hc, .slice A.sa m.seen.length A.sc] 27 := by rw [← hW5]; exact ((Blk.new _ _ _).alloc _).alloc _
  have hs5 : W5.heap.size = w.heap.size + 3 := by rw [← hW5]; simp
  rw [hW5]
  refine (HO.out W5 hB5 b1).mono ?_
  rintro e w6 ⟨wp, mb, pa, pc, rfl, hO, hb6, hwp, hmb⟩
  have hs6 := hb6.size
  have hmb6 := hO.mb_lt
  have hW6 : Way w6 mb m w6 := ⟨hO.kept, Lets.refl _ _⟩
  have HKn := Lib.hid (m_known_yes hv hO w6 hW6 hk)
  go_wp2_with (first
    | (go_at_call 45; refine HKn.out.mono ?_; rintro e w7 ⟨rfl, hW7, hl7⟩; refine at_stop ?_))
  unfold Stop
  have hs7 := hl7.size
  have bm7 := hl7.blk (bm.below hb6 bm.lt) (by omega)
  have rm := bm7.cell
  go_wp2_with fail
  obtain ⟨W8, hW8⟩ : ∃ W8, w7.alloc (.cells #[.pointer (some ⟨wp, 0, none⟩)] 80) = W8 := ⟨_, rfl⟩
  have hs8 : W8.heap.size = w7.heap.size + 1 := by rw [← hW8]; simp
  have hB8 : Below w7.heap.size w7 W8 := by rw [← hW8]; (repeat (first | assumption | exact Below.refl _ _ | refine Below.drew ?_ | refine Below.alloc ?_ (by first | omega | (simp; done) | (simp; omega)) _ | refine Below.setCell ?_ (by first | omega | (simp; done) | (simp; omega)) _ | refine Below.trans ?_ (Below.mono (by assumption) (by first | omega | (simp; done) | (simp; omega)))))
  have b8 : Blk W8 w7.heap.size #[.pointer (some ⟨wp, 0, none⟩)] 80 := by rw [← hW8]; exact Blk.new _ _ _
  have hWy8 := hW7.below hB8 hmb6
  have b18 := (hl7.blk (b1.below hb6 b1.lt) (by omega)).below hB8 (by omega)
  have b48 := (hl7.blk (b4.below hb6 b4.lt) (by omega)).below hB8 (by omega)
  have hBw : Below w.heap.size w W8 := below_lets (hB5.trans (hb6.mono (by omega))) (hl7.trans (Lets.of_below hB8)) (Nat.le_refl _) (fun _ _ _ => by omega)
  rw [hW8]
  generalize hz7 : w7.heap.size = z7 at *
  have hs8a : W8.heap.size ≤ z7 + 1 ∧ z7 + 1 ≤ W8.heap.size := by omega
  have hs5a : W5.heap.size ≤ w.heap.size + 3 ∧ w.heap.size + 3 ≤ W5.heap.size := by omega
  have hz7a : z7 ≤ w7.heap.size ∧ w7.heap.size ≤ z7 := by omega
  clear hW8 hi hk hs8 hs5 hz7 b1 b4 bm bm7 rm HO
  go_loopw [8, 9, 20] (fun a b x wr => ∃ k : Nat, k ≤ m.herds.length ∧ x = .int .i64 (k : Int) ∧ a = .int .i64 ((sureN m d k : Nat) : Int) ∧ b = .int .i64 ((mayN m d k : Nat) : Int) ∧ Way w6 mb m wr ∧ Lets (fun j _ => j = mb) W8 wr) (fun _ _ x _ => m.herds.length - (intOf x).toNat)
  case atStart => exact ⟨0, Nat.zero_le _, rfl, rfl, rfl, hWy8, Lets.refl _ _⟩
  case round =>
    obtain ⟨k, hk, rfl, rfl, rfl, hWr, hLr⟩ := hrel
    have hsr := hLr.size
    have b8r := hLr.blk b8 (by omega)
    have b18r := hLr.blk b18 (by omega)
    by_cases hlt : k < m.herds.length
    · have hlti : (k : Int) < m.herds.length := by omega
      have HH := Lib.hid (fun W tb hw hT htb b7 b10 => there_hull hv hO k hlt z7 wr.heap.size tb W hw hT htb b7 b10 (by omega) (by omega))
      have HS1 : Hid (sureN m d (k + 1) = if decide ((thereJ m k).2 ≤ d) = true then sureN m d k + 2 ^ k else sureN m d k) := rfl
      have HS2 : Hid (mayN m d (k + 1) = if decide ((thereJ m k).1 ≤ d) = true then mayN m d k + 2 ^ k else mayN m d k) := rfl
      have hl1 : sureN m d k < 2 ^ k := setN_lt _ k
      have hl2 : mayN m d k < 2 ^ k := setN_lt _ k
      generalize thereJ m k = J at *
      obtain ⟨j1, j2⟩ := J
      simp only at *
      obtain ⟨Wa, hWa⟩ : ∃ Wa, wr.alloc (.cells #[.int .i64 (k : Int)] 3) = Wa := ⟨_, rfl⟩
      have hBa : Below wr.heap.size wr Wa := by rw [← hWa]; (repeat (first | assumption | exact Below.refl _ _ | refine Below.drew ?_ | refine Below.alloc ?_ (by first | omega | (simp; done) | (simp; omega)) _ | refine Below.setCell ?_ (by first | omega | (simp; done) | (simp; omega)) _ | refine Below.trans ?_ (Below.mono (by assumption) (by first | omega | (simp; done) | (simp; omega)))))
      have hsa : Wa.heap.size = wr.heap.size + 1 := by rw [← hWa]; simp
      have b10 : Blk Wa wr.heap.size #[.int .i64 (k : Int)] 3 := by rw [← hWa]; exact Blk.new _ _ _
      have hWya := hWr.below hBa hmb6
      have b8a := b8r.below hBa b8r.lt
      have hLa : Lets (fun j _ => j = mb) W8 Wa := hLr.trans (Lets.of_below hBa)
      go_upto_region 7 with fail
      clear hWa
      have hsaa : Wa.heap.size ≤ wr.heap.size + 1 ∧ wr.heap.size + 1 ≤ Wa.heap.size := by omega
      clear hsa
      go_cut [11] from 23 to 29 (fun p wx => ∃ pb : Nat, p = .pointer (some ⟨pb, 0, none⟩) ∧ Blk wx pb #[.int .i64 j1, .int .i64 j2] 39 ∧ Blk wx wr.heap.size #[.int .i64 (k : Int)] 3 ∧ Way w6 mb m wx ∧ Lets (fun j _ => j = mb) W8 wx)
      case first =>
        have HE := Lib.hid (fun W hw => m_everyW hv hO W hw)
        have HT := Lib.hid (fun W => m_told wp (everyN m) W)
        generalize everyN m = E at *
        have hI := And.intro hWya.drew (And.intro b8a.drew b10.drew)
        have hIs := And.intro (hWya.below ((Below.refl Wa.heap.size Wa).alloc (Nat.le_refl _) (.cells #[.int .i64 0, .int .i64 0] 39)) hmb6).drew (And.intro (b8a.alloc (.cells #[.int .i64 0, .int .i64 0] 39)).drew (b10.alloc (.cells #[.int .i64 0, .int .i64 0] 39)).drew)
        refine Ord.wp_regionTN 4 (.fork2 [(0, 1), (1, 1), (2, 1), (4, 1), (5, 1)] 3 (.fork2 [] 6 (.leaf [(7, 2), (8, 2)]) 7 (.leaf [(6, 2), (8, 2)])) 7 (.leaf [(3, 2), (6, 2), (8, 2)])) (fun W => Way w6 mb m W ∧ Blk W z7 #[.pointer (some ⟨wp, 0, none⟩)] 80 ∧ Blk W wr.heap.size #[.int .i64 (k : Int)] 3) (by kernel_rfl) (by kernel_rfl) hI ?_
        go_wp2_with (first
          | ((with_reducible refine Ord.at_wild ?_); refine Ord.wild_load (ad := ⟨z7, 0, none⟩) (.pointer (some ⟨wp, 0, none⟩)) rfl rfl ?_ ?_; (focus (intro W hW; have r := hW.2.1.cell; simp [go_sem, r]; done)); intro K hK)
          | ((with_reducible refine Ord.at_wild ?_); refine Ord.walk_wild_as rfl (.func (.func 57) #[] #[.pointer (some ⟨z7, 0, none⟩), .pointer (some ⟨wr.heap.size, 0, none⟩)]) ?_ ?_; (focus (intro W hW; simp [go_sem, Ord.yields, Ord.yieldUpon, hmf]; done)); intro K hK)
          | ((with_reducible refine Ord.at_wild ?_); refine Ord.walk_wild_as rfl (.agg #[.func (.func 57) #[] #[.pointer (some ⟨z7, 0, none⟩), .pointer (some ⟨wr.heap.size, 0, none⟩)]]) ?_ ?_; (focus (intro W hW; simp [go_sem, Ord.yields, Ord.yieldUpon, ]; done)); intro K hK)
          | (go_at_call 46; refine (HT.out _).mono ?_; rintro e w9 ⟨rfl, hT9, hb9, hs9⟩; (try simp only [World.size_drew, World.size_alloc] at hT9); have hs9' := hb9.size; (try simp only [World.size_drew, World.size_alloc] at hs9'); clear hs9; have hW9 : Way w6 mb m w9 := (by first | exact hI.1.below hb9 hmb6 | exact hIs.1.below hb9 hmb6); have b79 : Blk w9 z7 _ _ := (by first | exact hI.2.1.below hb9 hI.2.1.lt | exact hIs.2.1.below hb9 hIs.2.1.lt); have b109 : Blk w9 wr.heap.size _ _ := (by first | exact hI.2.2.below hb9 hI.2.2.lt | exact hIs.2.2.below hb9 hIs.2.2.lt); have hL9 : Lets (fun j _ => j = mb) W8 w9 := (by first | exact hLa.trans (Lets.of_below hb9.undrew) | exact (hLa.alloc (.cells #[.int .i64 0, .int .i64 0] 39)).trans (Lets.of_below hb9.undrew)); have hI9 := And.intro hW9 (And.intro b79 b109); have hW9s := hW9.below ((Below.refl w9.heap.size w9).alloc (Nat.le_refl _) (.cells #[.int .i64 0, .int .i64 0] 39)) hmb6; have hT9s := hT9.lets ((Lets.refl (fun _ _ => False) w9).alloc (.cells #[.int .i64 0, .int .i64 0] 39)) (fun _ e => e) (fun _ e => e); have hI9s := And.intro hW9s (And.intro (b79.alloc (.cells #[.int .i64 0, .int .i64 0] 39)) (b109.alloc (.cells #[.int .i64 0, .int .i64 0] 39))))
          | (go_at_call 56; refine (HH.out _ _ (by first | exact hW9 | exact hW9s) (by first | exact hT9 | exact hT9s) (by omega) (by first | exact b79 | exact b79.alloc _) (by first | exact b109 | exact b109.alloc _)).mono ?_; rintro e wa ⟨rfl, hWa, hla⟩; have hsA := hla.size; (try simp only [World.size_drew, World.size_alloc] at hsA); have b7a := hla.blk (show Blk _ z7 #[.pointer (some ⟨wp, 0, none⟩)] 80 from by first | exact b79 | exact b79.alloc _) (by omega); have b10a := hla.blk (show Blk _ wr.heap.size #[.int .i64 (k : Int)] 3 from by first | exact b109 | exact b109.alloc _) (by omega); have hLA : Lets (fun j _ => j = mb) W8 wa := (by first | exact hL9.trans hla | exact (hL9.alloc (.cells #[.int .i64 0, .int .i64 0] 39)).trans hla); have hIa := And.intro hWa (And.intro b7a b10a); have hIas := And.intro (hWa.below ((Below.refl wa.heap.size wa).alloc (Nat.le_refl _) (.cells #[.int .i64 0, .int .i64 0] 39)) hmb6) (And.intro (b7a.alloc (.cells #[.int .i64 0, .int .i64 0] 39)) (b10a.alloc (.cells #[.int .i64 0, .int .i64 0] 39))))
          | (refine wpList_store_blk 39 (.tmp 11) (.tmp 29) agg_span rfl rfl rfl rfl (by first | exact Blk.new _ _ _ | exact hla.blk (Blk.new _ _ _) (by omega) | exact hla.blk ((Blk.new Wa _ _).drew.below hb9 (by simp)) (by omega)) rfl rfl (by simp [Value.oneCell']) ?_; intro wf hf; have b10f := hf.other (show Blk _ wr.heap.size #[.int .i64 (k : Int)] 3 from by first | exact b10a | exact b10a.alloc _) (by omega); have b7f := hf.other (show Blk _ z7 #[.pointer (some ⟨wp, 0, none⟩)] 80 from by first | exact b7a | exact b7a.alloc _) (by omega); have hLf : Lets (fun j _ => j = mb) W8 wf := (show Lets (fun j _ => j = mb) W8 _ from by first | exact hLA | exact hLA.alloc _).next (Y := fun j _ => Wa.heap.size ≤ j) ((Lets.refl _ _).rowed hf (by omega)) (fun j hj hx => by omega); have hWf : Way w6 mb m wf := (show Way w6 mb m _ from by first | exact hIa.1 | exact hIas.1).lets (X := fun j _ => Wa.heap.size ≤ j) ((Lets.refl _ _).rowed hf (by omega)) hmb6 (fun j _ e => by omega); have hIf := And.intro hWf (And.intro b7f b10f))
          | (refine Ord.next_of hIf (fun _ => ?_))
          | (with_reducible refine Ord.at_nm ?_)
          | with_reducible refine Ord.top_two ?_ | with_reducible refine Ord.top_three ?_ | with_reducible refine Ord.at_two ?_ ?_ | with_reducible refine Ord.at_three ?_ ?_ ?_ | with_reducible refine Ord.tree_leaf ?_ | with_reducible refine Ord.tree_two ?_ | ((with_reducible refine Ord.at_calm ?_); refine Ord.calm_skip rfl ?_ (fun K hK => ?_); (focus (simp [Region.wanted, yielded]; done))) | with_reducible refine Ord.walk_calm rfl rfl (fun K hK => ?_) | ((with_reducible refine Ord.at_wild ?_); refine Ord.wild_fieldAddr rfl rfl (fun W => by simp [go_sem]; rfl) (fun K hK => ?_)) | ((with_reducible refine Ord.at_wild ?_); refine Ord.wild_move rfl rfl (fun K hK => ?_)) | ((with_reducible refine Ord.at_wild ?_); refine Ord.wild_nilCheck rfl rfl (fun K hK => ?_)) | with_reducible refine Ord.walk_eff rfl (by first | (simp; done) | assumption | (go_simp; done) | (repeat (first | assumption | exact Below.refl _ _ | refine Below.drew ?_ | refine Below.alloc ?_ (by first | omega | (simp; done) | (simp; omega)) _ | refine Below.setCell ?_ (by first | omega | (simp; done) | (simp; omega)) _ | refine Below.trans ?_ (Below.mono (by assumption) (by first | omega | (simp; done) | (simp; omega)))))) (fun K hK => ?_) | with_reducible refine Ord.at_fork ?_ ?_ | with_reducible refine Ord.walk_nil ?_ | (with_reducible refine Ord.next_of (by first | (simp; done) | (go_simp; done) | (repeat (first | assumption | exact Below.refl _ _ | refine Below.drew ?_ | refine Below.alloc ?_ (by first | omega | (simp; done) | (simp; omega)) _ | refine Below.setCell ?_ (by first | omega | (simp; done) | (simp; omega)) _ | refine Below.trans ?_ (Below.mono (by assumption) (by first | omega | (simp; done) | (simp; omega)))))) (fun _ => ?_))
          | ((with_reducible refine Ord.at_wild ?_); refine Ord.wild_call rfl (fun W => Try.call47 _ W) (fun W hW => HE.out W hW.1) (fun K hK => ?_)))
        all_goals go_meet
        all_goals exact ⟨_, rfl, hf.blk, b10f, hWf, hLf⟩
      case rest =>
        obtain ⟨pb, rfl, bp, b10x, hWx, hLx⟩ := hcut
        have rp := bp.cell
        have r10 := b10x.cell
        have r1 := (hLx.blk b18 (by omega)).cell
        have hp16 : 2 ^ k ≤ 16 := by
          have : 2 ^ k ≤ 2 ^ 4 := Nat.pow_le_pow_right (by omega) (by omega)
          simpa using this
        have hor1 := or_pow6 (sureN m d k) (by omega) k (by omega) hl1
        have hor2 := or_pow6 (mayN m d k) (by omega) k (by omega) hl2
        have hwp2 := wrap_pow k (by omega)
        have HL := Lib.hid hLx
        have HWx := Lib.hid hWx
        clear HH bp b10x hl1 hl2 hLa hWya b8a b10 hLx hWx
        generalize sureN m d k = s1 at *
        generalize mayN m d k = s2 at *
        generalize hP : 2 ^ k = P at *
        have HP := Lib.hid hP
        clear hP
        by_cases c1 : j2 ≤ d <;> by_cases c2 : j1 ≤ d
        · rw [if_pos (by simpa using c1)] at HS1
          rw [if_pos (by simpa using c2)] at HS2
          go_wp2_with fail
          exact ⟨⟨k + 1, by omega, by go_num, by rw [HS1.out]; first | done | rw [Int.natCast_add], by rw [HS2.out]; first | done | rw [Int.natCast_add], HWx.out, HL.out⟩, by simp [intOf]; omega⟩
        · rw [if_pos (by simpa using c1)] at HS1
          rw [if_neg (by simpa using c2)] at HS2
          go_wp2_with fail
          exact ⟨⟨k + 1, by omega, by go_num, by rw [HS1.out]; first | done | rw [Int.natCast_add], by rw [HS2.out]; first | done | rw [Int.natCast_add], HWx.out, HL.out⟩, by simp [intOf]; omega⟩
        · rw [if_neg (by simpa using c1)] at HS1
          rw [if_pos (by simpa using c2)] at HS2
          go_wp2_with fail
          exact ⟨⟨k + 1, by omega, by go_num, by rw [HS1.out]; first | done | rw [Int.natCast_add], by rw [HS2.out]; first | done | rw [Int.natCast_add], HWx.out, HL.out⟩, by simp [intOf]; omega⟩
        · rw [if_neg (by simpa using c1)] at HS1
          rw [if_neg (by simpa using c2)] at HS2
          go_wp2_with fail
          exact ⟨⟨k + 1, by omega, by go_num, by rw [HS1.out]; first | done | rw [Int.natCast_add], by rw [HS2.out]; first | done | rw [Int.natCast_add], HWx.out, HL.out⟩, by simp [intOf]; omega⟩
    · have hlti : ¬ (k : Int) < (m.herds.length : Int) := by omega
      have e : k = m.herds.length := by omega
      subst e
      have b4r := hLr.blk b48 (by omega)
      have r4 := b4r.cell
      have f4 := b4r.free
      have l4 := b4r.lt
      generalize sureN m d m.herds.length = s1 at *
      generalize mayN m d m.herds.length = s2 at *
      go_wp2_with fail
      obtain ⟨Wf, hWf⟩ : ∃ Wf, wr.setCell ⟨w.heap.size + 2, 0, none⟩ (.int .i64 0) = Wf := ⟨_, rfl⟩
      have r4f := (by rw [← hWf]; exact b4r.set 0 _ : Blk Wf (w.heap.size + 2) #[.int .i64 0] 30).cell
      have hbf : Below w.heap.size w Wf := by rw [← hWf]; exact below_lets hBw (((hLr.mono (fun _ _ e => .inl e) : Lets (fun j _ => j = mb ∨ j = w.heap.size + 2) W8 wr)).setCell (p := ⟨w.heap.size + 2, 0, none⟩) (.inr rfl) (.int .i64 0)) (Nat.le_refl _) (fun _ _ _ => by omega)
      change bodyPostM Fence.wide 0 Try.prog _ _ .ret _ (wr.setCell ⟨w.heap.size + 2, 0, none⟩ (.int .i64 0))
      rw [hWf]
      refine post_out (v := .tuple #[.int .i64 ((s1 : Nat) : Int), .int .i64 ((s2 : Nat) : Int), .int .i64 0]) catch_There (fun W => by simp [go_sem]) rfl ?_ ⟨rfl, hbf⟩
      simp [results, Try.results15, go_sem, r4f]
def thereR (m : Mb) (d : Int) : Int × Int × Int := if knownP m (inB d 0 100) = 0 then (((sureN m d m.herds.length : Nat) : Int), ((mayN m d m.herds.length : Nat) : Int), 0) else (0, 0, knownP m (inB d 0 100))
theorem m_There {m : Mb} {A : Ma} (d : Int) (w : World) (hl : Mlen m) (hm : MbAt w m A) :
    Calls Try.prog 15 #[mv m A, .int .i64 d] w (Gives3 (.int .i64 (thereR m d).1) (.int .i64 (thereR m d).2.1) (.int .i64 (thereR m d).2.2) w) := by
  unfold thereR
  rcases knownP_cases m (inB d 0 100) with ⟨h1, h2⟩ | ⟨hv, hi, hk, h2⟩ | ⟨hv, hi, hk, h2⟩
  · rw [if_neg h2]; exact m_There_stop d w hl hm h1
  · rw [h2, if_neg (by simp)]; exact m_There_clash d w hl hm hv hi hk
  · rw [if_pos h2]; exact m_There_ok d w hl hm hv hi hk
end Go.Proofs.Yteeinehpneppnaa
