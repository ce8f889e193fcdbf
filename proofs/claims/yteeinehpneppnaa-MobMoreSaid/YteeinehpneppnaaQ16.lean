/- Parts of a proof: MoO, MoP. -/
import Derived.Test.YteeinehpneppnaaQ15
set_option linter.unusedVariables false
namespace Go.Ord
/-- An exit that is the plain one alone. -/
def Nm (Q : Exit → Act → World → Prop) : Exit → Act → World → Prop
  | .normal, a, w => Q .normal a w
  | _, _, _ => False
theorem at_nm {Q : Exit → Act → World → Prop} {a : Act} {w : World} (h : Q .normal a w) : Nm Q .normal a w := h
theorem wp_regionN {P : Program} {Q : Exit → Act → World → Prop} {id : Nat} {a : Act} {w : World} {lo : List Oper} (l : List (Nat × Nat)) (H : World → Prop) (hm : P.follows .mixedOrders = true) (hp : planOk lo.toArray l = true)
    (hH : H w.drew) (h : walk P lo.toArray H (Nm Q) l a w.drew) : (Code.region id lo.toArray true).wp P Q a w := by
  refine wp_mono (wp_region (Q := Nm Q) l H hm hp (fun c a d v w h => h.elim) hH h) ?_
  intro e a w h
  cases e <;> first | exact h | exact h.elim
theorem wp_regionTN {P : Program} {Q : Exit → Act → World → Prop} {id : Nat} {a : Act} {w : World} {lo : List Oper} (F : Nat) (t : Pl) (H : World → Prop) (hm : P.follows .mixedOrders = true) (hp : planOkT F lo.toArray t = true)
    (hH : H w.drew) (h : walkT P lo.toArray H (Nm Q) t a w.drew) : (Code.region id lo.toArray true).wp P Q a w := by
  refine wp_mono (wp_regionT (Q := Nm Q) F t H hm hp (fun c a d v w h => h.elim) hH h) ?_
  intro e a w h
  cases e <;> first | exact h | exact h.elim
end Go.Ord
set_option linter.unusedVariables false
set_option linter.unusedSimpArgs false
namespace Go.Proofs.Yteeinehpneppnaa
open Go.RowKit Go.Proofs
attribute [local irreducible] Ord.walk
def comesR (m : Mb) (i p : Int) : (Int × Int) × Int := if knownP m (fromB m i p) = 0 then (joinL ((toldL m (everyN m)).map fun L => comeS m L i.toNat p.toNat), 0) else ((0, 0), knownP m (fromB m i p))
theorem open_stop {m : Mb} {A : Ma} {isB : Bool} {w w' : World} {e : Ending} (h : OpenPost m isB A w e w') (hk : validM m = false ∨ isB = false) : Stops (knownP m isB) w e w' := by
  unfold OpenPost at h
  unfold knownP
  cases hv : validM m
  · rw [hv, if_pos rfl] at h; rw [if_pos rfl]; exact h
  · rw [hv] at hk h
    have hb : isB = false := by simpa using hk
    rw [if_neg (by simp), if_pos hb] at h
    rw [if_neg (by simp), if_pos hb]; exact h
theorem open_ok {m : Mb} {A : Ma} {isB : Bool} {w w' : World} {e : Ending} (h : OpenPost m isB A w e w') (hv : validM m = true) (hb : isB = true) : ∃ wp mb pa pc, e = .returned (.pointer (some ⟨wp, 0, none⟩)) ∧ Opened w' wp m A pa pc mb ∧ Below w.heap.size w w' ∧ w.heap.size ≤ wp ∧ w.heap.size ≤ mb := by
  unfold OpenPost at h
  rwa [if_neg (by rw [hv]; simp), if_neg (by rw [hb]; simp)] at h
theorem hmf_mob : ∀ (fn : Fn) (first cap : Array Value) (w : World), (Instr.makeFunc fn first cap).run Try.prog w = .ok (.func fn first cap) w := fun _ _ _ _ => rfl
set_option maxHeartbeats 4000000 in
set_option maxRecDepth 100000 in
theorem m_Comes3 {m : Mb} {A : Ma} {pa : Option Addr} {pc wp mb : Nat} {W0 : World} (hv : validM m = true) (hO : Opened W0 wp m A pa pc mb) {L : List Int} (hL : L ∈ prodL m.legs) (i p : Nat) (hi : i < m.herds.length) (hp : startN m i ≤ p) (hpn : p < m.places.length) (n0 n1 n2 : Nat) (w : World) (hW : Way W0 mb m w)
    (b0 : Blk w n0 #[.pointer (some ⟨wp, 0, none⟩)] 80) (b1 : Blk w n1 #[.int .i64 (i : Int)] 3) (b2 : Blk w n2 #[.int .i64 (p : Int)] 3) :
    Calls Try.prog 76 #[.agg (legC L), .pointer (some ⟨n0, 0, none⟩), .pointer (some ⟨n1, 0, none⟩), .pointer (some ⟨n2, 0, none⟩)] w (GivesW W0 mb m (spv (comeS m L i p)) w) := by
  have hmb := hO.mb_lt
  have hsz := hW.2.size
  obtain ⟨W2, hW2⟩ : ∃ W2, W2 = (w.alloc (.cells (legC L) 90)).alloc (.cells #[.int .i64 0, .int .i64 0] 39) := ⟨_, rfl⟩
  have hB2 : Below w.heap.size w W2 := by rw [hW2]; (repeat (first | assumption | exact Below.refl _ _ | refine Below.drew ?_ | refine Below.alloc ?_ (by first | omega | (simp; done) | (simp; omega)) _ | refine Below.setCell ?_ (by first | omega | (simp; done) | (simp; omega)) _ | refine Below.trans ?_ (Below.mono (by assumption) (by first | omega | (simp; done) | (simp; omega)))))
  have bl : Blk W2 w.heap.size (legC L) 90 := by rw [hW2]; exact (Blk.new _ _ _).alloc _
  have bs : Blk W2 (w.heap.size + 1) #[.int .i64 0, .int .i64 0] 39 := by rw [hW2]; exact Blk.new' _ _ _ _ (by simp)
  have hWy2 : Way W0 mb m W2 := hW.below hB2 hmb
  have HC := Lib.hid (m_comesW hv hO hL i p hi hp hpn W2 hWy2)
  have r0 := (b0.below hB2 b0.lt).cell
  have r1 := (b1.below hB2 b1.lt).cell
  have r2 := (b2.below hB2 b2.lt).cell
  have hL2 : Lets (fun k _ => k = mb) w W2 := Lets.of_below hB2
  generalize comeS m L i p = cs at *
  obtain ⟨c1, c2⟩ := cs
  have rl := bl.cell
  have hs2 : W2.heap.size = w.heap.size + 2 := by rw [hW2]; simp
  clear hv hL hi hp hpn b0 b1 b2
  go_enter Try.func76, Try.ntmps76
  go_upto_region 1 with fail
  rw [← hW2]
  clear hW2
  go_wp2_with (first
    | (refine wpList_load_blk 90 (.tmp 4) agg_legs rfl rfl rfl bl rfl ?_)
    | (go_at_call 77; refine HC.out.mono ?_; rintro e w6 ⟨rfl, hW6, hl6⟩; have b26 := hl6.blk bs (by omega))
    | (refine wpList_store_blk 39 (.tmp 5) (.tmp 10) agg_span rfl rfl rfl rfl b26 rfl rfl (by simp [Value.oneCell']) ?_; intro w8 h8))
  (try simp only [Exit.inBlock, Exit.then])
  have hl8 : Lets (fun k _ => k = w.heap.size + 1) w6 w8 := (Lets.refl _ _).rowed h8 rfl
  refine bodyPost_ret (v := spv (c1, c2)) (results_cell_blk rfl _ agg_span rfl h8.blk rfl) rfl ⟨rfl, hW6.lets hl8 hmb (fun _ _ e => by omega), (hL2.trans hl6).next hl8 (fun i hi hx => by omega)⟩
set_option maxHeartbeats 40000000 in
set_option maxRecDepth 100000 in
theorem m_Comes_stop {m : Mb} {A : Ma} (i p : Int) (w : World) (hl : Mlen m) (hm : MbAt w m A) (hk : validM m = false ∨ fromB m i p = false) :
    Calls Try.prog 22 #[mv m A, .int .i64 i, .int .i64 p] w (Gives2 (spv (0, 0)) (.int .i64 (knownP m (fromB m i p))) w) := by
  have hmf := hmf_mob
  have HO : Hid (∀ W, Below w.heap.size w W → Blk W (w.heap.size + 1) #[.int .i64 i] 3 → Blk W (w.heap.size + 2) #[.int .i64 p] 3 → Calls Try.prog 42 #[mv m A, .func (.func 74) #[] #[.pointer (some ⟨w.heap.size + 1, 0, none⟩), .pointer (some ⟨w.heap.size + 2, 0, none⟩)]] W (Stops (knownP m (fromB m i p)) W)) := fun W hb b1 b2 =>
    (m_open m A 74 #[.pointer (some ⟨w.heap.size + 1, 0, none⟩), .pointer (some ⟨w.heap.size + 2, 0, none⟩)] (fromB m i p) W hl (hm.below hb) (fun args W => Try.call74 args W) (fun hv W' wp mb pa pc hw hb' => m_isFromC _ _ i p W' hl hv hw (b1.below hb' b1.lt) (b2.below hb' b2.lt))).mono fun e w' h => open_stop h hk
  generalize knownP m (fromB m i p) = E at *
  clear hl hm hk
  unfold mv mcells at *
  refine callsIn_wide.1 (callsIn_of_wp_marks (F := Fence.wide) (n := 0) Try.func22 rfl trivial (wpIn_wide.2 ?_) rfl)
  simp only [Try.ntmps22, List.size_toArray, List.length_cons, List.length_nil, Nat.reduceAdd, Nat.reduceSub, Array.replicate_succ, Array.replicate_zero, List.push_toArray, List.append_toArray, List.nil_append, List.cons_append]
  go_wp2_with (first
    | (go_at_call 42; refine at_stop ?_))
  unfold Stop
  obtain ⟨W5, hW5⟩ : ∃ W5, ((((w.alloc (.cells #[.slice A.pa m.places.length A.pc, .slice A.la m.legs.length A.lc, .slice A.ha m.herds.length A.hc, .slice A.sa m.seen.length A.sc] 27)).alloc (.cells #[.int .i64 i] 3)).alloc (.cells #[.int .i64 p] 3)).alloc (.cells #[.int .i64 0, .int .i64 0] 39)).alloc (.cells #[.int .i64 0] 30) = W5 := ⟨_, rfl⟩
  have hB5 : Below w.heap.size w W5 := by rw [← hW5]; (repeat (first | assumption | exact Below.refl _ _ | refine Below.drew ?_ | refine Below.alloc ?_ (by first | omega | (simp; done) | (simp; omega)) _ | refine Below.setCell ?_ (by first | omega | (simp; done) | (simp; omega)) _ | refine Below.trans ?_ (Below.mono (by assumption) (by first | omega | (simp; done) | (simp; omega)))))
  have b1 : Blk W5 (w.heap.size + 1) #[.int .i64 i] 3 := by rw [← hW5]; exact (((Blk.new' _ _ _ _ (by simp)).alloc _).alloc _).alloc _
  have b2 : Blk W5 (w.heap.size + 2) #[.int .i64 p] 3 := by rw [← hW5]; exact ((Blk.new' _ _ _ _ (by simp)).alloc _).alloc _
  have b3 : Blk W5 (w.heap.size + 3) #[.int .i64 0, .int .i64 0] 39 := by rw [← hW5]; exact (Blk.new' _ _ _ _ (by simp)).alloc _
  have b4 : Blk W5 (w.heap.size + 4) #[.int .i64 0] 30 := by rw [← hW5]; exact Blk.new' _ _ _ _ (by simp)
  have hs5 : W5.heap.size = w.heap.size + 5 := by rw [← hW5]; simp
  rw [hW5]
  refine (HO.out W5 hB5 b1 b2).mono ?_
  rintro e w6 ⟨rfl, hb6⟩
  refine post_catch (v := .tuple #[spv (0, 0), .int .i64 E]) catch_Comes (fun W => by simp [go_sem]) rfl (b4.below hb6 b4.lt) fun w' hl hb => ⟨?_, rfl, ?_⟩
  · have r3 := (hl.blk (b3.below hb6 b3.lt) (by omega)).cell
    have r4 := hb.cell
    simp [results, Try.results22, go_sem, r3, r4]
  · exact below_lets (hB5.trans (hb6.mono (by omega))) hl (Nat.le_refl _) (fun _ _ _ => by omega)
set_option maxHeartbeats 40000000 in
set_option maxRecDepth 100000 in
theorem m_Comes_clash {m : Mb} {A : Ma} (i p : Int) (w : World) (hl : Mlen m) (hm : MbAt w m A) (hv : validM m = true) (hi : fromB m i p = true) (hk : knownM m = false) :
    Calls Try.prog 22 #[mv m A, .int .i64 i, .int .i64 p] w (Gives2 (spv (0, 0)) (.int .i64 10) w) := by
  have hmf := hmf_mob
  have HO : Hid (∀ W, Below w.heap.size w W → Blk W (w.heap.size + 1) #[.int .i64 i] 3 → Blk W (w.heap.size + 2) #[.int .i64 p] 3 → Calls Try.prog 42 #[mv m A, .func (.func 74) #[] #[.pointer (some ⟨w.heap.size + 1, 0, none⟩), .pointer (some ⟨w.heap.size + 2, 0, none⟩)]] W (fun e w' => ∃ wp mb pa pc, e = .returned (.pointer (some ⟨wp, 0, none⟩)) ∧ Opened w' wp m A pa pc mb ∧ Below W.heap.size W w' ∧ W.heap.size ≤ wp ∧ W.heap.size ≤ mb)) := fun W hb b1 b2 =>
    (m_open m A 74 #[.pointer (some ⟨w.heap.size + 1, 0, none⟩), .pointer (some ⟨w.heap.size + 2, 0, none⟩)] (fromB m i p) W hl (hm.below hb) (fun args W => Try.call74 args W) (fun hv W' wp mb pa pc hw hb' => m_isFromC _ _ i p W' hl hv hw (b1.below hb' b1.lt) (b2.below hb' b2.lt))).mono fun e w' h => open_ok h hv hi
  clear hl hm
  unfold mv mcells at *
  refine callsIn_wide.1 (callsIn_of_wp_marks (F := Fence.wide) (n := 0) Try.func22 rfl trivial (wpIn_wide.2 ?_) rfl)
  simp only [Try.ntmps22, List.size_toArray, List.length_cons, List.length_nil, Nat.reduceAdd, Nat.reduceSub, Array.replicate_succ, Array.replicate_zero, List.push_toArray, List.append_toArray, List.nil_append, List.cons_append]
  go_wp2_with (first
    | (go_at_call 42; refine at_stop ?_))
  unfold Stop
  obtain ⟨W5, hW5⟩ : ∃ W5, ((((w.alloc (.cells #[.slice A.pa m.places.length A.pc, .slice A.la m.legs.length A.lc, .slice A.ha m.herds.length A.hc, .slice A.sa m.seen.length A.sc] 27)).alloc (.cells #[.int .i64 i] 3)).alloc (.cells #[.int .i64 p] 3)).alloc (.cells #[.int .i64 0, .int .i64 0] 39)).alloc (.cells #[.int .i64 0] 30) = W5 := ⟨_, rfl⟩
  have hB5 : Below w.heap.size w W5 := by rw [← hW5]; (repeat (first | assumption | exact Below.refl _ _ | refine Below.drew ?_ | refine Below.alloc ?_ (by first | omega | (simp; done) | (simp; omega)) _ | refine Below.setCell ?_ (by first | omega | (simp; done) | (simp; omega)) _ | refine Below.trans ?_ (Below.mono (by assumption) (by first | omega | (simp; done) | (simp; omega)))))
  have b1 : Blk W5 (w.heap.size + 1) #[.int .i64 i] 3 := by rw [← hW5]; exact (((Blk.new' _ _ _ _ (by simp)).alloc _).alloc _).alloc _
  have b2 : Blk W5 (w.heap.size + 2) #[.int .i64 p] 3 := by rw [← hW5]; exact ((Blk.new' _ _ _ _ (by simp)).alloc _).alloc _
  have b3 : Blk W5 (w.heap.size + 3) #[.int .i64 0, .int .i64 0] 39 := by rw [← hW5]; exact (Blk.new' _ _ _ _ (by simp)).alloc _
  have b4 : Blk W5 (w.heap.size + 4) #[.int .i64 0] 30 := by rw [← hW5]; exact Blk.new' _ _ _ _ (by simp)
  have hs5 : W5.heap.size = w.heap.size + 5 := by rw [← hW5]; simp
  rw [hW5]
  refine (HO.out W5 hB5 b1 b2).mono ?_
  rintro e w6 ⟨wp, mb, pa, pc, rfl, hO, hb6, hwp, hmb⟩
  have hs6 := hb6.size
  have hW6 : Way w6 mb m w6 := ⟨hO.kept, Lets.refl _ _⟩
  have HKn := Lib.hid (m_known_no hv hO w6 hW6 hk)
  go_wp2_with (first
    | (go_at_call 45; refine HKn.out.mono ?_; rintro e w7 ⟨rfl, hW7, hl7⟩))
  refine post_catch (v := .tuple #[spv (0, 0), .int .i64 10]) catch_Comes (fun W => by simp [go_sem]) rfl (hl7.blk (b4.below hb6 b4.lt) (by omega)) fun w' hl hb => ⟨?_, rfl, ?_⟩
  · have r3 := (hl.blk (hl7.blk (b3.below hb6 b3.lt) (by omega)) (by omega)).cell
    have r4 := hb.cell
    simp [results, Try.results22, go_sem, r3, r4]
  · exact below_lets (below_lets (hB5.trans (hb6.mono (by omega))) hl7 (Nat.le_refl _) (fun _ _ _ => by omega)) hl (Nat.le_refl _) (fun _ _ _ => by omega)
set_option maxHeartbeats 40000000 in
set_option maxRecDepth 100000 in
theorem m_Comes_ok {m : Mb} {A : Ma} (i p : Nat) (w : World) (hl : Mlen m) (hm : MbAt w m A) (hv : validM m = true) (hi : fromB m i p = true) (hk : knownM m = true) :
    Calls Try.prog 22 #[mv m A, .int .i64 (i : Int), .int .i64 (p : Int)] w (Gives2 (spv (joinL ((toldL m (everyN m)).map fun L => comeS m L i p))) (.int .i64 0) w) := by
  have hmf := hmf_mob
  have HO : Hid (∀ W, Below w.heap.size w W → Blk W (w.heap.size + 1) #[.int .i64 (i : Int)] 3 → Blk W (w.heap.size + 2) #[.int .i64 (p : Int)] 3 → Calls Try.prog 42 #[mv m A, .func (.func 74) #[] #[.pointer (some ⟨w.heap.size + 1, 0, none⟩), .pointer (some ⟨w.heap.size + 2, 0, none⟩)]] W (fun e w' => ∃ wp mb pa pc, e = .returned (.pointer (some ⟨wp, 0, none⟩)) ∧ Opened w' wp m A pa pc mb ∧ Below W.heap.size W w' ∧ W.heap.size ≤ wp ∧ W.heap.size ≤ mb)) := fun W hb b1 b2 =>
    (m_open m A 74 #[.pointer (some ⟨w.heap.size + 1, 0, none⟩), .pointer (some ⟨w.heap.size + 2, 0, none⟩)] (fromB m i p) W hl (hm.below hb) (fun args W => Try.call74 args W) (fun hv W' wp mb pa pc hw hb' => m_isFromC _ _ i p W' hl hv hw (b1.below hb' b1.lt) (b2.below hb' b2.lt))).mono fun e w' h => open_ok h hv hi
  clear hl hm
  unfold mv mcells at *
  refine callsIn_wide.1 (callsIn_of_wp_marks (F := Fence.wide) (n := 0) Try.func22 rfl trivial (wpIn_wide.2 ?_) rfl)
  simp only [Try.ntmps22, List.size_toArray, List.length_cons, List.length_nil, Nat.reduceAdd, Nat.reduceSub, Array.replicate_succ, Array.replicate_zero, List.push_toArray, List.append_toArray, List.nil_append, List.cons_append]
  go_wp2_with (first
    | (go_at_call 42; refine at_stop ?_))
  unfold Stop
  obtain ⟨W5, hW5⟩ : ∃ W5, ((((w.alloc (.cells #[.slice A.pa m.places.length A.pc, .slice A.la m.legs.length A.lc, .slice A.ha m.herds.length A.hc, .slice A.sa m.seen.length A.sc] 27)).alloc (.cells #[.int .i64 (i : Int)] 3)).alloc (.cells #[.int .i64 (p : Int)] 3)).alloc (.cells #[.int .i64 0, .int .i64 0] 39)).alloc (.cells #[.int .i64 0] 30) = W5 := ⟨_, rfl⟩
  have hB5 : Below w.heap.size w W5 := by rw [← hW5]; (repeat (first | assumption | exact Below.refl _ _ | refine Below.drew ?_ | refine Below.alloc ?_ (by first | omega | (simp; done) | (simp; omega)) _ | refine Below.setCell ?_ (by first | omega | (simp; done) | (simp; omega)) _ | refine Below.trans ?_ (Below.mono (by assumption) (by first | omega | (simp; done) | (simp; omega)))))
  have b1 : Blk W5 (w.heap.size + 1) #[.int .i64 (i : Int)] 3 := by rw [← hW5]; exact (((Blk.new' _ _ _ _ (by simp)).alloc _).alloc _).alloc _
  have b2 : Blk W5 (w.heap.size + 2) #[.int .i64 (p : Int)] 3 := by rw [← hW5]; exact ((Blk.new' _ _ _ _ (by simp)).alloc _).alloc _
  have b3 : Blk W5 (w.heap.size + 3) #[.int .i64 0, .int .i64 0] 39 := by rw [← hW5]; exact (Blk.new' _ _ _ _ (by simp)).alloc _
  have b4 : Blk W5 (w.heap.size + 4) #[.int .i64 0] 30 := by rw [← hW5]; exact Blk.new' _ _ _ _ (by simp)
  have hs5 : W5.heap.size = w.heap.size + 5 := by rw [← hW5]; simp
  rw [hW5]
  refine (HO.out W5 hB5 b1 b2).mono ?_
  rintro e w6 ⟨wp, mb, pa, pc, rfl, hO, hb6, hwp, hmb⟩
  have hs6 := hb6.size
  have hW6 : Way w6 mb m w6 := ⟨hO.kept, Lets.refl _ _⟩
  have HKn := Lib.hid (m_known_yes hv hO w6 hW6 hk)
  have hmb6 := hO.mb_lt
  go_wp2_with (first
    | (go_at_call 45; refine HKn.out.mono ?_; rintro e w7 ⟨rfl, hW7, hl7⟩))
  obtain ⟨W8, hW8⟩ : ∃ W8, w7.alloc (.cells #[.pointer (some ⟨wp, 0, none⟩)] 80) = W8 := ⟨_, rfl⟩
  have hs7 := hl7.size
  have hs8 : W8.heap.size = w7.heap.size + 1 := by rw [← hW8]; simp
  have hB8 : Below w7.heap.size w7 W8 := by rw [← hW8]; (repeat (first | assumption | exact Below.refl _ _ | refine Below.drew ?_ | refine Below.alloc ?_ (by first | omega | (simp; done) | (simp; omega)) _ | refine Below.setCell ?_ (by first | omega | (simp; done) | (simp; omega)) _ | refine Below.trans ?_ (Below.mono (by assumption) (by first | omega | (simp; done) | (simp; omega)))))
  have b8 : Blk W8 w7.heap.size #[.pointer (some ⟨wp, 0, none⟩)] 80 := by rw [← hW8]; exact Blk.new _ _ _
  have hWy8 := hW7.below hB8 hmb6
  have hfb : herdB m (i : Int) = true ∧ startN m i ≤ p ∧ p < m.places.length := by
    unfold fromB at hi
    simp only [Bool.and_eq_true, decide_eq_true_eq] at hi
    have h2 := inB_of hi.2.1
    have h3 := hi.2.2
    refine ⟨hi.1, ?_, by omega⟩
    unfold startN; omega
  have hih : i < m.herds.length := by have := inB_of hfb.1; omega
  have hE5 := everyN_lt hv
  have b18 := (hl7.blk (b1.below hb6 b1.lt) (by omega)).below hB8 (by omega)
  have b28 := (hl7.blk (b2.below hb6 b2.lt) (by omega)).below hB8 (by omega)
  have b38 := (hl7.blk (b3.below hb6 b3.lt) (by omega)).below hB8 (by omega)
  have b48 := (hl7.blk (b4.below hb6 b4.lt) (by omega)).below hB8 (by omega)
  have HE := Lib.hid (m_everyW hv hO W8.drew hWy8.drew)
  have HT := Lib.hid (fun W => m_told wp (everyN m) W)
  have HH : Hid (∀ w9, Below W8.drew.heap.size W8.drew w9 → w9.heap.size = W8.heap.size + 2 → ToldAt w9 W8.heap.size wp (everyN m) → Calls Try.prog 56 #[toldF W8.heap.size, .agg #[.func (.func 76) #[] #[.pointer (some ⟨w7.heap.size, 0, none⟩), .pointer (some ⟨w.heap.size + 1, 0, none⟩), .pointer (some ⟨w.heap.size + 2, 0, none⟩)]]] w9 (GivesW w6 mb m (spv (joinL ((toldL m (everyN m)).map fun L => comeS m L i p))) w9)) := fun w9 hb9 hs9 hT9 => by
    refine m_hull hv hO (everyN m) (by omega) W8.heap.size w9 (hWy8.drew.below hb9 hmb6) hT9 (by omega) 76 _ (fun L => comeS m L i p)
      (fun W => Blk W w7.heap.size #[.pointer (some ⟨wp, 0, none⟩)] 80 ∧ Blk W (w.heap.size + 1) #[.int .i64 (i : Int)] 3 ∧ Blk W (w.heap.size + 2) #[.int .i64 (p : Int)] 3)
      ⟨b8.drew.below hb9 (by simp; omega), b18.drew.below hb9 (by simp; omega), b28.drew.below hb9 (by simp; omega)⟩
      (fun X Y h hl => ⟨hl.blk h.1 (by omega), hl.blk h.2.1 (by omega), hl.blk h.2.2 (by omega)⟩)
      (fun args W => Try.call76 args W)
      (fun L hL W hw hc => m_Comes3 hv hO (List.mem_filter.1 hL).1 i p hih hfb.2.1 hfb.2.2 _ _ _ W hw hc.1 hc.2.1 hc.2.2)
  have r8 := b8.cell
  have hBw : Lets (fun k _ => w.heap.size ≤ k) w W8 := ((Lets.of_below (hB5.trans (hb6.mono (by omega))) : Lets (fun k _ => w.heap.size ≤ k) w w6).trans (hl7.mono fun _ _ e => by omega)).trans (Lets.of_below hB8)
  rw [hW8]
  clear hW8 hi hk hfb b18 b28 b1 b2 b3 b4
  generalize hJ : (joinL ((toldL m (everyN m)).map fun L => comeS m L i p)) = J at *
  have HJ := Lib.hid hJ
  clear hJ
  generalize hEv : everyN m = E at *
  have HEv := Lib.hid hEv
  clear hEv
  obtain ⟨j1, j2⟩ := J
  have hs8a : W8.heap.size ≤ w7.heap.size + 1 ∧ w7.heap.size + 1 ≤ W8.heap.size := by omega
  have hs5a : W5.heap.size ≤ w.heap.size + 5 ∧ w.heap.size + 5 ≤ W5.heap.size := by omega
  clear hs8 hs5
  refine Ord.wp_regionN [(0, 0), (1, 0), (2, 0), (4, 1), (5, 1), (3, 2), (6, 2), (7, 2), (8, 2)] (fun _ => True) (by kernel_rfl) (by kernel_rfl) trivial ?_
  go_wp2_with (first
    | (go_at_call 46; refine (HT.out _).mono ?_; rintro e w9 ⟨rfl, hT9, hb9, hs9⟩; have hHH := Lib.hid (HH.out w9 hb9 hs9 hT9); clear hs9)
    | (go_at_call 56; refine hHH.out.mono ?_; rintro e wa ⟨rfl, hWa, hla⟩; have b3a := hla.blk (b38.drew.below hb9 b38.lt) (by omega); have b4a := hla.blk (b48.drew.below hb9 b48.lt) (by omega))
    | (refine wpList_store_blk 39 (.tmp 6) (.tmp 20) agg_span rfl rfl rfl rfl b3a rfl rfl (by simp [Value.oneCell']) ?_; intro wc hc; have b4c := hc.other b4a (by omega); have r4c := b4c.cell; have f4c := b4c.free; have l4c := b4c.lt)
    | ((with_reducible refine Ord.at_wild ?_); refine Ord.walk_wild_as rfl (.func (.func 76) #[] #[.pointer (some ⟨w7.heap.size, 0, none⟩), .pointer (some ⟨w.heap.size + 1, 0, none⟩), .pointer (some ⟨w.heap.size + 2, 0, none⟩)]) ?_ ?_; (focus (intro W hW; simp [go_sem, Ord.yields, Ord.yieldUpon, hmf]; done)); intro K hK)
    | ((with_reducible refine Ord.at_wild ?_); refine Ord.walk_wild_as rfl (.agg #[.func (.func 76) #[] #[.pointer (some ⟨w7.heap.size, 0, none⟩), .pointer (some ⟨w.heap.size + 1, 0, none⟩), .pointer (some ⟨w.heap.size + 2, 0, none⟩)]]) ?_ ?_; (focus (intro W hW; simp [go_sem, Ord.yields, Ord.yieldUpon, ]; done)); intro K hK)
    | (with_reducible refine Ord.at_nm ?_)
    | ((with_reducible refine Ord.at_calm ?_); refine Ord.calm_skip rfl ?_ (fun K hK => ?_); (focus (simp [Region.wanted, yielded]; done))) | with_reducible refine Ord.walk_calm rfl rfl (fun K hK => ?_) | ((with_reducible refine Ord.at_wild ?_); refine Ord.wild_fieldAddr rfl rfl (fun W => by simp [go_sem]; rfl) (fun K hK => ?_)) | ((with_reducible refine Ord.at_wild ?_); refine Ord.wild_move rfl rfl (fun K hK => ?_)) | ((with_reducible refine Ord.at_wild ?_); refine Ord.wild_nilCheck rfl rfl (fun K hK => ?_)) | with_reducible refine Ord.walk_eff rfl (by first | (simp; done) | assumption | (go_simp; done) | (repeat (first | assumption | exact Below.refl _ _ | refine Below.drew ?_ | refine Below.alloc ?_ (by first | omega | (simp; done) | (simp; omega)) _ | refine Below.setCell ?_ (by first | omega | (simp; done) | (simp; omega)) _ | refine Below.trans ?_ (Below.mono (by assumption) (by first | omega | (simp; done) | (simp; omega)))))) (fun K hK => ?_) | with_reducible refine Ord.at_fork ?_ ?_ | with_reducible refine Ord.walk_nil ?_ | (with_reducible refine Ord.next_of (by first | (simp; done) | (go_simp; done) | (repeat (first | assumption | exact Below.refl _ _ | refine Below.drew ?_ | refine Below.alloc ?_ (by first | omega | (simp; done) | (simp; omega)) _ | refine Below.setCell ?_ (by first | omega | (simp; done) | (simp; omega)) _ | refine Below.trans ?_ (Below.mono (by assumption) (by first | omega | (simp; done) | (simp; omega)))))) (fun _ => ?_))
    | ((with_reducible refine Ord.at_calm ?_); refine Ord.calm_call rfl (fun W => Try.call47 _ W) (HE.out) (fun K hK => ?_)) | ((with_reducible refine Ord.at_wild ?_); refine Ord.wild_call rfl (fun W => Try.call47 _ W) (fun W hW => HE.out) (fun K hK => ?_)))
  obtain ⟨Wf, hWf⟩ : ∃ Wf, wc.setCell ⟨w.heap.size + 4, 0, none⟩ (.int .i64 0) = Wf := ⟨_, rfl⟩
  have r3f := (by rw [← hWf]; exact (hc.blk).other (by simp only; omega) _ : Blk Wf (w.heap.size + 3) #[.int .i64 j1, .int .i64 j2] 39).cell
  have r4f := (by rw [← hWf]; exact b4c.set 0 _ : Blk Wf (w.heap.size + 4) #[.int .i64 0] 30).cell
  have hlc : Lets (fun k _ => k = w.heap.size + 3 ∨ k = w.heap.size + 4) wa Wf := by rw [← hWf]; exact ((Lets.refl _ _).rowed hc (.inl rfl)).setCell (.inr rfl) _
  have hbf : Below w.heap.size w Wf := (((hBw.trans (Lets.of_below hb9.undrew)).trans (hla.mono fun _ _ e => by omega)).trans (hlc.mono fun _ _ e => by omega)).below (Nat.le_refl _) (fun k hk e => by omega)
  change bodyPostM Fence.wide 0 Try.prog _ _ .ret _ (wc.setCell ⟨w.heap.size + 4, 0, none⟩ (.int .i64 0))
  rw [hWf]
  refine post_out (v := .tuple #[spv (j1, j2), .int .i64 0]) catch_Comes (fun W => by simp [go_sem]) rfl ?_ ⟨by rw [HEv.out, HJ.out], hbf⟩
  simp [results, Try.results22, go_sem, r3f, r4f]
theorem m_Comes {m : Mb} {A : Ma} (i p : Int) (w : World) (hl : Mlen m) (hm : MbAt w m A) :
    Calls Try.prog 22 #[mv m A, .int .i64 i, .int .i64 p] w (Gives2 (spv (comesR m i p).1) (.int .i64 (comesR m i p).2) w) := by
  by_cases h1 : validM m = false ∨ fromB m i p = false
  · have h := m_Comes_stop i p w hl hm h1
    have hn : ¬ knownP m (fromB m i p) = 0 := by
      unfold knownP
      rcases h1 with h1 | h1
      · rw [if_pos h1]; simp
      · by_cases h2 : validM m = false
        · rw [if_pos h2]; simp
        · rw [if_neg h2, if_pos h1]; simp
    unfold comesR
    rw [if_neg hn]
    exact h
  · have hv : validM m = true := by
      cases h : validM m
      · exact absurd (.inl h) h1
      · rfl
    have hf : fromB m i p = true := by
      cases h : fromB m i p
      · exact absurd (.inr h) h1
      · rfl
    cases hk : knownM m
    · have h := m_Comes_clash i p w hl hm hv hf hk
      have e : knownP m (fromB m i p) = 10 := by unfold knownP; rw [hv, hf, hk]; simp
      unfold comesR
      rw [e, if_neg (by simp)]
      exact h
    · have e : knownP m (fromB m i p) = 0 := by unfold knownP; rw [hv, hf, hk]; simp
      have hb := hf
      unfold fromB at hb
      simp only [Bool.and_eq_true] at hb
      have b1 := inB_of hb.1
      have b2 := inB_of hb.2.1
      obtain ⟨i', rfl⟩ : ∃ i' : Nat, i = (i' : Int) := ⟨i.toNat, by omega⟩
      obtain ⟨p', rfl⟩ : ∃ p' : Nat, p = (p' : Int) := ⟨p.toNat, by omega⟩
      have h := m_Comes_ok i' p' w hl hm hv hf hk
      unfold comesR
      rw [if_pos e]
      exact h
end Go.Proofs.Yteeinehpneppnaa
set_option linter.unusedVariables false
set_option linter.unusedSimpArgs false
namespace Go.Proofs.Yteeinehpneppnaa
open Go.RowKit Go.Proofs
attribute [local irreducible] Ord.walk
/-- The longest stretch of a mob, as a span. -/
def stretS (m : Mb) (L : List Int) (i : Nat) : Int × Int := (dryM m L (startN m i), dryM m L (startN m i))
set_option maxHeartbeats 40000000 in
set_option maxRecDepth 100000 in
theorem m_stretches1 {m : Mb} {A : Ma} {pa : Option Addr} {pc wp mb : Nat} {W0 : World} (hv : validM m = true) (hO : Opened W0 wp m A pa pc mb) {L : List Int} (hL : L ∈ prodL m.legs) (i : Nat) (hi : i < m.herds.length) (n0 n1 n2 : Nat) (w : World) (hW : Way W0 mb m w)
    (b0 : Blk w n0 #[.func (.func 106) #[] #[]] 155) (b1 : Blk w n1 #[.pointer (some ⟨wp, 0, none⟩)] 80) (b2 : Blk w n2 #[.int .i64 (i : Int)] 3) :
    Calls Try.prog 107 #[.agg (legC L), .pointer (some ⟨n0, 0, none⟩), .pointer (some ⟨n1, 0, none⟩), .pointer (some ⟨n2, 0, none⟩)] w (GivesW W0 mb m (spv (stretS m L i)) w) := by
  have hmb := hO.mb_lt
  have hlen := validM_len hv
  have hsz := hW.2.size
  obtain ⟨W2, hW2⟩ : ∃ W2, W2 = (w.alloc (.cells (legC L) 90)).alloc (.cells #[.int .i64 0, .int .i64 0] 39) := ⟨_, rfl⟩
  have hB2 : Below w.heap.size w W2 := by rw [hW2]; (repeat (first | assumption | exact Below.refl _ _ | refine Below.drew ?_ | refine Below.alloc ?_ (by first | omega | (simp; done) | (simp; omega)) _ | refine Below.setCell ?_ (by first | omega | (simp; done) | (simp; omega)) _ | refine Below.trans ?_ (Below.mono (by assumption) (by first | omega | (simp; done) | (simp; omega)))))
  have bl : Blk W2 w.heap.size (legC L) 90 := by rw [hW2]; exact (Blk.new _ _ _).alloc _
  have bs : Blk W2 (w.heap.size + 1) #[.int .i64 0, .int .i64 0] 39 := by rw [hW2]; exact Blk.new' _ _ _ _ (by simp)
  have hs2 : W2.heap.size = w.heap.size + 2 := by rw [hW2]; simp
  have hWy2 : Way W0 mb m W2 := hW.below hB2 hmb
  have hw2 := hO.at_ hWy2
  obtain ⟨gb, go, e0, e1, e2, e3, e4⟩ := hw2.args.herds.get4 hi
  have HC : Hid (Calls Try.prog 106 #[.agg (hdC m.herds[i]), .slice pa m.places.length pc, .agg (legC L)] W2.drew (Gives (.int .i64 (dryM m L (startN m i))) W2.drew)) := m_stretch hv hL m.herds[i] (startN m i) (startN_eq hv hi).1 (by have := (startN_eq hv hi).2; omega) pa pc W2.drew (hO.at_ hWy2.drew).spots
  have HS : Hid (stretS m L i = (dryM m L (startN m i), dryM m L (startN m i))) := rfl
  generalize dryM m L (startN m i) = dy at *
  have r0 := (b0.below hB2 b0.lt).cell
  have r1 := (b1.below hB2 b1.lt).cell
  have r2 := (b2.below hB2 b2.lt).cell
  have rw' := hw2.blk.cell
  have bld := bl.drew
  have hL2 : Lets (fun k _ => k = mb) w W2 := Lets.of_below hB2
  rcases A with ⟨qa, qc, la, lc, ha, hc, sa, sc⟩
  simp only at e0
  subst e0
  generalize m.herds[i] = hd at *
  obtain ⟨d1, d2, d3, d4⟩ := hd
  simp only at *
  have hii : (i : Int) < (m.herds.length : Int) := by omega
  have hh4 : (m.herds.length : Int) ≤ 4 := by omega
  clear b0 b1 b2 hL
  have hs2a : W2.heap.size ≤ w.heap.size + 2 ∧ w.heap.size + 2 ≤ W2.heap.size := by omega
  clear hs2
  go_enter Try.func107, Try.ntmps107
  go_upto_region 1 with fail
  rw [← hW2]
  clear hW2
  go_wp2_with fail
  refine Ord.wp_regionN [(0, 0), (1, 0), (2, 0), (3, 0), (4, 0), (5, 0), (6, 0), (7, 0), (8, 0), (9, 0), (10, 0), (11, 0), (12, 0), (13, 0), (14, 2), (15, 0)] (fun _ => True) (by kernel_rfl) (by kernel_rfl) trivial ?_
  go_wp2_with (first
    | (refine wpList_load_blk 90 (.tmp 4) agg_legs rfl rfl rfl bld rfl ?_)
    | (go_at_call 106; refine HC.out.mono ?_; rintro e w6 ⟨rfl, hb6⟩; have b26 := bs.drew.below hb6 bs.lt)
    | (refine wpList_store_blk 39 (.tmp 5) (.tmp 24) agg_span rfl rfl rfl rfl b26 rfl rfl (by simp [Value.oneCell']) ?_; intro w8 h8)
    | (with_reducible refine Ord.at_nm ?_)
    | ((with_reducible refine Ord.at_calm ?_); refine Ord.calm_skip rfl ?_ (fun K hK => ?_); (focus (simp [Region.wanted, yielded]; done))) | with_reducible refine Ord.walk_calm rfl rfl (fun K hK => ?_) | ((with_reducible refine Ord.at_wild ?_); refine Ord.wild_fieldAddr rfl rfl (fun W => by simp [go_sem]; rfl) (fun K hK => ?_)) | ((with_reducible refine Ord.at_wild ?_); refine Ord.wild_move rfl rfl (fun K hK => ?_)) | ((with_reducible refine Ord.at_wild ?_); refine Ord.wild_nilCheck rfl rfl (fun K hK => ?_)) | with_reducible refine Ord.walk_eff rfl (by first | (simp; done) | assumption | (go_simp; done) | (repeat (first | assumption | exact Below.refl _ _ | refine Below.drew ?_ | refine Below.alloc ?_ (by first | omega | (simp; done) | (simp; omega)) _ | refine Below.setCell ?_ (by first | omega | (simp; done) | (simp; omega)) _ | refine Below.trans ?_ (Below.mono (by assumption) (by first | omega | (simp; done) | (simp; omega)))))) (fun K hK => ?_) | with_reducible refine Ord.at_fork ?_ ?_ | with_reducible refine Ord.walk_nil ?_ | (with_reducible refine Ord.next_of (by first | (simp; done) | (go_simp; done) | (repeat (first | assumption | exact Below.refl _ _ | refine Below.drew ?_ | refine Below.alloc ?_ (by first | omega | (simp; done) | (simp; omega)) _ | refine Below.setCell ?_ (by first | omega | (simp; done) | (simp; omega)) _ | refine Below.trans ?_ (Below.mono (by assumption) (by first | omega | (simp; done) | (simp; omega)))))) (fun _ => ?_)))
  (try simp only [Exit.inBlock, Exit.then])
  have hl8 : Lets (fun k _ => k = w.heap.size + 1) w6 w8 := (Lets.refl _ _).rowed h8 rfl
  refine bodyPost_ret (v := spv (dy, dy)) (results_cell_blk rfl _ agg_span rfl h8.blk rfl) rfl ⟨by rw [HS.out], ((hWy2.drew).below hb6 hmb).lets hl8 hmb (fun _ _ e => by omega), ((hL2.drew).trans (Lets.of_below hb6)).next hl8 (fun i hi hx => by omega)⟩
set_option maxHeartbeats 40000000 in
set_option maxRecDepth 100000 in
theorem m_stretches {m : Mb} {A : Ma} {pa : Option Addr} {pc wp mb : Nat} {W0 : World} (hv : validM m = true) (hO : Opened W0 wp m A pa pc mb) (i : Nat) (hi : i < m.herds.length) (w : World) (hW : Way W0 mb m w) :
    Calls Try.prog 84 #[.pointer (some ⟨wp, 0, none⟩), .int .i64 (i : Int)] w (GivesW W0 mb m (spv (joinL ((toldL m (everyN m)).map fun L => stretS m L i))) w) := by
  have hmf := hmf_mob
  have hmb := hO.mb_lt
  have hsz := hW.2.size
  have hE5 := everyN_lt hv
  obtain ⟨W4, hW4⟩ : ∃ W4, W4 = (((w.alloc (.cells #[.pointer (some ⟨wp, 0, none⟩)] 80)).alloc (.cells #[.int .i64 (i : Int)] 3)).alloc (.cells #[.int .i64 0, .int .i64 0] 39)).alloc (.cells #[.func (.func 106) #[] #[]] 155) := ⟨_, rfl⟩
  have hB4 : Below w.heap.size w W4 := by rw [hW4]; (repeat (first | assumption | exact Below.refl _ _ | refine Below.drew ?_ | refine Below.alloc ?_ (by first | omega | (simp; done) | (simp; omega)) _ | refine Below.setCell ?_ (by first | omega | (simp; done) | (simp; omega)) _ | refine Below.trans ?_ (Below.mono (by assumption) (by first | omega | (simp; done) | (simp; omega)))))
  have b0 : Blk W4 w.heap.size #[.pointer (some ⟨wp, 0, none⟩)] 80 := by rw [hW4]; exact (((Blk.new _ _ _).alloc _).alloc _).alloc _
  have b1 : Blk W4 (w.heap.size + 1) #[.int .i64 (i : Int)] 3 := by rw [hW4]; exact ((Blk.new' _ _ _ _ (by simp)).alloc _).alloc _
  have b2 : Blk W4 (w.heap.size + 2) #[.int .i64 0, .int .i64 0] 39 := by rw [hW4]; exact (Blk.new' _ _ _ _ (by simp)).alloc _
  have b3 : Blk W4 (w.heap.size + 3) #[.func (.func 106) #[] #[]] 155 := by rw [hW4]; exact Blk.new' _ _ _ _ (by simp)
  have hs4 : W4.heap.size = w.heap.size + 4 := by rw [hW4]; simp
  have hWy4 := hW.below hB4 hmb
  have HE := Lib.hid (m_everyW hv hO W4.drew hWy4.drew)
  have HT := Lib.hid (fun W => m_told wp (everyN m) W)
  have HH : Hid (∀ w9, Below W4.drew.heap.size W4.drew w9 → w9.heap.size = W4.heap.size + 2 → ToldAt w9 W4.heap.size wp (everyN m) → Calls Try.prog 56 #[toldF W4.heap.size, .agg #[.func (.func 107) #[] #[.pointer (some ⟨w.heap.size + 3, 0, none⟩), .pointer (some ⟨w.heap.size, 0, none⟩), .pointer (some ⟨w.heap.size + 1, 0, none⟩)]]] w9 (GivesW W0 mb m (spv (joinL ((toldL m (everyN m)).map fun L => stretS m L i))) w9)) := fun w9 hb9 hs9 hT9 => by
    refine m_hull hv hO (everyN m) (by omega) W4.heap.size w9 (hWy4.drew.below hb9 hmb) hT9 (by omega) 107 _ (fun L => stretS m L i)
      (fun W => Blk W (w.heap.size + 3) #[.func (.func 106) #[] #[]] 155 ∧ Blk W w.heap.size #[.pointer (some ⟨wp, 0, none⟩)] 80 ∧ Blk W (w.heap.size + 1) #[.int .i64 (i : Int)] 3)
      ⟨b3.drew.below hb9 (by simp; omega), b0.drew.below hb9 (by simp; omega), b1.drew.below hb9 (by simp; omega)⟩
      (fun X Y h hl => ⟨hl.blk h.1 (by omega), hl.blk h.2.1 (by omega), hl.blk h.2.2 (by omega)⟩)
      (fun args W => Try.call107 args W)
      (fun L hL W hw hc => m_stretches1 hv hO (List.mem_filter.1 hL).1 i hi _ _ _ W hw hc.1 hc.2.1 hc.2.2)
  have r0 := b0.cell
  have hLw : Lets (fun k _ => k = mb) w W4 := Lets.of_below hB4
  generalize hJ : (joinL ((toldL m (everyN m)).map fun L => stretS m L i)) = J at *
  have HJ := Lib.hid hJ
  clear hJ
  generalize hEv : everyN m = E at *
  have HEv := Lib.hid hEv
  clear hEv b0 b1 b3
  obtain ⟨j1, j2⟩ := J
  have hs4a : W4.heap.size ≤ w.heap.size + 4 ∧ w.heap.size + 4 ≤ W4.heap.size := by omega
  clear hs4
  go_enter Try.func84, Try.ntmps84
  go_upto_region 2 with fail
  rw [← hW4]
  clear hW4
  go_wp2_with fail
  refine Ord.wp_regionN [(0, 0), (1, 0), (2, 0), (4, 1), (5, 1), (3, 2), (6, 2), (7, 2)] (fun _ => True) (by kernel_rfl) (by kernel_rfl) trivial ?_
  go_wp2_with (first
    | (go_at_call 46; refine (HT.out _).mono ?_; rintro e w9 ⟨rfl, hT9, hb9, hs9⟩; have hHH := Lib.hid (HH.out w9 hb9 hs9 hT9); clear hs9)
    | (go_at_call 56; refine hHH.out.mono ?_; rintro e wa ⟨rfl, hWa, hla⟩; have b2a := hla.blk (b2.drew.below hb9 b2.lt) (by omega))
    | (refine wpList_store_blk 39 (.tmp 4) (.tmp 12) agg_span rfl rfl rfl rfl b2a rfl rfl (by simp [Value.oneCell']) ?_; intro wc hc)
    | ((with_reducible refine Ord.at_wild ?_); refine Ord.walk_wild_as rfl (.func (.func 107) #[] #[.pointer (some ⟨w.heap.size + 3, 0, none⟩), .pointer (some ⟨w.heap.size, 0, none⟩), .pointer (some ⟨w.heap.size + 1, 0, none⟩)]) ?_ ?_; (focus (intro W hW; simp [go_sem, Ord.yields, Ord.yieldUpon, hmf]; done)); intro K hK)
    | ((with_reducible refine Ord.at_wild ?_); refine Ord.walk_wild_as rfl (.agg #[.func (.func 107) #[] #[.pointer (some ⟨w.heap.size + 3, 0, none⟩), .pointer (some ⟨w.heap.size, 0, none⟩), .pointer (some ⟨w.heap.size + 1, 0, none⟩)]]) ?_ ?_; (focus (intro W hW; simp [go_sem, Ord.yields, Ord.yieldUpon, ]; done)); intro K hK)
    | (with_reducible refine Ord.at_nm ?_)
    | ((with_reducible refine Ord.at_calm ?_); refine Ord.calm_skip rfl ?_ (fun K hK => ?_); (focus (simp [Region.wanted, yielded]; done))) | with_reducible refine Ord.walk_calm rfl rfl (fun K hK => ?_) | ((with_reducible refine Ord.at_wild ?_); refine Ord.wild_fieldAddr rfl rfl (fun W => by simp [go_sem]; rfl) (fun K hK => ?_)) | ((with_reducible refine Ord.at_wild ?_); refine Ord.wild_move rfl rfl (fun K hK => ?_)) | ((with_reducible refine Ord.at_wild ?_); refine Ord.wild_nilCheck rfl rfl (fun K hK => ?_)) | with_reducible refine Ord.walk_eff rfl (by first | (simp; done) | assumption | (go_simp; done) | (repeat (first | assumption | exact Below.refl _ _ | refine Below.drew ?_ | refine Below.alloc ?_ (by first | omega | (simp; done) | (simp; omega)) _ | refine Below.setCell ?_ (by first | omega | (simp; done) | (simp; omega)) _ | refine Below.trans ?_ (Below.mono (by assumption) (by first | omega | (simp; done) | (simp; omega)))))) (fun K hK => ?_) | with_reducible refine Ord.at_fork ?_ ?_ | with_reducible refine Ord.walk_nil ?_ | (with_reducible refine Ord.next_of (by first | (simp; done) | (go_simp; done) | (repeat (first | assumption | exact Below.refl _ _ | refine Below.drew ?_ | refine Below.alloc ?_ (by first | omega | (simp; done) | (simp; omega)) _ | refine Below.setCell ?_ (by first | omega | (simp; done) | (simp; omega)) _ | refine Below.trans ?_ (Below.mono (by assumption) (by first | omega | (simp; done) | (simp; omega)))))) (fun _ => ?_))
    | ((with_reducible refine Ord.at_calm ?_); refine Ord.calm_call rfl (fun W => Try.call47 _ W) (HE.out) (fun K hK => ?_)) | ((with_reducible refine Ord.at_wild ?_); refine Ord.wild_call rfl (fun W => Try.call47 _ W) (fun W hW => HE.out) (fun K hK => ?_)))
  (try simp only [Exit.inBlock, Exit.then])
  have hlc : Lets (fun k _ => k = w.heap.size + 2) wa wc := (Lets.refl _ _).rowed hc rfl
  refine bodyPost_ret (v := spv (j1, j2)) (results_cell_blk rfl _ agg_span rfl hc.blk rfl) rfl ⟨rfl, hWa.lets hlc hmb (fun _ _ e => by omega), (((hLw.drew).trans (Lets.of_below hb9)).trans hla).next hlc (fun i hi hx => by omega)⟩
end Go.Proofs.Yteeinehpneppnaa
