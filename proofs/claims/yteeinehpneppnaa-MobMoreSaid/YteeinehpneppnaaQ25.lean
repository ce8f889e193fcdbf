/- Parts of a proof: MoV, MoY, MoZ. -/
import Derived.Test.YteeinehpneppnaaQ19
import Derived.Test.YteeinehpneppnaaQ24
set_option linter.unusedVariables false
set_option linter.unusedSimpArgs false
namespace Go.Proofs.Yteeinehpneppnaa
open Go.RowKit Go.Proofs
attribute [local irreducible] Ord.walk
attribute [local go_sem] Oper.semAt_some
/-- One mob comes ahead of another one with how long legs take: in each truth, in some. -/
def eachB (m : Mb) (i k : Nat) (L : List Int) : Bool := decide ((comeS m L i (shedN m)).2 < (comeS m L k (shedN m)).1)
def someB (m : Mb) (i k : Nat) (L : List Int) : Bool := decide ((comeS m L i (shedN m)).1 < (comeS m L k (shedN m)).2)
def eachTo (m : Mb) (i k n : Nat) : Bool := ((toldL m (everyN m)).take n).all (eachB m i k)
def someTo (m : Mb) (i k n : Nat) : Bool := ((toldL m (everyN m)).take n).any (someB m i k)
theorem eachTo_succ {m : Mb} {i k n : Nat} (h : n < (toldL m (everyN m)).length) : eachTo m i k (n + 1) = (eachTo m i k n && eachB m i k (toldL m (everyN m))[n]) := by
  unfold eachTo; rw [List.take_succ_eq_append_getElem h, List.all_append]; simp
theorem someTo_succ {m : Mb} {i k n : Nat} (h : n < (toldL m (everyN m)).length) : someTo m i k (n + 1) = (someTo m i k n || someB m i k (toldL m (everyN m))[n]) := by
  unfold someTo; rw [List.take_succ_eq_append_getElem h, List.any_append]; simp
def aheadG (m : Mb) (i k : Nat) : Int := if i = k then 0 else grB (eachTo m i k (toldL m (everyN m)).length) (someTo m i k (toldL m (everyN m)).length)
/-- What a range over told keeps in Ahead. -/
structure AhAt (m : Mb) (i k wp z n0 : Nat) (w w11 : World) (n : Nat) (A : World) : Prop where
  c8 : Blk A z #[.pointer (some ⟨wp, 0, none⟩)] 80
  c9 : Blk A (z + 1) #[.bool (eachTo m i k n)] 4
  c10 : Blk A (z + 2) #[.bool (someTo m i k n)] 4
  b1 : Blk A (n0 + 1) #[.int .i64 (i : Int)] 3
  b2 : Blk A (n0 + 2) #[.int .i64 (k : Int)] 3
  b4 : Blk A (n0 + 3) #[.int .i64 0] 30
  below : Below n0 w A
theorem AhAt.lets_ {X : Nat → Option Obj → Prop} {m : Mb} {i k wp z n0 n : Nat} {w w11 A B : World} (h : AhAt m i k wp z n0 w w11 n A) (hl : Lets X A B) (hn : n0 ≤ w.heap.size) (hx : ∀ j o, X j o → n0 + 4 ≤ j) (hz : ∀ j o, X j o → j ≠ z ∧ j ≠ z + 1 ∧ j ≠ z + 2) : AhAt m i k wp z n0 w w11 n B := by
  have h0 : ∀ j o, j < n0 + 4 → ¬ X j o := fun j o hj e => by have := hx _ _ e; omega
  exact ⟨hl.blk h.c8 (fun e => (hz _ _ e).1 rfl), hl.blk h.c9 (fun e => (hz _ _ e).2.1 rfl), hl.blk h.c10 (fun e => (hz _ _ e).2.2 rfl), hl.blk h.b1 (h0 _ _ (by omega)), hl.blk h.b2 (h0 _ _ (by omega)), hl.blk h.b4 (h0 _ _ (by omega)), below_lets h.below hl hn (fun j o hj => h0 j o (by omega))⟩
set_option maxHeartbeats 40000000 in
set_option maxRecDepth 100000 in
theorem m_Ahead_ok {m : Mb} {A : Ma} (i k : Nat) (w : World) (hl : Mlen m) (hm : MbAt w m A) (hv : validM m = true) (hi : (herdB m i && herdB m k) = true) (hk : knownM m = true) :
    Calls Try.prog 13 #[mv m A, .int .i64 (i : Int), .int .i64 (k : Int)] w (Gives2 (.int .i64 (aheadG m i k)) (.int .i64 0) w) := by
  have hik : i < m.herds.length ∧ k < m.herds.length := by
    rw [Bool.and_eq_true] at hi
    have h1 := inB_of hi.1
    have h2 := inB_of hi.2
    omega
  have hmf := hmf_mob
  have HO : Hid (∀ W, Below w.heap.size w W → Blk W (w.heap.size + 1) #[.int .i64 (i : Int)] 3 → Blk W (w.heap.size + 2) #[.int .i64 (k : Int)] 3 → Calls Try.prog 42 #[mv m A, .func (.func 43) #[] #[.pointer (some ⟨w.heap.size + 1, 0, none⟩), .pointer (some ⟨w.heap.size + 2, 0, none⟩)]] W (fun e w' => ∃ wp mb pa pc, e = .returned (.pointer (some ⟨wp, 0, none⟩)) ∧ Opened w' wp m A pa pc mb ∧ Below W.heap.size W w' ∧ W.heap.size ≤ wp ∧ W.heap.size ≤ mb)) := fun W hb b1 b2 =>
    (m_open m A 43 #[.pointer (some ⟨w.heap.size + 1, 0, none⟩), .pointer (some ⟨w.heap.size + 2, 0, none⟩)] ((herdB m i && herdB m k)) W hl (hm.below hb) (fun args W => Try.call43 args W) (fun hv W' wp mb pa pc hw hb' => m_herdsC _ _ i k W' hl hw (b1.below hb' b1.lt) (b2.below hb' b2.lt))).mono fun e w' h => open_ok h hv hi
  clear hl hm
  unfold mv mcells at *
  refine callsIn_wide.1 (callsIn_of_wp_marks (F := Fence.wide) (n := 0) Try.func13 rfl trivial (wpIn_wide.2 ?_) rfl)
  simp only [Try.ntmps13, List.size_toArray, List.length_cons, List.length_nil, Nat.reduceAdd, Nat.reduceSub, Array.replicate_succ, Array.replicate_zero, List.push_toArray, List.append_toArray, List.nil_append, List.cons_append]
  go_wp2_with (first
    | (go_at_call 42; refine at_stop ?_))
  unfold Stop
  obtain ⟨W5, hW5⟩ : ∃ W5, ((((w.alloc (.cells #[.slice A.pa m.places.length A.pc, .slice A.la m.legs.length A.lc, .slice A.ha m.herds.length A.hc, .slice A.sa m.seen.length A.sc] 27)).alloc (.cells #[.int .i64 (i : Int)] 3)).alloc (.cells #[.int .i64 (k : Int)] 3)).alloc (.cells #[.int .i64 0] 30)) = W5 := ⟨_, rfl⟩
  have hB5 : Below w.heap.size w W5 := by rw [← hW5]; (repeat (first | assumption | exact Below.refl _ _ | refine Below.drew ?_ | refine Below.alloc ?_ (by first | omega | (simp; done) | (simp; omega)) _ | refine Below.setCell ?_ (by first | omega | (simp; done) | (simp; omega)) _ | refine Below.trans ?_ (Below.mono (by assumption) (by first | omega | (simp; done) | (simp; omega)))))
  have b1 : Blk W5 (w.heap.size + 1) #[.int .i64 (i : Int)] 3 := by rw [← hW5]; exact (((Blk.new' _ _ _ _ (by simp)).alloc _).alloc _)
  have b2 : Blk W5 (w.heap.size + 2) #[.int .i64 (k : Int)] 3 := by rw [← hW5]; exact ((Blk.new' _ _ _ _ (by simp)).alloc _)
  have b4 : Blk W5 (w.heap.size + 3) #[.int .i64 0] 30 := by rw [← hW5]; exact Blk.new' _ _ _ _ (by simp)
  have hs5 : W5.heap.size = w.heap.size + 4 := by rw [← hW5]; simp
  rw [hW5]
  refine (HO.out W5 hB5 b1 b2).mono ?_
  rintro e w6 ⟨wp, mb, pa, pc, rfl, hO, hb6, hwp, hmb⟩
  have hs6 := hb6.size
  have hmb6 := hO.mb_lt
  have hW6 : Way w6 mb m w6 := ⟨hO.kept, Lets.refl _ _⟩
  have HKn := Lib.hid (m_known_yes hv hO w6 hW6 hk)
  go_wp2_with (first
    | (go_at_call 45; refine HKn.out.mono ?_; rintro e w7 ⟨rfl, hW7, hl7⟩; refine at_stop ?_))
  unfold Stop
  have hs7 := hl7.size
  have b17 := hl7.blk (b1.below hb6 b1.lt) (by omega)
  have b27 := hl7.blk (b2.below hb6 b2.lt) (by omega)
  have b47 := hl7.blk (b4.below hb6 b4.lt) (by omega)
  have hB7 : Below w.heap.size w w7 := below_lets (hB5.trans (hb6.mono (by omega))) hl7 (Nat.le_refl _) (fun _ _ _ => by omega)
  have r1 := b17.cell
  have r2 := b27.cell
  have hs5a : W5.heap.size ≤ w.heap.size + 4 ∧ w.heap.size + 4 ≤ W5.heap.size := by omega
  clear hW5 hi hk hs5 b1 b2 b4 HO
  by_cases hik2 : i = k
  · have he : ((i : Int) == (k : Int)) = true := by simp [hik2]
    have HA : Hid (aheadG m i k = 0) := by show _ = _; unfold aheadG; rw [if_pos hik2]
    have r4 := b47.cell
    have f4 := b47.free
    have l4 := b47.lt
    clear hik2
    go_wp2_with fail
    obtain ⟨Wf, hWf⟩ : ∃ Wf, (w7.setCell ⟨w.heap.size + 3, 0, none⟩ (.int .i64 0)).alloc (.cells #[.pointer (some ⟨wp, 0, none⟩)] 80) = Wf := ⟨_, rfl⟩
    have r4f := (by rw [← hWf]; exact (b47.set 0 _).alloc _ : Blk Wf (w.heap.size + 3) #[.int .i64 0] 30).cell
    have hbf : Below w.heap.size w Wf := by rw [← hWf]; exact (hB7.setCell (by simp) _).alloc (by simp; omega) _
    change bodyPostM Fence.wide 0 Try.prog _ _ .ret _ ((w7.setCell ⟨w.heap.size + 3, 0, none⟩ (.int .i64 0)).alloc (.cells #[.pointer (some ⟨wp, 0, none⟩)] 80))
    rw [hWf]
    refine post_out (v := .tuple #[.int .i64 0, .int .i64 0]) catch_Ahead (fun W => by simp [go_sem]) rfl ?_ ⟨by rw [HA.out], hbf⟩
    simp [results, Try.results13, go_sem, r4f]
  · have he : ((i : Int) == (k : Int)) = false := by simp; omega
    have HA : Hid (aheadG m i k = grB (eachTo m i k (toldL m (everyN m)).length) (someTo m i k (toldL m (everyN m)).length)) := by show _ = _; unfold aheadG; rw [if_neg hik2]
    have HT := Lib.hid (fun W => m_told wp (everyN m) W)
    have HE := Lib.hid (fun W hw => m_everyW hv hO W hw)
    have hE5 := everyN_lt hv
    clear hik2
    go_upto_region 6 with fail
    obtain ⟨W10, hW10⟩ : ∃ W10, ((w7.alloc (.cells #[.pointer (some ⟨wp, 0, none⟩)] 80)).alloc (.cells #[.bool true] 4)).alloc (.cells #[.bool false] 4) = W10 := ⟨_, rfl⟩
    have hB10 : Below w7.heap.size w7 W10 := by rw [← hW10]; (repeat (first | assumption | exact Below.refl _ _ | refine Below.drew ?_ | refine Below.alloc ?_ (by first | omega | (simp; done) | (simp; omega)) _ | refine Below.setCell ?_ (by first | omega | (simp; done) | (simp; omega)) _ | refine Below.trans ?_ (Below.mono (by assumption) (by first | omega | (simp; done) | (simp; omega)))))
    have c8 : Blk W10 w7.heap.size #[.pointer (some ⟨wp, 0, none⟩)] 80 := by rw [← hW10]; exact ((Blk.new _ _ _).alloc _).alloc _
    have c9 : Blk W10 (w7.heap.size + 1) #[.bool true] 4 := by rw [← hW10]; exact (Blk.new' _ _ _ _ (by simp)).alloc _
    have c10 : Blk W10 (w7.heap.size + 2) #[.bool false] 4 := by rw [← hW10]; exact Blk.new' _ _ _ _ (by simp)
    have hs10 : W10.heap.size = w7.heap.size + 3 := by rw [← hW10]; simp
    have hWy10 := hW7.below hB10 hmb6
    have b110 := b17.below hB10 b17.lt
    have b210 := b27.below hB10 b27.lt
    have b410 := b47.below hB10 b47.lt
    have hBw : Below w.heap.size w W10 := hB7.trans (hB10.mono (by omega))
    rw [hW10]
    generalize hz8 : w7.heap.size = z8 at *
    have hs10a : W10.heap.size ≤ z8 + 3 ∧ z8 + 3 ≤ W10.heap.size := by omega
    have hz8a : w6.heap.size ≤ z8 := by omega
    clear hW10 hs10 hz8 b17 b27 b47 r1 r2
    have r8 := c8.cell
    have hHE := Lib.hid (HE.out W10.drew hWy10.drew)
    go_wp2_with fail
    refine Ord.wp_regionN [(0, 0), (1, 0), (2, 0), (3, 2)] (fun _ => True) (by kernel_rfl) (by kernel_rfl) trivial ?_
    go_wp2_with (first
      | (go_at_call 46; refine (HT.out _).mono ?_; rintro e w11 ⟨rfl, hT11, hb11, hs11⟩)
      | (with_reducible refine Ord.at_nm ?_)
      | ((with_reducible refine Ord.at_calm ?_); refine Ord.calm_skip rfl ?_ (fun K hK => ?_); (focus (simp [Region.wanted, yielded]; done))) | with_reducible refine Ord.walk_calm rfl rfl (fun K hK => ?_) | ((with_reducible refine Ord.at_wild ?_); refine Ord.wild_fieldAddr rfl rfl (fun W => by simp [go_sem]; rfl) (fun K hK => ?_)) | ((with_reducible refine Ord.at_wild ?_); refine Ord.wild_move rfl rfl (fun K hK => ?_)) | ((with_reducible refine Ord.at_wild ?_); refine Ord.wild_nilCheck rfl rfl (fun K hK => ?_)) | with_reducible refine Ord.walk_eff rfl (by first | (simp; done) | assumption | (go_simp; done) | (repeat (first | assumption | exact Below.refl _ _ | refine Below.drew ?_ | refine Below.alloc ?_ (by first | omega | (simp; done) | (simp; omega)) _ | refine Below.setCell ?_ (by first | omega | (simp; done) | (simp; omega)) _ | refine Below.trans ?_ (Below.mono (by assumption) (by first | omega | (simp; done) | (simp; omega)))))) (fun K hK => ?_) | with_reducible refine Ord.at_fork ?_ ?_ | with_reducible refine Ord.walk_nil ?_ | (with_reducible refine Ord.next_of (by first | (simp; done) | (go_simp; done) | (repeat (first | assumption | exact Below.refl _ _ | refine Below.drew ?_ | refine Below.alloc ?_ (by first | omega | (simp; done) | (simp; omega)) _ | refine Below.setCell ?_ (by first | omega | (simp; done) | (simp; omega)) _ | refine Below.trans ?_ (Below.mono (by assumption) (by first | omega | (simp; done) | (simp; omega)))))) (fun _ => ?_))
      | ((with_reducible refine Ord.at_calm ?_); refine Ord.calm_call rfl (fun W => Try.call47 _ W) (hHE.out) (fun K hK => ?_)) | ((with_reducible refine Ord.at_wild ?_); refine Ord.wild_call rfl (fun W => Try.call47 _ W) (fun W hW => hHE.out) (fun K hK => ?_)))
    have d8 := c8.drew.below hb11 c8.lt
    have d9 := c9.drew.below hb11 c9.lt
    have d10 := c10.drew.below hb11 c10.lt
    have d1 := b110.drew.below hb11 b110.lt
    have d2 := b210.drew.below hb11 b210.lt
    have d4 := b410.drew.below hb11 b410.lt
    have hWy11 := hWy10.drew.below hb11 hmb6
    have hs11b := hb11.size
    (try simp only [World.size_drew] at hs11 hs11b hT11)
    have hs11a : w11.heap.size ≤ z8 + 5 ∧ z8 + 5 ≤ w11.heap.size := by omega
    have hBw11 : Below w.heap.size w w11 := hBw.trans (hb11.undrew.mono (by omega))
    clear hs11 c8 c9 c10 b110 b210 b410 r8 hb11 hHE
    have h0 : AhAt m i k wp z8 w.heap.size w w11 0 w11 := ⟨d8, d9, d10, d1, d2, d4, hBw11⟩
    clear d8 d9 d10 d1 d2 d4
    generalize hN : w11.heap.size = N at *
    have hNa : N ≤ z8 + 5 ∧ z8 + 5 ≤ N := by omega
    have HN := Lib.hid hN
    have hNw : w11.heap.size ≤ N ∧ N ≤ w11.heap.size := by omega
    clear hN hs11a
    generalize htb : W10.heap.size = tb at *
    clear htb
    unfold toldF
    refine (wpIn_wide (n := 0)).1 (wp_range (encs := fun L => #[.agg (legC L)]) (xs := toldL m (everyN m)) (XI := fun j _ => j = mb ∨ (N + 2 ≤ j ∧ j < N + 9)) (XB := fun j _ => j = mb ∨ j = z8 + 1 ∨ j = z8 + 2) (Mid := fun W' => Way w6 mb m W' ∧ N + 9 ≤ W'.heap.size)
      (fun n A => AhAt m i k wp z8 w.heap.size w w11 n A) (fun c A => False)
      rfl Try.call94 (fun _ => rfl)
      (fun W1 hb1 hs1 => ?seq)
      (fun j o h1 h2 => by omega) (fun j o h1 h2 => by omega)
      (fun n A B h hl => h.lets_ hl (by omega) (fun j o e => by omega) (fun j o e => by omega))
      (fun c A B h hl => h)
      (fun n A B h hl => h.lets_ hl (by omega) (fun j o e => by omega) (fun j o e => by omega))
      (fun c A B h hl => h)
      (fun A B h hl => ⟨h.1.lets hl hmb6 (fun _ _ e => by omega), Nat.le_trans h.2 hl.size⟩) h0 ?round ?done ?stop)
    case seq =>
      have hs4 : W1.heap.size = N + 2 := by rw [hs1, HN.out]
      have hWy1 : Way w6 mb m W1 := hWy11.below hb1 hmb6
      have := told_seq hv hO (everyN m) (by omega) tb (w11.heap.size + 1) W1 hWy1 ⟨hT11.b0.below hb1 hT11.b0.lt, hT11.b1.below hb1 hT11.b1.lt⟩ (by omega) (fun j o => (j = mb ∨ j = z8 + 1 ∨ j = z8 + 2) ∨ j = w11.heap.size + 1) (fun k o e => by have := HN.out; omega)
      rw [hs4] at this
      exact this
    case round =>
      intro n hn A' hI hM hsz hrec
      have hLm : (toldL m (everyN m))[n] ∈ prodL m.legs := (List.mem_filter.1 (List.getElem_mem hn)).1
      have HS1 := Lib.hid (eachTo_succ (i := i) (k := k) hn)
      have HS2 := Lib.hid (someTo_succ (i := i) (k := k) hn)
      have HEB : Hid (eachB m i k (toldL m (everyN m))[n] = decide ((comeS m (toldL m (everyN m))[n] i (shedN m)).2 < (comeS m (toldL m (everyN m))[n] k (shedN m)).1)) := rfl
      have HSB : Hid (someB m i k (toldL m (everyN m))[n] = decide ((comeS m (toldL m (everyN m))[n] i (shedN m)).1 < (comeS m (toldL m (everyN m))[n] k (shedN m)).2)) := rfl
      unfold RoundOk
      generalize (toldL m (everyN m))[n] = L at *
      gi_wp2_with fail
      refine ⟨(Lets.refl _ _).alloc _, fun W₂ hl2 hs2 hI2 hWy2 => ?_⟩
      have b11 : Blk W₂ A'.heap.size (legC L) 90 := hl2.blk (Blk.new _ _ _) (by omega)
      have hs2a : W₂.heap.size = A'.heap.size + 1 := by rw [hs2]; simp
      have hs2b : W₂.heap.size ≤ A'.heap.size + 1 ∧ A'.heap.size + 1 ≤ W₂.heap.size := by omega
      obtain ⟨hWy2, hbig⟩ := hWy2
      clear hl2 hs2 hs2a hI hM
      refine wpIn_block ?_
      refine wpIn_seq ?_
      refine ahead_r8 hv hO hLm i k hik.1 hik.2 _ _ (fun ⟨_, _, h⟩ => h) W₂ z8 A'.heap.size (w.heap.size + 1) (w.heap.size + 2) hWy2 hI2.c8 hI2.b1 hI2.b2 b11 (by omega) (by omega) (by omega) (by omega) ?_
      intro x27 x28 x29 x30 x31 x32 x33 x34 p q W' hW' hL' hpq hp2 hq2 bp bq
      simp only [Exit.then]
      generalize comeS m L i (shedN m) = sa at *
      generalize comeS m L k (shedN m) = sb at *
      obtain ⟨a1, a2⟩ := sa
      obtain ⟨b1', b2'⟩ := sb
      simp only at *
      have e9 := hL'.blk hI2.c9 (by omega)
      have e10 := hL'.blk hI2.c10 (by omega)
      have hI3 := hI2.lets_ hL' (by omega) (fun j o e => by omega) (fun j o e => by omega)
      have r9 := e9.cell
      have f9 := e9.free
      have l9 := e9.lt
      have r10 := e10.cell
      have f10 := e10.free
      have l10 := e10.lt
      have rp := bp.cell
      have rq := bq.cell
      generalize eachB m i k L = eb at *
      generalize someB m i k L = sb at *
      have hsz' := hL'.size
      have hH0 : Blk W'.drew p #[.int .i64 a1, .int .i64 a2] 39 ∧ Blk W'.drew q #[.int .i64 b1', .int .i64 b2'] 39 := ⟨bp.drew, bq.drew⟩
      cases hE : eachTo m i k n <;> cases hSo : someTo m i k n
      all_goals
        rw [hE] at r9 HS1
        rw [hSo] at r10 HS2
        refine Ord.wpIn_region (fun ⟨_, _, h⟩ => h) [(0, 0), (1, 0), (2, 0), (3, 0), (4, 0), (5, 0), (6, 0), (7, 0), (8, 0), (9, 0), (10, 1), (11, 1), (12, 1), (13, 1), (14, 1), (15, 1), (16, 2), (17, 2)] (fun W => Blk W p #[.int .i64 a1, .int .i64 a2] 39 ∧ Blk W q #[.int .i64 b1', .int .i64 b2'] 39) (by kernel_rfl) (by kernel_rfl) (by kernel_rfl) (fun c a d v w h => by cases d <;> exact h) hH0 ?_
        go_wp2_with (first
          | ((with_reducible refine Ord.at_wild ?_); refine Ord.walk_skip rfl rfl (fun K hK => ?_)) | ((with_reducible refine Ord.at_eff ?_); refine Ord.walk_skip rfl rfl (fun K hK => ?_))
          | ((with_reducible refine Ord.at_wild ?_); refine Ord.wild_load (ad := ⟨p, 0, none⟩) (.int .i64 a1) rfl rfl ?_ ?_; (focus (intro W hW; have r := hW.1.cell; simp [go_sem, r]; done)); intro K hK)
          | ((with_reducible refine Ord.at_wild ?_); refine Ord.wild_load (ad := ⟨q, 1, none⟩) (.int .i64 b2') rfl rfl ?_ ?_; (focus (intro W hW; have r := hW.2.cell; simp [go_sem, r]; done)); intro K hK)
          | ((with_reducible refine Ord.at_wild ?_); refine Ord.walk_wild_as rfl (.bool (decide (a1 < b2'))) ?_ ?_; (focus (intro W hW; simp [go_sem, Ord.yields, Ord.yieldUpon, ]; done)); intro K hK)
          | ((with_reducible refine Ord.at_wild ?_); refine Ord.walk_wild_as rfl (.bool true) ?_ ?_; (focus (intro W hW; simp [go_sem, Ord.yields, Ord.yieldUpon, ]; done)); intro K hK)
          | (refine Ord.next_of ⟨(bp.other (by simp; omega) _).drew, (bq.other (by simp; omega) _).drew⟩ (fun _ => ?_))
          | (refine Ord.next_of ⟨((bp.other (by simp; omega) _).other (by simp; omega) _).drew, ((bq.other (by simp; omega) _).other (by simp; omega) _).drew⟩ (fun _ => ?_))
          | ((with_reducible refine Ord.at_calm ?_); refine Ord.calm_skip rfl ?_ (fun K hK => ?_); (focus (simp [Region.wanted, yielded]; done))) | with_reducible refine Ord.walk_calm rfl rfl (fun K hK => ?_) | ((with_reducible refine Ord.at_wild ?_); refine Ord.wild_fieldAddr rfl rfl (fun W => by simp [go_sem]; rfl) (fun K hK => ?_)) | ((with_reducible refine Ord.at_wild ?_); refine Ord.wild_move rfl rfl (fun K hK => ?_)) | ((with_reducible refine Ord.at_wild ?_); refine Ord.wild_nilCheck rfl rfl (fun K hK => ?_)) | with_reducible refine Ord.walk_eff rfl (by first | (simp; done) | assumption | (go_simp; done) | (repeat (first | assumption | exact Below.refl _ _ | refine Below.drew ?_ | refine Below.alloc ?_ (by first | omega | (simp; done) | (simp; omega)) _ | refine Below.setCell ?_ (by first | omega | (simp; done) | (simp; omega)) _ | refine Below.trans ?_ (Below.mono (by assumption) (by first | omega | (simp; done) | (simp; omega)))))) (fun K hK => ?_) | with_reducible refine Ord.at_fork ?_ ?_ | with_reducible refine Ord.walk_nil ?_ | (with_reducible refine Ord.next_of (by first | (simp; done) | (go_simp; done) | (repeat (first | assumption | exact Below.refl _ _ | refine Below.drew ?_ | refine Below.alloc ?_ (by first | omega | (simp; done) | (simp; omega)) _ | refine Below.setCell ?_ (by first | omega | (simp; done) | (simp; omega)) _ | refine Below.trans ?_ (Below.mono (by assumption) (by first | omega | (simp; done) | (simp; omega)))))) (fun _ => ?_)))
      all_goals
        have hlf := fun (v1 v2 : Value) => ((((Lets.refl (fun j _ => j = z8 + 1 ∨ j = z8 + 2) W').setCell (p := ⟨z8 + 1, 0, none⟩) (.inl rfl) v1).setCell (p := ⟨z8 + 2, 0, none⟩) (.inr rfl) v2).drew)
        refine ⟨(hL'.mono fun _ _ e => .inl e).trans ((hlf _ _).mono fun _ _ e => .inr e), ⟨hW'.lets (hlf _ _) hmb6 (fun _ _ e => by omega), Nat.le_trans hbig (Nat.le_trans hL'.size (hlf _ _).size)⟩, (hlf _ _).blk hI3.c8 (by omega), ?_, ?_, (hlf _ _).blk hI3.b1 (by omega), (hlf _ _).blk hI3.b2 (by omega), (hlf _ _).blk hI3.b4 (by omega), below_lets hI3.below (hlf _ _) (Nat.le_refl _) (fun _ _ _ => by omega)⟩
        · rw [HS1.out]
          have := fun (v1 v2 : Value) => ((e9.set 0 v1).other (p := ⟨z8 + 2, 0, none⟩) (by simp) v2).drew
          simpa [HEB.out] using this _ _
        · rw [HS2.out]
          have := fun (v1 v2 : Value) => ((e10.other (p := ⟨z8 + 1, 0, none⟩) (by simp) v1).set 0 v2).drew
          simpa [HSB.out] using this _ _
    case done =>
      intro W hI hM hD
      have HG := Lib.hid (fun x y W => m_graded x y W)
      have r9 := hI.c9.cell
      have r10 := hI.c10.cell
      have r4 := hI.b4.cell
      have f4 := hI.b4.free
      have l4 := hI.b4.lt
      have hbl := hI.below
      have hb4 := hI.b4
      clear hI
      generalize eachTo m i k (toldL m (everyN m)).length = E at *
      generalize someTo m i k (toldL m (everyN m)).length = S at *
      simp only [Exit.inBlock, Exit.then]
      go_wp2_with (go_at_call 49; refine (HG.out _ _ _).mono ?_; rintro e w' ⟨rfl, rfl⟩)
      have hD' : (W.setCell ⟨w.heap.size + 3, 0, none⟩ (.int .i64 0)).heap[w11.heap.size]? = some (.deferred (some [])) := (Below.heap_setCell W ⟨w.heap.size + 3, 0, none⟩ _ _ (by simp only; omega)).trans hD
      refine post_out1 (v := .tuple #[.int .i64 (grB E S), .int .i64 0]) catch_Ahead (fun W => by simp [go_sem]) rfl hD' fun w' hl hs => ⟨?_, by rw [HA.out], below_lets (hbl.setCell (by first | (simp; done) | (simp; omega)) _) hl (Nat.le_refl _) (fun _ _ _ => by omega)⟩
      have r4f := (hl.blk (hb4.set 0 (.int .i64 0)) (by omega)).cell
      simp [results, Try.results13, go_sem, r4f]
    case stop =>
      intro c W h
      exact h.elim
def aheadP (m : Mb) (i k : Int) : Int × Int := if knownP m (herdB m i && herdB m k) = 0 then (aheadG m i.toNat k.toNat, 0) else (0, knownP m (herdB m i && herdB m k))
theorem m_Ahead {m : Mb} {A : Ma} (i k : Int) (w : World) (hl : Mlen m) (hm : MbAt w m A) :
    Calls Try.prog 13 #[mv m A, .int .i64 i, .int .i64 k] w (Gives2 (.int .i64 (aheadP m i k).1) (.int .i64 (aheadP m i k).2) w) := by
  unfold aheadP
  rcases knownP_cases m (herdB m i && herdB m k) with ⟨h1, h2⟩ | ⟨hv, hi, hk, h2⟩ | ⟨hv, hi, hk, h2⟩
  · rw [if_neg h2]; exact m_Ahead_stop i k w hl hm h1
  · rw [h2, if_neg (by simp)]; exact m_Ahead_clash i k w hl hm hv hi hk
  · rw [if_pos h2]
    have hi2 := hi
    rw [Bool.and_eq_true] at hi2
    have b1 := inB_of hi2.1
    have b2 := inB_of hi2.2
    obtain ⟨i', rfl⟩ : ∃ i' : Nat, i = (i' : Int) := ⟨i.toNat, by omega⟩
    obtain ⟨k', rfl⟩ : ∃ k' : Nat, k = (k' : Int) := ⟨k.toNat, by omega⟩
    exact m_Ahead_ok i' k' w hl hm hv hi hk
end Go.Proofs.Yteeinehpneppnaa
set_option linter.unusedVariables false
set_option linter.unusedSimpArgs false
namespace Go.Proofs.Yteeinehpneppnaa
open Go.RowKit Go.Proofs
attribute [local irreducible] Ord.walk
/-- The place of a mob on a day, by the first places. -/
def nowTo (m : Mb) (L : List Int) (s : Nat) (d day : Int) : Nat → Nat
  | 0 => s
  | k + 1 => if inK m L s d k ≤ day then s + k else nowTo m L s d day k
def nowP (m : Mb) (L : List Int) (s : Nat) (d day : Int) : Nat := nowTo m L s d day (m.places.length - s)
theorem nowTo_in {m : Mb} (L : List Int) (s : Nat) (d day : Int) : ∀ k, s + k ≤ m.places.length → s < m.places.length → s ≤ nowTo m L s d day k ∧ nowTo m L s d day k < m.places.length
  | 0, _, h => by simp only [nowTo]; omega
  | k + 1, hk, h => by
    have ih := nowTo_in L s d day k (by omega) h
    simp only [nowTo]
    split <;> omega
theorem or_any6 : ∀ a < 64, ∀ i < 6, bits .or .i64 ((a : Nat) : Int) ((2 ^ i : Nat) : Int) = ((a ||| 2 ^ i : Nat) : Int) ∧ a ||| 2 ^ i < 64 := by decide +kernel
/-- The set with some places more. -/
def orL (S : Nat) (ps : List Nat) : Nat := ps.foldl (fun S p => S ||| 2 ^ p) S
theorem orL_append (S : Nat) (ps qs : List Nat) : orL S (ps ++ qs) = orL (orL S ps) qs := by unfold orL; rw [List.foldl_append]
theorem orL_lt {S : Nat} (hS : S < 64) : ∀ (ps : List Nat), (∀ p ∈ ps, p < 6) → orL S ps < 64
  | [], _ => hS
  | p :: ps, h => by
    have := (or_any6 S hS p (h p (by simp))).2
    exact orL_lt this ps (fun q hq => h q (by simp [hq]))
/-- The places of a mob on a day, with how long legs take. -/
def nowsL (m : Mb) (i : Nat) (day : Int) (L : List Int) : List Nat := (rangeI (leavesM m L i (everyN m)).1 (leavesM m L i (everyN m)).2).map fun n => nowP m L (startN m i) n day
def whereTo (m : Mb) (i : Nat) (day : Int) (k : Nat) : Nat := orL 0 (((toldL m (everyN m)).take k).flatMap (nowsL m i day))
def whereN (m : Mb) (i : Nat) (day : Int) : Nat := whereTo m i day (toldL m (everyN m)).length
theorem whereTo_succ {m : Mb} {i : Nat} {day : Int} {k : Nat} (h : k < (toldL m (everyN m)).length) : whereTo m i day (k + 1) = orL (whereTo m i day k) (nowsL m i day (toldL m (everyN m))[k]) := by
  unfold whereTo; rw [List.take_succ_eq_append_getElem h, List.flatMap_append, orL_append]; simp
end Go.Proofs.Yteeinehpneppnaa
set_option linter.unusedVariables false
set_option linter.unusedSimpArgs false
namespace Go.Proofs.Yteeinehpneppnaa
open Go.RowKit Go.Proofs
attribute [local irreducible] Ord.walk
attribute [local go_sem] Oper.semAt_some
noncomputable def whDay : Code := sI (sL (sR (sI (sI (sR (sR (sI (sI (sI (sR (sL (sR (sR (sR (sR (Try.f23.body.getD .skip))))))))))))))))
set_option maxHeartbeats 40000000 in
set_option maxRecDepth 100000 in
theorem where_day {u0 u1 u2 u3 u4 u6 u7 u12 u14 u15 u16 u17 u18 u19 u20 u21 u22 u23 u24 u25 u26 u27 u28 u29 u30 u31 u32 u33 u34 u35 u36 u37 u38 u39 u40 u41 u42 u43 u44 u45 u46 u47 u48 u49 u50 u51 u52 u53 u54 u55 u56 u57 u58 u59 u60 u61 u62 u63 u64 u65 u66 u67 : Value} {m : Mb} {A : Ma} {pa : Option Addr} {pc wp mb : Nat} {W0 : World} (hv : validM m = true) (hO : Opened W0 wp m A pa pc mb) {L : List Int} (hL : L ∈ prodL m.legs) (s : Nat) (hs : s < m.places.length) (q2 q3 q4 n day : Int) (hn0 : 0 ≤ n) (hn1 : n ≤ 30) (S : Nat) (hS : S < 64)
    (l : Nat) (Q : Exit → Act → World → Prop) (hQ : ¬ LetsOut Q) (hP : ∀ c a w, ¬ Q (.panic c) a w) (W2 : World) (z t11 n2 p9 p10 : Nat) (hW : Way W0 mb m W2) (c8 : Blk W2 z #[.pointer (some ⟨wp, 0, none⟩)] 80) (c2 : Blk W2 n2 #[.int .i64 day] 3) (c9 : Blk W2 p9 #[.int .i64 (S : Int)] 3) (c10 : Blk W2 p10 #[.int .i64 (s : Int), .int .i64 q2, .int .i64 q3, .int .i64 q4] 116) (c11 : Blk W2 t11 (legC L) 90)
    (hlp : ∃ r, W2.heap[l]? = some (.loop r)) (h9 : p9 ≠ z ∧ p9 ≠ n2 ∧ p9 ≠ t11 ∧ p9 ≠ p10) (h90 : W0.heap.size ≤ p9)
    (hexit : ∀ (x14 x47 x48 x49 x50 x51 x52 x53 x54 x55 x56 x63 x64 x65 x66 : Value) W', Lets (fun j _ => j = p9) W2 W' → Blk W' p9 #[.int .i64 ((S ||| 2 ^ nowP m L s n day : Nat) : Int)] 3 →
      Q .normal ⟨(u0 :: u1 :: u2 :: u3 :: u4 :: .pointer (some ⟨n2, 0, none⟩) :: u6 :: u7 :: .pointer (some ⟨z, 0, none⟩) :: .pointer (some ⟨p9, 0, none⟩) :: .pointer (some ⟨p10, 0, none⟩) :: .pointer (some ⟨t11, 0, none⟩) :: u12 :: .int .i64 n :: x14 :: u15 :: u16 :: u17 :: u18 :: u19 :: u20 :: u21 :: u22 :: u23 :: u24 :: u25 :: u26 :: u27 :: u28 :: u29 :: u30 :: u31 :: u32 :: u33 :: u34 :: u35 :: u36 :: u37 :: u38 :: u39 :: u40 :: u41 :: u42 :: u43 :: u44 :: u45 :: u46 :: x47 :: x48 :: x49 :: x50 :: x51 :: x52 :: x53 :: x54 :: x55 :: x56 :: u57 :: u58 :: u59 :: u60 :: u61 :: u62 :: x63 :: x64 :: x65 :: x66 :: u67 :: []).toArray, []⟩ W') :
    whDay.wpIn (Fence.wide.inRound l) 0 Try.prog Q ⟨(u0 :: u1 :: u2 :: u3 :: u4 :: .pointer (some ⟨n2, 0, none⟩) :: u6 :: u7 :: .pointer (some ⟨z, 0, none⟩) :: .pointer (some ⟨p9, 0, none⟩) :: .pointer (some ⟨p10, 0, none⟩) :: .pointer (some ⟨t11, 0, none⟩) :: u12 :: .int .i64 n :: u14 :: u15 :: u16 :: u17 :: u18 :: u19 :: u20 :: u21 :: u22 :: u23 :: u24 :: u25 :: u26 :: u27 :: u28 :: u29 :: u30 :: u31 :: u32 :: u33 :: u34 :: u35 :: u36 :: u37 :: u38 :: u39 :: u40 :: u41 :: u42 :: u43 :: u44 :: u45 :: u46 :: u47 :: u48 :: u49 :: u50 :: u51 :: u52 :: u53 :: u54 :: u55 :: u56 :: u57 :: u58 :: u59 :: u60 :: u61 :: u62 :: u63 :: u64 :: u65 :: u66 :: u67 :: []).toArray, []⟩ W2 := by
  have hn6 := validM_len hv
  obtain ⟨now, hnow⟩ : ∃ now, nowP m L s n day = now := ⟨_, rfl⟩
  have hni := (nowTo_in L s n day (m.places.length - s) (by omega) hs).2
  have HNow : Hid (nowTo m L s n day (m.places.length - s) = now) := hnow
  change nowP m L s n day < _ at hni
  rw [hnow] at hni
  rw [hnow] at hexit
  clear hnow
  have HE := Lib.hid hexit
  have hmb := hO.mb_lt
  have hwp := hO.wp_lt
  have hsz := hW.2.size
  clear hexit
  conv => arg 4; whnf
  have r10 := c10.cell
  gi_wp2_with fail
  (repeat (first | ((with_reducible refine wpIn_region_of ?_ ?_ ?_); (focus exact fun ⟨a, w, h⟩ => hQ ⟨a, w, h⟩); (focus rfl)) | gi_step))
  obtain ⟨Wa, hWa⟩ : ∃ Wa, W2.alloc (.cells #[.int .i64 (s : Int)] 3) = Wa := ⟨_, rfl⟩
  have hBa : Below W2.heap.size W2 Wa := by rw [← hWa]; (repeat (first | assumption | exact Below.refl _ _ | refine Below.drew ?_ | refine Below.alloc ?_ (by first | omega | (simp; done) | (simp; omega)) _ | refine Below.setCell ?_ (by first | omega | (simp; done) | (simp; omega)) _ | refine Below.trans ?_ (Below.mono (by assumption) (by first | omega | (simp; done) | (simp; omega)))))
  have ba : Blk Wa W2.heap.size #[.int .i64 (s : Int)] 3 := by rw [← hWa]; exact Blk.new _ _ _
  have hsa : Wa.heap.size = W2.heap.size + 1 := by rw [← hWa]; simp
  rw [hWa]
  clear hWa
  have hBa' : Below W2.heap.size W2 Wa := hBa
  have d8 := c8.below hBa c8.lt
  have d2 := c2.below hBa c2.lt
  have d9 := c9.below hBa c9.lt
  have d10 := c10.below hBa c10.lt
  have d11 := c11.below hBa c11.lt
  have hWya := hW.below hBa hmb
  have hbw := (hO.at_ hWya).blk
  obtain ⟨r, hr⟩ := hlp
  have hla : Wa.heap[l]? = some (.loop r) := (hBa.block l (Array.getElem?_eq_some_iff.1 hr).1).trans hr
  have d9l := d9.lt
  obtain ⟨nd, hnd⟩ : ∃ nd, Wa.heap.size = nd := ⟨_, rfl⟩
  have hD0 : Hid (Calls Try.prog 81 #[.agg (hdC ((s : Int), q2, q3, q4)), .slice pa m.places.length pc, .agg (legC L), .int .i64 n] Wa.drew (fun e w' => e = .returned (daysF nd) ∧ DaysAt w' nd ((s : Int), q2, q3, q4) pa m.places.length pc L n ∧ Below Wa.drew.heap.size Wa.drew w' ∧ w'.heap.size = nd + 4)) := by
    have := m_days ((s : Int), q2, q3, q4) pa m.places.length pc L n Wa.drew
    rw [World.size_drew, hnd] at this
    rw [World.size_drew, hnd]
    exact this
  have hp9 := c9.lt
  clear hr r10
  generalize hzb : W2.heap.size = zb at *
  have HZ := Lib.hid hzb
  have hzb2 : W2.heap.size ≤ zb ∧ zb ≤ W2.heap.size := by omega
  clear hzb
  have hsa2 : Wa.heap.size ≤ zb + 1 ∧ zb + 1 ≤ Wa.heap.size := by omega
  have r8 := d8.cell
  have rw' := hbw.cell
  refine Ord.wpIn_region (fun ⟨a, w, h⟩ => hQ ⟨a, w, h⟩) [(0, 0), (1, 0), (2, 0), (3, 0), (4, 0), (5, 0), (6, 0), (7, 2)] (fun _ => True) (by kernel_rfl) (by kernel_rfl) (by kernel_rfl) (fun c a d v w h => (hP c _ w h).elim) trivial ?_
  go_wp2_with (first
    | (refine wpList_load_blk 116 (.tmp 10) agg_herd rfl rfl rfl d10.drew rfl ?_)
    | (refine wpList_load_blk 90 (.tmp 11) agg_legs rfl rfl rfl d11.drew rfl ?_)
    | (go_at_call 81; refine hD0.out.mono ?_; rintro e w3 ⟨rfl, hD3, hb3, hs3⟩)
    | ((with_reducible refine Ord.at_calm ?_); refine Ord.calm_skip rfl ?_ (fun K hK => ?_); (focus (simp [Region.wanted, yielded]; done))) | with_reducible refine Ord.walk_calm rfl rfl (fun K hK => ?_) | ((with_reducible refine Ord.at_wild ?_); refine Ord.wild_fieldAddr rfl rfl (fun W => by simp [go_sem]; rfl) (fun K hK => ?_)) | ((with_reducible refine Ord.at_wild ?_); refine Ord.wild_move rfl rfl (fun K hK => ?_)) | ((with_reducible refine Ord.at_wild ?_); refine Ord.wild_nilCheck rfl rfl (fun K hK => ?_)) | with_reducible refine Ord.walk_eff rfl (by first | (simp; done) | assumption | (go_simp; done) | (repeat (first | assumption | exact Below.refl _ _ | refine Below.drew ?_ | refine Below.alloc ?_ (by first | omega | (simp; done) | (simp; omega)) _ | refine Below.setCell ?_ (by first | omega | (simp; done) | (simp; omega)) _ | refine Below.trans ?_ (Below.mono (by assumption) (by first | omega | (simp; done) | (simp; omega)))))) (fun K hK => ?_) | with_reducible refine Ord.at_fork ?_ ?_ | with_reducible refine Ord.walk_nil ?_ | (with_reducible refine Ord.next_of (by first | (simp; done) | (go_simp; done) | (repeat (first | assumption | exact Below.refl _ _ | refine Below.drew ?_ | refine Below.alloc ?_ (by first | omega | (simp; done) | (simp; omega)) _ | refine Below.setCell ?_ (by first | omega | (simp; done) | (simp; omega)) _ | refine Below.trans ?_ (Below.mono (by assumption) (by first | omega | (simp; done) | (simp; omega)))))) (fun _ => ?_)))
  have hs3b := hb3.size
  (try simp only [World.size_drew] at hs3b)
  have hnd2 : nd ≤ zb + 1 ∧ zb + 1 ≤ nd := by omega
  have hs32 : w3.heap.size ≤ nd + 4 ∧ nd + 4 ≤ w3.heap.size := by omega
  have HND := Lib.hid hnd
  have hnd3 : Wa.heap.size ≤ nd ∧ nd ≤ Wa.heap.size := by omega
  clear hnd hsa
  have hB3 : Below zb Wa w3 := hb3.undrew.mono (by omega)
  have ba3 := ba.below hb3.undrew ba.lt
  have hl3 : w3.heap[l]? = some (.loop r) := (hb3.undrew.block l (Array.getElem?_eq_some_iff.1 hla).1).trans hla
  have hpa : ∀ g go, pa = some ⟨g, go, none⟩ → g < W0.heap.size := fun g go e => by
    obtain ⟨gb, go', h0, h1⟩ := hO.way.spots 0 (by omega)
    rw [e] at h0
    simp only [Option.some.injEq, Addr.mk.injEq] at h0
    obtain ⟨rfl, -, -⟩ := h0
    exact World.block_lt_of_cell? W0 _ (h1 0 _ rfl)
  have hsp3 : RowsAt w3 pa 1 (fun p => [spotV p]) m.places := (hO.at_ (hWya.below hb3.undrew hmb)).spots
  have hx2 : Blk Wa n2 #[.int .i64 day] 3 := d2
  have hn2 : n2 < zb := by have := c2.lt; omega
  unfold daysF
  clear r8 rw' hb3 hbw d8 d9 d10 d11 hla hs3
  refine wpIn_block ?_
  refine wp_rangeN (gf := 105) (lb := #[.pointer (some ⟨nd, 0, none⟩), .pointer (some ⟨nd + 1, 0, none⟩), .pointer (some ⟨nd + 3, 0, none⟩), .pointer (some ⟨nd + 2, 0, none⟩)]) (encs := dayV) (xs := daysL m L s n) (XI := fun k _ => k = nd + 3) (XB := fun k _ => k = zb) (Mid := fun _ => True)
    (fun k W => Below zb Wa W ∧ Blk W zb #[.int .i64 (nowTo m L s n day k : Nat)] 3) (fun _ _ => False)
    ⟨r, hl3⟩ rfl Try.call105 (fun _ => rfl)
    (fun W1 hb1 hs1 => days_seq hv hL _ s rfl hs pa pc nd n hn0 hn1 _ W1 ⟨hD3.b0.below hb1 hD3.b0.lt, hD3.b1.below hb1 hD3.b1.lt, hD3.b2.below hb1 hD3.b2.lt, hD3.b3.below hb1 hD3.b3.lt⟩ (hsp3.below hb1) (fun g go e => by have := hpa g go e; omega) _ (fun k o h => ⟨by omega, fun g go e => by have := hpa g go e; omega⟩))
    (fun o h => by omega) (fun o h => by omega)
    (fun k A B h hl => ⟨below_lets h.1 hl (by omega) (fun _ _ _ => by omega), blk_lets h.2 hl (fun _ => by omega)⟩)
    (fun c A B h hl => h)
    (fun k A B h hl => ⟨below_lets h.1 hl (by omega) (fun _ _ _ => by omega), blk_lets h.2 hl (fun _ => by omega)⟩)
    (fun c A B h hl => h) (fun _ _ _ _ => trivial) ⟨hB3, ba3⟩ ?round ?done ?stop
  case round =>
    intro k hk W hI _ hrec
    rw [daysL_len] at hk
    unfold RoundOk
    rw [daysL_get]
    unfold dayV
    have HS : Hid (nowTo m L s n day (k + 1) = if inK m L s n k ≤ day then s + k else nowTo m L s n day k) := rfl
    generalize nowTo m L s n day (k + 1) = nx at *
    generalize nowTo m L s n day k = nw at *
    generalize inK m L s n k = came at *
    gi_wp2_with fail
    refine ⟨Lets.refl _ _, fun W₂ hl2 hs2 hI2 _ => ?_⟩
    obtain ⟨hB2, b2⟩ := hI2
    have rd := (hx2.below (hB2.mono (by omega)) hn2).cell
    have r2 := b2.cell
    have f2 := b2.free
    have l2 := b2.lt
    clear hI hl2 hs2 hD3 ba3 ba
    by_cases hc : came ≤ day
    · rw [if_pos hc] at HS
      gi_wp2_with fail
      have hv1 : Value.int .i64 ((s : Int) + (k : Int)) = .int .i64 ((nx : Nat) : Int) := by rw [HS.out]; simp
      rw [hv1]
      exact ⟨(Lets.refl _ _).setCell rfl _, trivial, hB2.setCell (by simp) _, b2.set 0 _⟩
    · rw [if_neg hc] at HS
      gi_wp2_with fail
      exact ⟨Lets.refl _ _, trivial, hB2, by rw [HS.out]; exact b2⟩
  case done =>
    intro W hI hM
    obtain ⟨hB2, b2⟩ := hI
    rw [daysL_len, HNow.out] at b2
    have h9z : p9 < zb := by omega
    have e9 : Blk W p9 #[.int .i64 (S : Int)] 3 := (c9.below hBa h9z).below (hB2) h9z
    have hor := (or_any6 S hS now (by omega)).1
    have hol := (or_any6 S hS now (by omega)).2
    have hwp2 := wrap_pow now (by omega)
    have hnow6 : (now : Int) < 6 := by omega
    have hsd := now
    have r9 := e9.cell
    have f9 := e9.free
    have r2 := b2.cell
    have l9 := e9.lt
    generalize hPw : 2 ^ now = Pw at *
    have HPW := Lib.hid hPw
    clear hPw
    have hP32 : (Pw : Int) ≤ 32 := by
      have : 2 ^ now ≤ 2 ^ 5 := Nat.pow_le_pow_right (by omega) (by omega)
      have h := HPW.out
      omega
    have hS64 : (S : Int) < 64 := by omega
    have hBz : Below zb W2 W := hBa'.trans hB2
    have hnd9 := h9.1
    generalize hT : S ||| Pw = T at *
    clear hT hB2 hD3 ba3 ba hB3 hsp3 c8 c2 c10 c11 c9
    simp only [Exit.inBlock, Exit.then]
    gi_wp2_with fail
    refine Ord.wpIn_region (fun ⟨a, w, h⟩ => hQ ⟨a, w, h⟩) [(0, 0), (1, 0), (2, 0), (3, 0), (4, 2)] (fun _ => True) (by kernel_rfl) (by kernel_rfl) (by kernel_rfl) (fun c a d v w h => (hP c _ w h).elim) trivial ?_
    go_wp2_with (first
      | ((with_reducible refine Ord.at_calm ?_); refine Ord.calm_skip rfl ?_ (fun K hK => ?_); (focus (simp [Region.wanted, yielded]; done))) | with_reducible refine Ord.walk_calm rfl rfl (fun K hK => ?_) | ((with_reducible refine Ord.at_wild ?_); refine Ord.wild_fieldAddr rfl rfl (fun W => by simp [go_sem]; rfl) (fun K hK => ?_)) | ((with_reducible refine Ord.at_wild ?_); refine Ord.wild_move rfl rfl (fun K hK => ?_)) | ((with_reducible refine Ord.at_wild ?_); refine Ord.wild_nilCheck rfl rfl (fun K hK => ?_)) | with_reducible refine Ord.walk_eff rfl (by first | (simp; done) | assumption | (go_simp; done) | (repeat (first | assumption | exact Below.refl _ _ | refine Below.drew ?_ | refine Below.alloc ?_ (by first | omega | (simp; done) | (simp; omega)) _ | refine Below.setCell ?_ (by first | omega | (simp; done) | (simp; omega)) _ | refine Below.trans ?_ (Below.mono (by assumption) (by first | omega | (simp; done) | (simp; omega)))))) (fun K hK => ?_) | with_reducible refine Ord.at_fork ?_ ?_ | with_reducible refine Ord.walk_nil ?_ | (with_reducible refine Ord.next_of (by first | (simp; done) | (go_simp; done) | (repeat (first | assumption | exact Below.refl _ _ | refine Below.drew ?_ | refine Below.alloc ?_ (by first | omega | (simp; done) | (simp; omega)) _ | refine Below.setCell ?_ (by first | omega | (simp; done) | (simp; omega)) _ | refine Below.trans ?_ (Below.mono (by assumption) (by first | omega | (simp; done) | (simp; omega)))))) (fun _ => ?_)))
    refine HE.out _ _ _ _ _ _ _ _ _ _ _ _ _ _ _ _ ?_ ?_
    · have hz : Below W2.heap.size W2 W := by rw [HZ.out]; exact hBz
      exact ((Lets.of_below hz).setCell (p := ⟨p9, 0, none⟩) rfl _).drew
    · exact (e9.set 0 _).drew
  case stop =>
    intro c W h
    exact h.elim
end Go.Proofs.Yteeinehpneppnaa
