/- Parts of a proof: MoU, MpA. -/
import Derived.Test.YteeinehpneppnaaQ18
import Derived.Test.YteeinehpneppnaaQ08
set_option linter.unusedVariables false
set_option linter.unusedSimpArgs false
namespace Go.Proofs.Yteeinehpneppnaa
open Go.RowKit Go.Proofs
attribute [local irreducible] Ord.walk
theorem wrap_pow (k : Nat) (h : k < 7) : wrap64 ((2 : Int) ^ k) = ((2 ^ k : Nat) : Int) := by
  rcases (show k = 0 ∨ k = 1 ∨ k = 2 ∨ k = 3 ∨ k = 4 ∨ k = 5 ∨ k = 6 by omega) with rfl | rfl | rfl | rfl | rfl | rfl | rfl <;> (unfold wrap64; decide)
def sureN (m : Mb) (d : Int) (k : Nat) : Nat := setN (fun i => decide ((thereJ m i).2 ≤ d)) k
def mayN (m : Mb) (d : Int) (k : Nat) : Nat := setN (fun i => decide ((thereJ m i).1 ≤ d)) k
set_option maxHeartbeats 40000000 in
set_option maxRecDepth 100000 in
theorem m_There_ok {m : Mb} {A : Ma} (d : Int) (w : World) (hl : Mlen m) (hm : MbAt w m A) (hv : validM m = true) (hi : (inB d 0 100) = true) (hk : knownM m = true) :
    Calls Try.prog 15 #[mv m A, .int .i64 d] w (Gives3 (.int .i64 (sureN m d m.herds.length : Nat)) (.int .i64 (mayN m d m.herds.length : Nat)) (.int .i64 0) w) := by
  have hh4 : m.herds.length ≤ 4 := (validM_len hv).2.2.2.1
  have hh4i : (m.herds.length : Int) ≤ 4 := by omega
  have hmf := hmf_mob
  have HO : Hid (∀ W, Below w.heap.size w W → Blk W (w.heap.size + 1) #[.int .i64 d] 3 → Calls Try.prog 42 #[mv m A, .func (.func 54) #[] #[.pointer (some ⟨w.heap.size + 1, 0, none⟩)]] W (fun e w' => ∃ wp mb pa pc, e = .returned (.pointer (some ⟨wp, 0, none⟩)) ∧ Opened w' wp m A pa pc mb ∧ Below W.heap.size W w' ∧ W.heap.size ≤ wp ∧ W.heap.size ≤ mb)) := fun W hb b1 =>
    (m_open m A 54 #[.pointer (some ⟨w.heap.size + 1, 0, none⟩)] (inB d 0 100) W hl (hm.below hb) (fun args W => Try.call54 args W) (fun hv W' wp mb pa pc hw hb' => m_dayC _ wp d W' (b1.below hb' b1.lt))).mono fun e w' h => open_ok h hv hi
  clear hl hm
  unfold mv mcells at *
  refine callsIn_wide.1 (callsIn_of_wp_marks (F := Fence.wide) (n := 0) Try.func15 rfl trivial (wpIn_wide.2 ?_) rfl)
  simp only [Try.ntmps15, List.size_toArray, List.length_cons, List.length_nil, Nat.reduceAdd, Nat.reduceSub, Array.replicate_succ, Array.replicate_zero, List.push_toArray, List.append_toArray, List.nil_append, List.cons_append]
  go_wp2_with (first
    | (go_at_call 42; refine at_stop ?_))
  unfold Stop
  obtain ⟨W5, hW5⟩ : ∃ W5, (((w.alloc (.cells #[.slice A.pa m.places.length A.pc, .slice A.la m.legs.length A.lc, .slice A.ha m.herds.length A.hc, .slice A.sa m.seen.length A.sc] 27)).alloc (.cells #[.int .i64 d] 3)).alloc (.cells #[.int .i64 0] 30)) = W5 := ⟨_, rfl⟩
  have hB5 : Below w.heap.size w W5 := by rw [← hW5]; (repeat (first | assumption | exact Below.refl _ _ | refine Below.drew ?_ | refine Below.alloc ?_ (by first | omega | (simp; done) | (simp; omega)) _ | refine Below.setCell ?_ (by first | omega | (simp; done) | (simp; omega)) _ | refine Below.trans ?_ (Below.mono (by assumption) (by first | omega | (simp; done) | (simp; omega)))))
  have b1 : Blk W5 (w.heap.size + 1) #[.int .i64 d] 3 := by rw [← hW5]; exact ((Blk.new' _ _ _ _ (by simp)).alloc _)
  have b4 : Blk W5 (w.heap.size + 2) #[.int .i64 0] 30 := by rw [← hW5]; exact Blk.new' _ _ _ _ (by simp)
  have bm : Blk W5 w.heap.size #[.slice A.pa m.places.length A.pc, .slice A.la m.legs.length A.lc, .slice A.ha m.herds.length A.hc, .slice A.sa m.seen.length A.sc] 27 := by rw [← hW5]; exact ((Blk.new _ _ _).alloc _).alloc _
  have hs5 : W5.heap.size = w.heap.size + 3 := by rw [← hW5]; simp
  rw [hW5]
  refine (HO.out W5 hB5 b1).mono ?_
  rintro e w6 ⟨wp, mb, pa, pc, rfl, hO, hb6, hwp, hmb⟩
  have hs6 := hb6.size
  have hmb6 := hO.mb_lt
  have hW6 : Way w6 mb m w6 := ⟨hO.kept, Lets.refl _ _⟩
  have HKn := Lib.hid (m_known_yes hv hO w6 hW6 hk)
  go_wp2_with (first
    | (go_at_call 45; refine HKn.out.mono ?_; rintro e w7 ⟨rfl, hW7, hl7⟩; refine at_stop ?_))
  unfold Stop
  have hs7 := hl7.size
  have bm7 := hl7.blk (bm.below hb6 bm.lt) (by omega)
  have rm := bm7.cell
  go_wp2_with fail
  obtain ⟨W8, hW8⟩ : ∃ W8, w7.alloc (.cells #[.pointer (some ⟨wp, 0, none⟩)] 80) = W8 := ⟨_, rfl⟩
  have hs8 : W8.heap.size = w7.heap.size + 1 := by rw [← hW8]; simp
  have hB8 : Below w7.heap.size w7 W8 := by rw [← hW8]; (repeat (first | assumption | exact Below.refl _ _ | refine Below.drew ?_ | refine Below.alloc ?_ (by first | omega | (simp; done) | (simp; omega)) _ | refine Below.setCell ?_ (by first | omega | (simp; done) | (simp; omega)) _ | refine Below.trans ?_ (Below.mono (by assumption) (by first | omega | (simp; done) | (simp; omega)))))
  have b8 : Blk W8 w7.heap.size #[.pointer (some ⟨wp, 0, none⟩)] 80 := by rw [← hW8]; exact Blk.new _ _ _
  have hWy8 := hW7.below hB8 hmb6
  have b18 := (hl7.blk (b1.below hb6 b1.lt) (by omega)).below hB8 (by omega)
  have b48 := (hl7.blk (b4.below hb6 b4.lt) (by omega)).below hB8 (by omega)
  have hBw : Below w.heap.size w W8 := below_lets (hB5.trans (hb6.mono (by omega))) (hl7.trans (Lets.of_below hB8)) (Nat.le_refl _) (fun _ _ _ => by omega)
  rw [hW8]
  generalize hz7 : w7.heap.size = z7 at *
  have hs8a : W8.heap.size ≤ z7 + 1 ∧ z7 + 1 ≤ W8.heap.size := by omega
  have hs5a : W5.heap.size ≤ w.heap.size + 3 ∧ w.heap.size + 3 ≤ W5.heap.size := by omega
  have hz7a : z7 ≤ w7.heap.size ∧ w7.heap.size ≤ z7 := by omega
  clear hW8 hi hk hs8 hs5 hz7 b1 b4 bm bm7 rm HO
  go_loopw [8, 9, 20] (fun a b x wr => ∃ k : Nat, k ≤ m.herds.length ∧ x = .int .i64 (k : Int) ∧ a = .int .i64 ((sureN m d k : Nat) : Int) ∧ b = .int .i64 ((mayN m d k : Nat) : Int) ∧ Way w6 mb m wr ∧ Lets (fun j _ => j = mb) W8 wr) (fun _ _ x _ => m.herds.length - (intOf x).toNat)
  case atStart => exact ⟨0, Nat.zero_le _, rfl, rfl, rfl, hWy8, Lets.refl _ _⟩
  case round =>
    obtain ⟨k, hk, rfl, rfl, rfl, hWr, hLr⟩ := hrel
    have hsr := hLr.size
    have b8r := hLr.blk b8 (by omega)
    have b18r := hLr.blk b18 (by omega)
    by_cases hlt : k < m.herds.length
    · have hlti : (k : Int) < m.herds.length := by omega
      have HH := Lib.hid (fun W tb hw hT htb b7 b10 => there_hull hv hO k hlt z7 wr.heap.size tb W hw hT htb b7 b10 (by omega) (by omega))
      have HS1 : Hid (sureN m d (k + 1) = if decide ((thereJ m k).2 ≤ d) = true then sureN m d k + 2 ^ k else sureN m d k) := rfl
      have HS2 : Hid (mayN m d (k + 1) = if decide ((thereJ m k).1 ≤ d) = true then mayN m d k + 2 ^ k else mayN m d k) := rfl
      have hl1 : sureN m d k < 2 ^ k := setN_lt _ k
      have hl2 : mayN m d k < 2 ^ k := setN_lt _ k
      generalize thereJ m k = J at *
      obtain ⟨j1, j2⟩ := J
      simp only at *
      obtain ⟨Wa, hWa⟩ : ∃ Wa, wr.alloc (.cells #[.int .i64 (k : Int)] 3) = Wa := ⟨_, rfl⟩
      have hBa : Below wr.heap.size wr Wa := by rw [← hWa]; (repeat (first | assumption | exact Below.refl _ _ | refine Below.drew ?_ | refine Below.alloc ?_ (by first | omega | (simp; done) | (simp; omega)) _ | refine Below.setCell ?_ (by first | omega | (simp; done) | (simp; omega)) _ | refine Below.trans ?_ (Below.mono (by assumption) (by first | omega | (simp; done) | (simp; omega)))))
      have hsa : Wa.heap.size = wr.heap.size + 1 := by rw [← hWa]; simp
      have b10 : Blk Wa wr.heap.size #[.int .i64 (k : Int)] 3 := by rw [← hWa]; exact Blk.new _ _ _
      have hWya := hWr.below hBa hmb6
      have b8a := b8r.below hBa b8r.lt
      have hLa : Lets (fun j _ => j = mb) W8 Wa := hLr.trans (Lets.of_below hBa)
      go_upto_region 7 with fail
      clear hWa
      have hsaa : Wa.heap.size ≤ wr.heap.size + 1 ∧ wr.heap.size + 1 ≤ Wa.heap.size := by omega
      clear hsa
      go_cut [11] from 23 to 29 (fun p wx => ∃ pb : Nat, p = .pointer (some ⟨pb, 0, none⟩) ∧ Blk wx pb #[.int .i64 j1, .int .i64 j2] 39 ∧ Blk wx wr.heap.size #[.int .i64 (k : Int)] 3 ∧ Way w6 mb m wx ∧ Lets (fun j _ => j = mb) W8 wx)
      case first =>
        have HE := Lib.hid (fun W hw => m_everyW hv hO W hw)
        have HT := Lib.hid (fun W => m_told wp (everyN m) W)
        generalize everyN m = E at *
        have hI := And.intro hWya.drew (And.intro b8a.drew b10.drew)
        have hIs := And.intro (hWya.below ((Below.refl Wa.heap.size Wa).alloc (Nat.le_refl _) (.cells #[.int .i64 0, .int .i64 0] 39)) hmb6).drew (And.intro (b8a.alloc (.cells #[.int .i64 0, .int .i64 0] 39)).drew (b10.alloc (.cells #[.int .i64 0, .int .i64 0] 39)).drew)
        refine Ord.wp_regionTN 4 (.fork2 [(0, 1), (1, 1), (2, 1), (4, 1), (5, 1)] 3 (.fork2 [] 6 (.leaf [(7, 2), (8, 2)]) 7 (.leaf [(6, 2), (8, 2)])) 7 (.leaf [(3, 2), (6, 2), (8, 2)])) (fun W => Way w6 mb m W ∧ Blk W z7 #[.pointer (some ⟨wp, 0, none⟩)] 80 ∧ Blk W wr.heap.size #[.int .i64 (k : Int)] 3) (by kernel_rfl) (by kernel_rfl) hI ?_
        go_wp2_with (first
          | ((with_reducible refine Ord.at_wild ?_); refine Ord.wild_load (ad := ⟨z7, 0, none⟩) (.pointer (some ⟨wp, 0, none⟩)) rfl rfl ?_ ?_; (focus (intro W hW; have r := hW.2.1.cell; simp [go_sem, r]; done)); intro K hK)
          | ((with_reducible refine Ord.at_wild ?_); refine Ord.walk_wild_as rfl (.func (.func 57) #[] #[.pointer (some ⟨z7, 0, none⟩), .pointer (some ⟨wr.heap.size, 0, none⟩)]) ?_ ?_; (focus (intro W hW; simp [go_sem, Ord.yields, Ord.yieldUpon, hmf]; done)); intro K hK)
          | ((with_reducible refine Ord.at_wild ?_); refine Ord.walk_wild_as rfl (.agg #[.func (.func 57) #[] #[.pointer (some ⟨z7, 0, none⟩), .pointer (some ⟨wr.heap.size, 0, none⟩)]]) ?_ ?_; (focus (intro W hW; simp [go_sem, Ord.yields, Ord.yieldUpon, ]; done)); intro K hK)
          | (go_at_call 46; refine (HT.out _).mono ?_; rintro e w9 ⟨rfl, hT9, hb9, hs9⟩; (try simp only [World.size_drew, World.size_alloc] at hT9); have hs9' := hb9.size; (try simp only [World.size_drew, World.size_alloc] at hs9'); clear hs9; have hW9 : Way w6 mb m w9 := (by first | exact hI.1.below hb9 hmb6 | exact hIs.1.below hb9 hmb6); have b79 : Blk w9 z7 _ _ := (by first | exact hI.2.1.below hb9 hI.2.1.lt | exact hIs.2.1.below hb9 hIs.2.1.lt); have b109 : Blk w9 wr.heap.size _ _ := (by first | exact hI.2.2.below hb9 hI.2.2.lt | exact hIs.2.2.below hb9 hIs.2.2.lt); have hL9 : Lets (fun j _ => j = mb) W8 w9 := (by first | exact hLa.trans (Lets.of_below hb9.undrew) | exact (hLa.alloc (.cells #[.int .i64 0, .int .i64 0] 39)).trans (Lets.of_below hb9.undrew)); have hI9 := And.intro hW9 (And.intro b79 b109); have hW9s := hW9.below ((Below.refl w9.heap.size w9).alloc (Nat.le_refl _) (.cells #[.int .i64 0, .int .i64 0] 39)) hmb6; have hT9s := hT9.lets ((Lets.refl (fun _ _ => False) w9).alloc (.cells #[.int .i64 0, .int .i64 0] 39)) (fun _ e => e) (fun _ e => e); have hI9s := And.intro hW9s (And.intro (b79.alloc (.cells #[.int .i64 0, .int .i64 0] 39)) (b109.alloc (.cells #[.int .i64 0, .int .i64 0] 39))))
          | (go_at_call 56; refine (HH.out _ _ (by first | exact hW9 | exact hW9s) (by first | exact hT9 | exact hT9s) (by omega) (by first | exact b79 | exact b79.alloc _) (by first | exact b109 | exact b109.alloc _)).mono ?_; rintro e wa ⟨rfl, hWa, hla⟩; have hsA := hla.size; (try simp only [World.size_drew, World.size_alloc] at hsA); have b7a := hla.blk (show Blk _ z7 #[.pointer (some ⟨wp, 0, none⟩)] 80 from by first | exact b79 | exact b79.alloc _) (by omega); have b10a := hla.blk (show Blk _ wr.heap.size #[.int .i64 (k : Int)] 3 from by first | exact b109 | exact b109.alloc _) (by omega); have hLA : Lets (fun j _ => j = mb) W8 wa := (by first | exact hL9.trans hla | exact (hL9.alloc (.cells #[.int .i64 0, .int .i64 0] 39)).trans hla); have hIa := And.intro hWa (And.intro b7a b10a); have hIas := And.intro (hWa.below ((Below.refl wa.heap.size wa).alloc (Nat.le_refl _) (.cells #[.int .i64 0, .int .i64 0] 39)) hmb6) (And.intro (b7a.alloc (.cells #[.int .i64 0, .int .i64 0] 39)) (b10a.alloc (.cells #[.int .i64 0, .int .i64 0] 39))))
          | (refine wpList_store_blk 39 (.tmp 11) (.tmp 29) agg_span rfl rfl rfl rfl (by first | exact Blk.new _ _ _ | exact hla.blk (Blk.new _ _ _) (by omega) | exact hla.blk ((Blk.new Wa _ _).drew.below hb9 (by simp)) (by omega)) rfl rfl (by simp [Value.oneCell']) ?_; intro wf hf; have b10f := hf.other (show Blk _ wr.heap.size #[.int .i64 (k : Int)] 3 from by first | exact b10a | exact b10a.alloc _) (by omega); have b7f := hf.other (show Blk _ z7 #[.pointer (some ⟨wp, 0, none⟩)] 80 from by first | exact b7a | exact b7a.alloc _) (by omega); have hLf : Lets (fun j _ => j = mb) W8 wf := (show Lets (fun j _ => j = mb) W8 _ from by first | exact hLA | exact hLA.alloc _).next (Y := fun j _ => Wa.heap.size ≤ j) ((Lets.refl _ _).rowed hf (by omega)) (fun j hj hx => by omega); have hWf : Way w6 mb m wf := (show Way w6 mb m _ from by first | exact hIa.1 | exact hIas.1).lets (X := fun j _ => Wa.heap.size ≤ j) ((Lets.refl _ _).rowed hf (by omega)) hmb6 (fun j _ e => by omega); have hIf := And.intro hWf (And.intro b7f b10f))
          | (refine Ord.next_of hIf (fun _ => ?_))
          | (with_reducible refine Ord.at_nm ?_)
          | with_reducible refine Ord.top_two ?_ | with_reducible refine Ord.top_three ?_ | with_reducible refine Ord.at_two ?_ ?_ | with_reducible refine Ord.at_three ?_ ?_ ?_ | with_reducible refine Ord.tree_leaf ?_ | with_reducible refine Ord.tree_two ?_ | ((with_reducible refine Ord.at_calm ?_); refine Ord.calm_skip rfl ?_ (fun K hK => ?_); (focus (simp [Region.wanted, yielded]; done))) | with_reducible refine Ord.walk_calm rfl rfl (fun K hK => ?_) | ((with_reducible refine Ord.at_wild ?_); refine Ord.wild_fieldAddr rfl rfl (fun W => by simp [go_sem]; rfl) (fun K hK => ?_)) | ((with_reducible refine Ord.at_wild ?_); refine Ord.wild_move rfl rfl (fun K hK => ?_)) | ((with_reducible refine Ord.at_wild ?_); refine Ord.wild_nilCheck rfl rfl (fun K hK => ?_)) | with_reducible refine Ord.walk_eff rfl (by first | (simp; done) | assumption | (go_simp; done) | (repeat (first | assumption | exact Below.refl _ _ | refine Below.drew ?_ | refine Below.alloc ?_ (by first | omega | (simp; done) | (simp; omega)) _ | refine Below.setCell ?_ (by first | omega | (simp; done) | (simp; omega)) _ | refine Below.trans ?_ (Below.mono (by assumption) (by first | omega | (simp; done) | (simp; omega)))))) (fun K hK => ?_) | with_reducible refine Ord.at_fork ?_ ?_ | with_reducible refine Ord.walk_nil ?_ | (with_reducible refine Ord.next_of (by first | (simp; done) | (go_simp; done) | (repeat (first | assumption | exact Below.refl _ _ | refine Below.drew ?_ | refine Below.alloc ?_ (by first | omega | (simp; done) | (simp; omega)) _ | refine Below.setCell ?_ (by first | omega | (simp; done) | (simp; omega)) _ | refine Below.trans ?_ (Below.mono (by assumption) (by first | omega | (simp; done) | (simp; omega)))))) (fun _ => ?_))
          | ((with_reducible refine Ord.at_wild ?_); refine Ord.wild_call rfl (fun W => Try.call47 _ W) (fun W hW => HE.out W hW.1) (fun K hK => ?_)))
        all_goals go_meet
        all_goals exact ⟨_, rfl, hf.blk, b10f, hWf, hLf⟩
      case rest =>
        obtain ⟨pb, rfl, bp, b10x, hWx, hLx⟩ := hcut
        have rp := bp.cell
        have r10 := b10x.cell
        have r1 := (hLx.blk b18 (by omega)).cell
        have hp16 : 2 ^ k ≤ 16 := by
          have : 2 ^ k ≤ 2 ^ 4 := Nat.pow_le_pow_right (by omega) (by omega)
          simpa using this
        have hor1 := or_pow6 (sureN m d k) (by omega) k (by omega) hl1
        have hor2 := or_pow6 (mayN m d k) (by omega) k (by omega) hl2
        have hwp2 := wrap_pow k (by omega)
        have HL := Lib.hid hLx
        have HWx := Lib.hid hWx
        clear HH bp b10x hl1 hl2 hLa hWya b8a b10 hLx hWx
        generalize sureN m d k = s1 at *
        generalize mayN m d k = s2 at *
        generalize hP : 2 ^ k = P at *
        have HP := Lib.hid hP
        clear hP
        by_cases c1 : j2 ≤ d <;> by_cases c2 : j1 ≤ d
        · rw [if_pos (by simpa using c1)] at HS1
          rw [if_pos (by simpa using c2)] at HS2
          go_wp2_with fail
          exact ⟨⟨k + 1, by omega, by go_num, by rw [HS1.out]; first | done | rw [Int.natCast_add], by rw [HS2.out]; first | done | rw [Int.natCast_add], HWx.out, HL.out⟩, by simp [intOf]; omega⟩
        · rw [if_pos (by simpa using c1)] at HS1
          rw [if_neg (by simpa using c2)] at HS2
          go_wp2_with fail
          exact ⟨⟨k + 1, by omega, by go_num, by rw [HS1.out]; first | done | rw [Int.natCast_add], by rw [HS2.out]; first | done | rw [Int.natCast_add], HWx.out, HL.out⟩, by simp [intOf]; omega⟩
        · rw [if_neg (by simpa using c1)] at HS1
          rw [if_pos (by simpa using c2)] at HS2
          go_wp2_with fail
          exact ⟨⟨k + 1, by omega, by go_num, by rw [HS1.out]; first | done | rw [Int.natCast_add], by rw [HS2.out]; first | done | rw [Int.natCast_add], HWx.out, HL.out⟩, by simp [intOf]; omega⟩
        · rw [if_neg (by simpa using c1)] at HS1
          rw [if_neg (by simpa using c2)] at HS2
          go_wp2_with fail
          exact ⟨⟨k + 1, by omega, by go_num, by rw [HS1.out]; first | done | rw [Int.natCast_add], by rw [HS2.out]; first | done | rw [Int.natCast_add], HWx.out, HL.out⟩, by simp [intOf]; omega⟩
    · have hlti : ¬ (k : Int) < (m.herds.length : Int) := by omega
      have e : k = m.herds.length := by omega
      subst e
      have b4r := hLr.blk b48 (by omega)
      have r4 := b4r.cell
      have f4 := b4r.free
      have l4 := b4r.lt
      generalize sureN m d m.herds.length = s1 at *
      generalize mayN m d m.herds.length = s2 at *
      go_wp2_with fail
      obtain ⟨Wf, hWf⟩ : ∃ Wf, wr.setCell ⟨w.heap.size + 2, 0, none⟩ (.int .i64 0) = Wf := ⟨_, rfl⟩
      have r4f := (by rw [← hWf]; exact b4r.set 0 _ : Blk Wf (w.heap.size + 2) #[.int .i64 0] 30).cell
      have hbf : Below w.heap.size w Wf := by rw [← hWf]; exact below_lets hBw (((hLr.mono (fun _ _ e => .inl e) : Lets (fun j _ => j = mb ∨ j = w.heap.size + 2) W8 wr)).setCell (p := ⟨w.heap.size + 2, 0, none⟩) (.inr rfl) (.int .i64 0)) (Nat.le_refl _) (fun _ _ _ => by omega)
      change bodyPostM Fence.wide 0 Try.prog _ _ .ret _ (wr.setCell ⟨w.heap.size + 2, 0, none⟩ (.int .i64 0))
      rw [hWf]
      refine post_out (v := .tuple #[.int .i64 ((s1 : Nat) : Int), .int .i64 ((s2 : Nat) : Int), .int .i64 0]) catch_There (fun W => by simp [go_sem]) rfl ?_ ⟨rfl, hbf⟩
      simp [results, Try.results15, go_sem, r4f]
def thereR (m : Mb) (d : Int) : Int × Int × Int := if knownP m (inB d 0 100) = 0 then (((sureN m d m.herds.length : Nat) : Int), ((mayN m d m.herds.length : Nat) : Int), 0) else (0, 0, knownP m (inB d 0 100))
theorem m_There {m : Mb} {A : Ma} (d : Int) (w : World) (hl : Mlen m) (hm : MbAt w m A) :
    Calls Try.prog 15 #[mv m A, .int .i64 d] w (Gives3 (.int .i64 (thereR m d).1) (.int .i64 (thereR m d).2.1) (.int .i64 (thereR m d).2.2) w) := by
  unfold thereR
  rcases knownP_cases m (inB d 0 100) with ⟨h1, h2⟩ | ⟨hv, hi, hk, h2⟩ | ⟨hv, hi, hk, h2⟩
  · rw [if_neg h2]; exact m_There_stop d w hl hm h1
  · rw [h2, if_neg (by simp)]; exact m_There_clash d w hl hm hv hi hk
  · rw [if_pos h2]; exact m_There_ok d w hl hm hv hi hk
end Go.Proofs.Yteeinehpneppnaa
set_option linter.unusedVariables false
set_option linter.unusedSimpArgs false
namespace Go.Proofs.Yteeinehpneppnaa
open Go.RowKit Go.Proofs
attribute [local irreducible] Ord.walk
theorem inK_add (m : Mb) (L : List Int) (s : Nat) (d : Int) : ∀ k, inK m L s d k = d + inK m L s 0 k
  | 0 => by simp [inK]
  | k + 1 => by simp only [inK]; rw [inK_add m L s d k]; omega
theorem dayAt_eq (m : Mb) (L D : List Int) (h p : Nat) : dayAt m L D h p = D.getD h 0 + comesM m L h p := by
  unfold dayAt comesM; rw [inK_add]
theorem lvTo_iff (m : Mb) (L : List Int) (h set : Nat) (n : Int) : ∀ k, ((lvTo m L h set k).1 ≤ n ∧ n ≤ (lvTo m L h set k).2) ↔
    (((m.herds.getD h (0, 0, 0, 0)).2.1 ≤ n ∧ n ≤ (m.herds.getD h (0, 0, 0, 0)).2.2.1) ∧ ∀ i, i < k → hasB set i = true → (m.seen.getD i (0, 0, 0, 0)).1 = (h : Int) →
      (m.seen.getD i (0, 0, 0, 0)).2.2.1 ≤ n + comesM m L h (m.seen.getD i (0, 0, 0, 0)).2.1.toNat ∧ n + comesM m L h (m.seen.getD i (0, 0, 0, 0)).2.1.toNat ≤ (m.seen.getD i (0, 0, 0, 0)).2.2.2)
  | 0 => by
    simp only [lvTo]
    exact ⟨fun h => ⟨h, fun i hi => absurd hi (by omega)⟩, fun h => h.1⟩
  | k + 1 => by
    have ih := lvTo_iff m L h set n k
    simp only [lvTo]
    split
    · rename_i hc
      constructor
      · rintro ⟨h1, h2⟩
        simp only at h1 h2
        have h3 := ih.1 ⟨by omega, by omega⟩
        refine ⟨h3.1, fun i hi hs he => ?_⟩
        rcases Nat.lt_or_ge i k with hlt | hge
        · exact h3.2 i hlt hs he
        · obtain rfl : i = k := by omega
          omega
      · rintro ⟨h1, h2⟩
        have h3 := ih.2 ⟨h1, fun i hi => h2 i (by omega)⟩
        have h4 := h2 k (by omega) hc.1 hc.2
        simp only
        omega
    · rename_i hc
      rw [ih]
      constructor
      · rintro ⟨h1, h2⟩
        refine ⟨h1, fun i hi hs he => ?_⟩
        rcases Nat.lt_or_ge i k with hlt | hge
        · exact h2 i hlt hs he
        · obtain rfl : i = k := by omega
          exact absurd ⟨hs, he⟩ hc
      · rintro ⟨h1, h2⟩
        exact ⟨h1, fun i hi => h2 i (by omega)⟩
theorem rightM_iff (m : Mb) (L D : List Int) (set : Nat) : rightM m L D set = true ↔ ∀ i, i < m.seen.length → hasB set i = true → seenB m L D (m.seen.getD i (0, 0, 0, 0)) = true := by
  unfold rightM rightTo
  rw [List.all_eq_true]
  constructor
  · intro h i hi hs
    have := h i (List.mem_range.2 hi)
    rw [hs] at this
    simpa using this
  · intro h i hi
    rw [List.mem_range] at hi
    cases hs : hasB set i
    · rfl
    · rw [h i hi hs]; rfl
theorem seen_h {m : Mb} (hv : validM m = true) {i : Nat} (hi : i < m.seen.length) : ∃ h : Nat, h < m.herds.length ∧ (m.seen.getD i (0, 0, 0, 0)).1 = (h : Int) := by
  have := validM_seen hv hi
  rw [List.getD_eq_getElem?_getD, List.getElem?_eq_getElem hi, Option.getD_some]
  exact ⟨(m.seen[i]).1.toNat, by omega, by omega⟩
/-- Days on which mobs leave, and what of a set was seen. -/
theorem right_iff {m : Mb} (hv : validM m = true) (L D : List Int) (set : Nat) : (D ∈ prodL (leavesL m) ∧ rightM m L D set = true) ↔
    (D.length = m.herds.length ∧ ∀ h, h < m.herds.length → (leavesM m L h set).1 ≤ D.getD h 0 ∧ D.getD h 0 ≤ (leavesM m L h set).2) := by
  have hll : (leavesL m).length = m.herds.length := by unfold leavesL; simp
  rw [mem_prodL, rightM_iff]
  have hsp : ∀ h, (hh : h < m.herds.length) → (m.herds.getD h (0, 0, 0, 0)) = m.herds[h] := fun h hh => by
    rw [List.getD_eq_getElem?_getD, List.getElem?_eq_getElem hh]; rfl
  constructor
  · rintro ⟨⟨h1, h2⟩, h3⟩
    refine ⟨by rw [h1, hll], fun h hh => ?_⟩
    obtain ⟨y, e, hy⟩ := h2 h (by rw [← hll] at hh; exact hh)
    have hD : D.getD h 0 = y := by rw [List.getD_eq_getElem?_getD, e]; rfl
    refine (lvTo_iff m L h set _ _).2 ⟨?_, fun i hi hs he => ?_⟩
    · rw [hsp h hh, hD]
      simpa [leavesL] using hy
    · have := h3 i hi hs
      unfold seenB at this
      rw [he] at this
      have := inB_of this
      rw [dayAt_eq, Int.toNat_natCast] at this
      exact this
  · rintro ⟨h1, h2⟩
    refine ⟨⟨by rw [h1, hll], fun h hh => ?_⟩, fun i hi hs => ?_⟩
    · have hh' : h < m.herds.length := by rw [← hll]; exact hh
      have h3 := ((lvTo_iff m L h set _ _).1 (h2 h hh')).1
      rw [hsp h hh'] at h3
      refine ⟨D.getD h 0, ?_, ?_⟩
      · rw [List.getD_eq_getElem?_getD, List.getElem?_eq_getElem (by rw [h1]; exact hh')]; rfl
      · simpa [leavesL] using h3
    · obtain ⟨h, hh, he⟩ := seen_h hv hi
      have := ((lvTo_iff m L h set _ _).1 (h2 h hh)).2 i hi hs he
      unfold seenB
      rw [he, Int.toNat_natCast, dayAt_eq]
      unfold inB
      simp only [Bool.and_eq_true, decide_eq_true_eq]
      exact this
theorem truth_iff {m : Mb} (hv : validM m = true) (set : Nat) (L D : List Int) : (L, D) ∈ truthsM m set ↔ L ∈ prodL m.legs ∧ D.length = m.herds.length ∧ ∀ h, h < m.herds.length → (leavesM m L h set).1 ≤ D.getD h 0 ∧ D.getD h 0 ≤ (leavesM m L h set).2 := by
  rw [← right_iff hv L D set]
  unfold truthsM
  constructor
  · intro h
    obtain ⟨L', hL', h2⟩ := List.mem_flatMap.1 h
    obtain ⟨D', hD', e⟩ := List.mem_map.1 h2
    cases e
    have := List.mem_filter.1 hD'
    exact ⟨hL', this.1, this.2⟩
  · rintro ⟨h1, h2, h3⟩
    exact List.mem_flatMap.2 ⟨L, h1, List.mem_map.2 ⟨D, List.mem_filter.2 ⟨h2, h3⟩, rfl⟩⟩
theorem told_iff {m : Mb} (set : Nat) (L : List Int) : L ∈ toldL m set ↔ L ∈ prodL m.legs ∧ ∀ h, h < m.herds.length → (leavesM m L h set).1 ≤ (leavesM m L h set).2 := by
  unfold toldL
  rw [List.mem_filter]
  unfold canL canTo
  rw [List.all_eq_true]
  constructor
  · rintro ⟨h1, h2⟩
    exact ⟨h1, fun h hh => by simpa using h2 h (List.mem_range.2 hh)⟩
  · rintro ⟨h1, h2⟩
    exact ⟨h1, fun h hh => by simpa using h2 h (List.mem_range.1 hh)⟩
/-- Any choice of days is a truth. -/
theorem truth_of {m : Mb} (hv : validM m = true) {set : Nat} {L : List Int} (hL : L ∈ toldL m set) (f : Nat → Int) (hf : ∀ h, h < m.herds.length → (leavesM m L h set).1 ≤ f h ∧ f h ≤ (leavesM m L h set).2) :
    (L, (List.range m.herds.length).map f) ∈ truthsM m set := by
  rw [truth_iff hv]
  refine ⟨((told_iff set L).1 hL).1, by simp, fun h hh => ?_⟩
  have : ((List.range m.herds.length).map f).getD h 0 = f h := by
    rw [List.getD_eq_getElem?_getD, List.getElem?_map, List.getElem?_range hh]; rfl
  rw [this]
  exact hf h hh
theorem told_of {m : Mb} (hv : validM m = true) {set : Nat} {L D : List Int} (h : (L, D) ∈ truthsM m set) : L ∈ toldL m set := by
  obtain ⟨h1, h2, h3⟩ := (truth_iff hv set L D).1 h
  exact (told_iff set L).2 ⟨h1, fun k hk => by have := h3 k hk; omega⟩
theorem none_iff {m : Mb} (hv : validM m = true) (set : Nat) : truthsM m set = [] ↔ toldL m set = [] := by
  constructor
  · intro h
    rw [List.eq_nil_iff_forall_not_mem]
    intro L hL
    have := truth_of hv hL (fun h => (leavesM m L h set).1) (fun k hk => ⟨Int.le_refl _, ((told_iff set L).1 hL).2 k hk⟩)
    rw [h] at this
    simp at this
  · intro h
    rw [List.eq_nil_iff_forall_not_mem]
    rintro ⟨L, D⟩ hLD
    have := told_of hv hLD
    rw [h] at this
    simp at this
theorem can_eq {m : Mb} (hv : validM m = true) (set : Nat) : canM m set = !(truthsM m set).isEmpty := by
  unfold canM
  rw [Bool.eq_iff_iff]
  have := none_iff hv set
  rw [decide_eq_true_eq, List.length_pos_iff]
  simp [List.isEmpty_iff, this]
theorem knownE_eq (m : Mb) (vb : Bool) : knownE m vb = knownP m vb := by
  unfold knownE knownP
  cases hv : validM m
  · rfl
  · cases vb
    · rfl
    · simp only [Bool.true_eq_false, if_false]
      unfold knownM
      rw [can_eq hv]
      show _ = if (!(TM m).isEmpty) = false then _ else _
      cases h : TM m with
      | nil => rfl
      | cons a l => simp
/-- What a day of a truth is. -/
theorem day_le {m : Mb} (hv : validM m = true) {L D : List Int} (h : (L, D) ∈ TM m) {i : Nat} (hi : i < m.herds.length) (p : Nat) : (comeS m L i p).1 ≤ dayAt m L D i p ∧ dayAt m L D i p ≤ (comeS m L i p).2 := by
  have := ((truth_iff hv _ L D).1 h).2.2 i hi
  rw [dayAt_eq]
  unfold comeS
  simp only
  omega
end Go.Proofs.Yteeinehpneppnaa
