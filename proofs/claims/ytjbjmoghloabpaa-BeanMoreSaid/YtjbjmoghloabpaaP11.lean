/- Parts of a proof: BnT. -/
import Derived.Test.YtjbjmoghloabpaaP10
set_option linter.unusedVariables false
set_option linter.unusedSimpArgs false
namespace Go.Proofs.Ytjbjmoghloabpaa
open Go.RowKit Go.Proofs
attribute [local irreducible] Ord.walk

theorem i64_or_pow : ∀ a < 256, ∀ i < 8, a < 2 ^ i → bits .or .i64 ((a : Nat) : Int) ((2 ^ i : Nat) : Int) = ((a + 2 ^ i : Nat) : Int) := by decide +kernel
/-- What a voter who gave a white bean leaves. -/
def cOne (V : Nat) (lo hi : Int) (ks : List Kn) (i : Nat) : Nat → Nat := countN V lo hi (ks ++ [Kn.g (2 ^ i) 1 1])
/-- Whose beans are known, by a measure of truths: white ones, black ones. -/
def sureTo (m : (Nat → Nat) → Nat) (V : Nat) (lo hi : Int) (ks : List Kn) : Nat → Nat × Nat
  | 0 => (0, 0)
  | i + 1 =>
    let s := sureTo m V lo hi ks i
    if m (cOne V lo hi ks i) = m (countN V lo hi ks) then (s.1 + 2 ^ i, s.2) else if m (cOne V lo hi ks i) = 0 then (s.1, s.2 + 2 ^ i) else s
theorem sureTo_lt (m : (Nat → Nat) → Nat) (V : Nat) (lo hi : Int) (ks : List Kn) (i : Nat) : (sureTo m V lo hi ks i).1 < 2 ^ i ∧ (sureTo m V lo hi ks i).2 < 2 ^ i := by
  induction i with
  | zero => simp [sureTo]
  | succ i ih =>
    rw [Nat.pow_succ]
    simp only [sureTo]
    split
    · simp only; omega
    · split
      · simp only; omega
      · omega
theorem wrap_pow (k : Nat) (h : k < 9) : wrap64 ((2 : Int) ^ k) = ((2 ^ k : Nat) : Int) := by
  rcases (show k = 0 ∨ k = 1 ∨ k = 2 ∨ k = 3 ∨ k = 4 ∨ k = 5 ∨ k = 6 ∨ k = 7 ∨ k = 8 by omega) with rfl | rfl | rfl | rfl | rfl | rfl | rfl | rfl | rfl <;> (unfold wrap64; decide)
theorem agg_sets : AggTy Try.prog 80 2 := ⟨_, Try.underlying80, rfl, by kernel_rfl⟩
/-- A measure: how many truths there are with a number of white beans. -/
def atN (n : Nat) (c : Nat → Nat) : Nat := c n
theorem kn_one (w : World) (k : Kn) (t : TypeId) : KnAt (w.alloc (.cells #[knV k] t)) (some ⟨w.heap.size, 0, none⟩) [k] := by
  intro i hi
  have : i = 0 := by simpa using hi
  subst this
  exact ⟨_, _, rfl, (Blk.new w #[knV k] t).cell 0⟩

set_option maxHeartbeats 4000000 in
set_option maxRecDepth 100000 in
theorem b_sure_all {w : World} {v : Nat} {b : Bn} {V : Nat} {ks : List Kn} {ga : Option Addr} {gc : Nat} {pa : Option Addr} {pc : Nat} {ka : Option Addr} {kc : Nat} (h : Vt w v b V ks ga gc pa pc ka kc)  :
    Calls Try.prog 63 #[.pointer (some ⟨v, 0, none⟩), .func (.func 54) #[] #[]] w (Gives (.agg #[.int .i64 (sureTo (csum) V b.lo b.hi ks V).1, .int .i64 (sureTo (csum) V b.lo b.hi ks V).2]) w) := by
  have HE := Lib.hid (fun w' (hb : Below w.heap.size w w') => (h.below hb).every)
  have HC := Lib.hid (fun w' (hb : Below w.heap.size w w') => (h.below hb).all)
  have HO : Hid (∀ w' i, i < V → Below w.heap.size w w' → ∀ bk, KnAt w' (some ⟨bk, 0, none⟩) [Kn.g (2 ^ i) 1 1] → Calls Try.prog 56 #[.pointer (some ⟨v, 0, none⟩), .int .u64 ((2 ^ ks.length - 1 : Nat) : Int), .slice (some ⟨bk, 0, none⟩) 1 1] w' (Gives (cv (cOne V b.lo b.hi ks i)) w')) := by
    intro w' i hi hb bk hk
    have := (h.below hb).counts [Kn.g (2 ^ i) 1 1] (some ⟨bk, 0, none⟩) 1 (2 ^ ks.length - 1) h.full hk (by simp) (by
      intro x hx; simp only [List.mem_singleton] at hx; subst hx
      show 2 ^ i < 256
      have := Nat.pow_le_pow_right (show 0 < 2 by omega) (show i ≤ 7 by have := h.hV8; omega)
      have e : (2 : Nat) ^ 7 = 128 := rfl
      omega) (by simp)
    rwa [sel_full] at this
  have HM : Hid (∀ c w', csum c ≤ 2304 → Below w.heap.size w w' → Calls Try.prog 54 #[cv c] w' (Gives (.int .i64 ((csum) c : Nat)) w')) := by
    intro c w' hc hb
    exact b_all c (by omega) w'
  have HB := Lib.hid b_one
  have hV8 := h.hV8
  have v0 := h.va.c0
  rw [h.hV] at v0
  have hvlt := World.block_lt_of_cell? w _ v0
  have HCA := Lib.hid (countN_sum V hV8 b.lo b.hi)
  obtain ⟨C, hC⟩ : ∃ C, countN V b.lo b.hi ks = C := ⟨_, rfl⟩
  rw [hC] at HC
  have hCs : csum C ≤ 2304 := by rw [← hC]; exact HCA.out _
  have HCC := Lib.hid hC
  clear hC
  have HLT := Lib.hid (sureTo_lt (csum) V b.lo b.hi ks)
  go_enter Try.func63, Try.ntmps63
  go_wp2_with (first
    | (go_at_call 57; refine (HE.out _ (by (repeat (first | assumption | exact Below.refl _ _ | refine Below.drew ?_ | refine Below.alloc ?_ (by first | omega | (simp; done) | (simp; omega)) _ | refine Below.setCell ?_ (by first | omega | (simp; done) | (simp; omega)) _ | refine Below.trans ?_ (Below.mono (by assumption) (by first | omega | (simp; done) | (simp; omega))))))).mono ?_; rintro e w' ⟨rfl, rfl⟩)
    | (go_at_call 56; refine (HC.out _ (by (repeat (first | assumption | exact Below.refl _ _ | refine Below.drew ?_ | refine Below.alloc ?_ (by first | omega | (simp; done) | (simp; omega)) _ | refine Below.setCell ?_ (by first | omega | (simp; done) | (simp; omega)) _ | refine Below.trans ?_ (Below.mono (by assumption) (by first | omega | (simp; done) | (simp; omega))))))).mono ?_; rintro e w1 ⟨rfl, hb1⟩; have z1 : w.heap.size + 1 ≤ w1.heap.size := (by have := hb1.size; simpa using this); have bs1 : Blk w1 w.heap.size #[.int .i64 0, .int .i64 0] 80 := (Blk.new _ _ _).below hb1 (by simp))
    | (go_at_call 54; refine (HM.out _ _ hCs (by (repeat (first | assumption | exact Below.refl _ _ | refine Below.drew ?_ | refine Below.alloc ?_ (by first | omega | (simp; done) | (simp; omega)) _ | refine Below.setCell ?_ (by first | omega | (simp; done) | (simp; omega)) _ | refine Below.trans ?_ (Below.mono (by assumption) (by first | omega | (simp; done) | (simp; omega))))))).mono ?_; rintro e w2 ⟨rfl, hb2⟩; have hbw2 : Below w.heap.size w w2 := (by (repeat (first | assumption | exact Below.refl _ _ | refine Below.drew ?_ | refine Below.alloc ?_ (by first | omega | (simp; done) | (simp; omega)) _ | refine Below.setCell ?_ (by first | omega | (simp; done) | (simp; omega)) _ | refine Below.trans ?_ (Below.mono (by assumption) (by first | omega | (simp; done) | (simp; omega)))))); have bs2 := bs1.below hb2 (by omega); have z2 := hb2.size; have v2 := cell_later hbw2 v0))
  clear bs1 hb2
  go_loopw [18] (fun i wr => ∃ k : Nat, k ≤ V ∧ i = .int .i64 k ∧ Below w.heap.size w wr ∧ Blk wr w.heap.size #[.int .i64 (sureTo (csum) V b.lo b.hi ks k).1, .int .i64 (sureTo (csum) V b.lo b.hi ks k).2] 80) (fun i _ => V - (intOf i).toNat)
  case atStart => exact ⟨0, by omega, rfl, hbw2, bs2⟩
  case round =>
    clear bs2 hbw2 v2 z1 z2
    obtain ⟨k, hk, rfl, hbw, bs⟩ := hrel
    have v2 := cell_later hbw v0
    have z := hbw.size
    have ls := bs.lt
    by_cases hlt : k < V
    · have hlti : (k : Int) < (V : Int) := by omega
      have HOk := Lib.hid (fun w' hb bk hkn => HO.out w' k hlt hb bk hkn)
      have hCs2 : csum (cOne V b.lo b.hi ks k) ≤ 2304 := HCA.out _
      have hST : sureTo (csum) V b.lo b.hi ks (k + 1) = if (csum) (cOne V b.lo b.hi ks k) = (csum) C then ((sureTo (csum) V b.lo b.hi ks k).1 + 2 ^ k, (sureTo (csum) V b.lo b.hi ks k).2) else if (csum) (cOne V b.lo b.hi ks k) = 0 then ((sureTo (csum) V b.lo b.hi ks k).1, (sureTo (csum) V b.lo b.hi ks k).2 + 2 ^ k) else sureTo (csum) V b.lo b.hi ks k := by rw [← HCC.out]; rfl
      have HST := Lib.hid hST
      clear hST
      have hl := HLT.out k
      generalize cOne V b.lo b.hi ks k = D at *
      generalize sureTo (csum) V b.lo b.hi ks k = s at *
      obtain ⟨sw, sb⟩ := s
      simp only at bs hl
      have hor1 := i64_or_pow sw (by have := Nat.pow_le_pow_right (show 0 < 2 by omega) (show k ≤ 8 by omega); have e : (2 : Nat) ^ 8 = 256 := rfl; omega) k (by omega) hl.1
      have hor2 := i64_or_pow sb (by have := Nat.pow_le_pow_right (show 0 < 2 by omega) (show k ≤ 8 by omega); have e : (2 : Nat) ^ 8 = 256 := rfl; omega) k (by omega) hl.2
      have HMD := Lib.hid (fun w' hb => HM.out D w' hCs2 hb)
      clear hCs2
      have hwp := wrap_pow k (by omega)
      have HB2 := Lib.hid (fun w' => HB.out k k rfl (by omega) true w')
      obtain ⟨P, hP⟩ : ∃ P, 2 ^ k = P := ⟨_, rfl⟩
      rw [hP] at HOk HST hl hor1 hor2 hwp HB2
      clear hP
      by_cases hA : (csum) D = (csum) C
      · have hAi : (((csum) D : Int) == ((csum) C : Int)) = true := by rw [hA]; simp
        have h2 := HST.out
        rw [if_pos hA] at h2
        have HS2 := Lib.hid h2
        clear h2 HST hA
        go_wp2_with (first
          | (go_at_call 57; refine (HE.out _ (by (repeat (first | assumption | exact Below.refl _ _ | refine Below.drew ?_ | refine Below.alloc ?_ (by first | omega | (simp; done) | (simp; omega)) _ | refine Below.setCell ?_ (by first | omega | (simp; done) | (simp; omega)) _ | refine Below.trans ?_ (Below.mono (by assumption) (by first | omega | (simp; done) | (simp; omega))))))).mono ?_; rintro e w' ⟨rfl, rfl⟩)
          | (go_at_call 58; refine (HB2.out _).mono ?_; rintro e w3 ⟨rfl, hb3⟩; have hbw3 : Below w.heap.size w w3 := hbw.trans (hb3.mono z))
          | (go_at_call 56; refine (HOk.out _ (hbw3.alloc hbw3.size _) _ (kn_one _ _ _)).mono ?_; rintro e w4 ⟨rfl, hb4⟩; have hbw4 : Below w.heap.size w w4 := (hbw3.alloc hbw3.size _).trans (hb4.mono (by have := hbw3.size; simp; omega)))
          | (go_at_call 54; refine (HMD.out _ hbw4).mono ?_; rintro e w5 ⟨rfl, hb5⟩; have hbw5 : Below w.heap.size w w5 := hbw4.trans (hb5.mono hbw4.size); have bs5 : Blk w5 w.heap.size #[.int .i64 sw, .int .i64 sb] 80 := (((bs.below hb3 ls).alloc _).below hb4 (by have := hb3.size; simp; omega)).below hb5 (by have := hb3.size; have := hb4.size; simp at this; omega)))
        clear hbw hb3 hb4 hb5 hbw3 hbw4 bs
        have r5 := bs5.cell
        have f5 := bs5.free
        refine Ord.wp_region [(0, 0), (1, 0), (2, 0), (3, 0), (4, 0), (5, 0), (6, 2)] (fun _ => True) (by kernel_rfl) (by kernel_rfl) (fun c a d v w h => by cases d <;> exact h) trivial ?_
        go_wp2_with (first | ((with_reducible refine Ord.at_calm ?_); refine Ord.calm_skip rfl ?_ (fun K hK => ?_); (focus (simp [Region.wanted, yielded]; done))) | with_reducible refine Ord.walk_calm rfl rfl (fun K hK => ?_) | ((with_reducible refine Ord.at_wild ?_); refine Ord.wild_fieldAddr rfl rfl (fun W => by simp [go_sem]; rfl) (fun K hK => ?_)) | ((with_reducible refine Ord.at_wild ?_); refine Ord.wild_move rfl rfl (fun K hK => ?_)) | ((with_reducible refine Ord.at_wild ?_); refine Ord.wild_nilCheck rfl rfl (fun K hK => ?_)) | with_reducible refine Ord.walk_eff rfl (by first | (simp; done) | assumption | (go_simp; done) | (repeat (first | assumption | exact Below.refl _ _ | refine Below.drew ?_ | refine Below.alloc ?_ (by first | omega | (simp; done) | (simp; omega)) _ | refine Below.setCell ?_ (by first | omega | (simp; done) | (simp; omega)) _ | refine Below.trans ?_ (Below.mono (by assumption) (by first | omega | (simp; done) | (simp; omega)))))) (fun K hK => ?_) | with_reducible refine Ord.at_fork ?_ ?_ | with_reducible refine Ord.walk_nil ?_ | (with_reducible refine Ord.next_of (by first | (simp; done) | (go_simp; done) | (repeat (first | assumption | exact Below.refl _ _ | refine Below.drew ?_ | refine Below.alloc ?_ (by first | omega | (simp; done) | (simp; omega)) _ | refine Below.setCell ?_ (by first | omega | (simp; done) | (simp; omega)) _ | refine Below.trans ?_ (Below.mono (by assumption) (by first | omega | (simp; done) | (simp; omega)))))) (fun _ => ?_)))
        refine ⟨⟨k + 1, by omega, by go_num, by (repeat (first | assumption | exact Below.refl _ _ | refine Below.drew ?_ | refine Below.alloc ?_ (by first | omega | (simp; done) | (simp; omega)) _ | refine Below.setCell ?_ (by first | omega | (simp; done) | (simp; omega)) _ | refine Below.trans ?_ (Below.mono (by assumption) (by first | omega | (simp; done) | (simp; omega))))), ?_⟩, by simp [intOf]; omega⟩
        rw [HS2.out]
        simp only [Int.natCast_add]
        exact (bs5.set 0 _).drew
      · have hAi : (((csum) D : Int) == ((csum) C : Int)) = false := by simp; omega
        have h2 := HST.out
        rw [if_neg hA] at h2
        clear HST hA
        by_cases h0 : (csum) D = 0
        · have h0i : (((csum) D : Int) == (0 : Int)) = true := by rw [h0]; rfl
          rw [if_pos h0] at h2
          have HS2 := Lib.hid h2
          clear h2 h0
          go_wp2_with (first
            | (go_at_call 57; refine (HE.out _ (by (repeat (first | assumption | exact Below.refl _ _ | refine Below.drew ?_ | refine Below.alloc ?_ (by first | omega | (simp; done) | (simp; omega)) _ | refine Below.setCell ?_ (by first | omega | (simp; done) | (simp; omega)) _ | refine Below.trans ?_ (Below.mono (by assumption) (by first | omega | (simp; done) | (simp; omega))))))).mono ?_; rintro e w' ⟨rfl, rfl⟩)
            | (go_at_call 58; refine (HB2.out _).mono ?_; rintro e w3 ⟨rfl, hb3⟩; have hbw3 : Below w.heap.size w w3 := hbw.trans (hb3.mono z))
            | (go_at_call 56; refine (HOk.out _ (hbw3.alloc hbw3.size _) _ (kn_one _ _ _)).mono ?_; rintro e w4 ⟨rfl, hb4⟩; have hbw4 : Below w.heap.size w w4 := (hbw3.alloc hbw3.size _).trans (hb4.mono (by have := hbw3.size; simp; omega)))
            | (go_at_call 54; refine (HMD.out _ hbw4).mono ?_; rintro e w5 ⟨rfl, hb5⟩; have hbw5 : Below w.heap.size w w5 := hbw4.trans (hb5.mono hbw4.size); have bs5 : Blk w5 w.heap.size #[.int .i64 sw, .int .i64 sb] 80 := (((bs.below hb3 ls).alloc _).below hb4 (by have := hb3.size; simp; omega)).below hb5 (by have := hb3.size; have := hb4.size; simp at this; omega)))
          clear hbw hb3 hb4 hb5 hbw3 hbw4 bs
          have r5 := bs5.cell
          have f5 := bs5.free
          refine Ord.wp_region [(0, 0), (1, 0), (2, 0), (3, 0), (4, 0), (5, 0), (6, 2)] (fun _ => True) (by kernel_rfl) (by kernel_rfl) (fun c a d v w h => by cases d <;> exact h) trivial ?_
          go_wp2_with (first | ((with_reducible refine Ord.at_calm ?_); refine Ord.calm_skip rfl ?_ (fun K hK => ?_); (focus (simp [Region.wanted, yielded]; done))) | with_reducible refine Ord.walk_calm rfl rfl (fun K hK => ?_) | ((with_reducible refine Ord.at_wild ?_); refine Ord.wild_fieldAddr rfl rfl (fun W => by simp [go_sem]; rfl) (fun K hK => ?_)) | ((with_reducible refine Ord.at_wild ?_); refine Ord.wild_move rfl rfl (fun K hK => ?_)) | ((with_reducible refine Ord.at_wild ?_); refine Ord.wild_nilCheck rfl rfl (fun K hK => ?_)) | with_reducible refine Ord.walk_eff rfl (by first | (simp; done) | assumption | (go_simp; done) | (repeat (first | assumption | exact Below.refl _ _ | refine Below.drew ?_ | refine Below.alloc ?_ (by first | omega | (simp; done) | (simp; omega)) _ | refine Below.setCell ?_ (by first | omega | (simp; done) | (simp; omega)) _ | refine Below.trans ?_ (Below.mono (by assumption) (by first | omega | (simp; done) | (simp; omega)))))) (fun K hK => ?_) | with_reducible refine Ord.at_fork ?_ ?_ | with_reducible refine Ord.walk_nil ?_ | (with_reducible refine Ord.next_of (by first | (simp; done) | (go_simp; done) | (repeat (first | assumption | exact Below.refl _ _ | refine Below.drew ?_ | refine Below.alloc ?_ (by first | omega | (simp; done) | (simp; omega)) _ | refine Below.setCell ?_ (by first | omega | (simp; done) | (simp; omega)) _ | refine Below.trans ?_ (Below.mono (by assumption) (by first | omega | (simp; done) | (simp; omega)))))) (fun _ => ?_)))
          refine ⟨⟨k + 1, by omega, by go_num, by (repeat (first | assumption | exact Below.refl _ _ | refine Below.drew ?_ | refine Below.alloc ?_ (by first | omega | (simp; done) | (simp; omega)) _ | refine Below.setCell ?_ (by first | omega | (simp; done) | (simp; omega)) _ | refine Below.trans ?_ (Below.mono (by assumption) (by first | omega | (simp; done) | (simp; omega))))), ?_⟩, by simp [intOf]; omega⟩
          rw [HS2.out]
          simp only [Int.natCast_add]
          exact (bs5.set 1 _).drew
        · have h0i : (((csum) D : Int) == (0 : Int)) = false := by simp; omega
          rw [if_neg h0] at h2
          have HS2 := Lib.hid h2
          clear h2 h0
          go_wp2_with (first
            | (go_at_call 57; refine (HE.out _ (by (repeat (first | assumption | exact Below.refl _ _ | refine Below.drew ?_ | refine Below.alloc ?_ (by first | omega | (simp; done) | (simp; omega)) _ | refine Below.setCell ?_ (by first | omega | (simp; done) | (simp; omega)) _ | refine Below.trans ?_ (Below.mono (by assumption) (by first | omega | (simp; done) | (simp; omega))))))).mono ?_; rintro e w' ⟨rfl, rfl⟩)
            | (go_at_call 58; refine (HB2.out _).mono ?_; rintro e w3 ⟨rfl, hb3⟩; have hbw3 : Below w.heap.size w w3 := hbw.trans (hb3.mono z))
            | (go_at_call 56; refine (HOk.out _ (hbw3.alloc hbw3.size _) _ (kn_one _ _ _)).mono ?_; rintro e w4 ⟨rfl, hb4⟩; have hbw4 : Below w.heap.size w w4 := (hbw3.alloc hbw3.size _).trans (hb4.mono (by have := hbw3.size; simp; omega)))
            | (go_at_call 54; refine (HMD.out _ hbw4).mono ?_; rintro e w5 ⟨rfl, hb5⟩; have hbw5 : Below w.heap.size w w5 := hbw4.trans (hb5.mono hbw4.size); have bs5 : Blk w5 w.heap.size #[.int .i64 sw, .int .i64 sb] 80 := (((bs.below hb3 ls).alloc _).below hb4 (by have := hb3.size; simp; omega)).below hb5 (by have := hb3.size; have := hb4.size; simp at this; omega)))
          refine ⟨⟨k + 1, by omega, by go_num, hbw5, ?_⟩, by simp [intOf]; omega⟩
          rw [HS2.out]
          exact bs5
    · have hkV : k = V := by omega
      subst hkV
      generalize sureTo (csum) k b.lo b.hi ks k = s at *
      go_wp2_with (first
        | (refine wpList_load_blk 80 (.tmp 4) agg_sets rfl rfl rfl bs rfl ?_)
        | (refine wpList_store_blk 80 (.tmp 4) (.tmp 48) agg_sets rfl rfl rfl rfl bs rfl rfl (by simp [Value.oneCell']) ?_; intro w6 h6))
      (try simp only [Exit.inBlock, Exit.then])
      refine bodyPost_ret (v := .agg #[.int .i64 s.1, .int .i64 s.2]) (results_cell_blk rfl _ agg_sets rfl h6.blk rfl) rfl ⟨rfl, ?_⟩
      exact h6.below hbw (Nat.le_refl _)

theorem b_pick_tell (c : Nat → Nat) (pb n : Nat) (hn : n < 9) (w : World) (hp : w.cell? ⟨pb, 0, none⟩ = some (.int .i64 n)) :
    Calls Try.prog 77 #[cv c, .pointer (some ⟨pb, 0, none⟩)] w (Gives (.int .i64 (c n : Nat)) w) := by
  have hc := cells9 c n hn
  generalize hv : (#[.int .i64 (c 0), .int .i64 (c 1), .int .i64 (c 2), .int .i64 (c 3), .int .i64 (c 4), .int .i64 (c 5), .int .i64 (c 6), .int .i64 (c 7), .int .i64 (c 8)] : Array Value) = A at *
  have hsz : A.size = 9 := by rw [← hv]; rfl
  have hlt := World.block_lt_of_cell? w _ hp
  have hni : (n : Int) < 9 := by omega
  unfold cv
  rw [hv]
  clear hv
  go_enter Try.func77, Try.ntmps77
  go_wp2
  go_ret
  refine ⟨?_, (Below.refl _ _).alloc (Nat.le_refl _) _⟩
  obtain ⟨h1, h2⟩ := Array.getElem?_eq_some_iff.1 hc
  show Ending.returned (A[n]'h1) = _
  rw [h2]

set_option maxHeartbeats 4000000 in
set_option maxRecDepth 100000 in
theorem b_sure_tell {w : World} {v : Nat} {b : Bn} {V : Nat} {ks : List Kn} {ga : Option Addr} {gc : Nat} {pa : Option Addr} {pc : Nat} {ka : Option Addr} {kc : Nat} (h : Vt w v b V ks ga gc pa pc ka kc) (pb n : Nat) (hn : n < 9) (hp : w.cell? ⟨pb, 0, none⟩ = some (.int .i64 n)) :
    Calls Try.prog 63 #[.pointer (some ⟨v, 0, none⟩), .func (.func 77) #[] #[.pointer (some ⟨pb, 0, none⟩)]] w (Gives (.agg #[.int .i64 (sureTo (atN n) V b.lo b.hi ks V).1, .int .i64 (sureTo (atN n) V b.lo b.hi ks V).2]) w) := by
  have HE := Lib.hid (fun w' (hb : Below w.heap.size w w') => (h.below hb).every)
  have HC := Lib.hid (fun w' (hb : Below w.heap.size w w') => (h.below hb).all)
  have HO : Hid (∀ w' i, i < V → Below w.heap.size w w' → ∀ bk, KnAt w' (some ⟨bk, 0, none⟩) [Kn.g (2 ^ i) 1 1] → Calls Try.prog 56 #[.pointer (some ⟨v, 0, none⟩), .int .u64 ((2 ^ ks.length - 1 : Nat) : Int), .slice (some ⟨bk, 0, none⟩) 1 1] w' (Gives (cv (cOne V b.lo b.hi ks i)) w')) := by
    intro w' i hi hb bk hk
    have := (h.below hb).counts [Kn.g (2 ^ i) 1 1] (some ⟨bk, 0, none⟩) 1 (2 ^ ks.length - 1) h.full hk (by simp) (by
      intro x hx; simp only [List.mem_singleton] at hx; subst hx
      show 2 ^ i < 256
      have := Nat.pow_le_pow_right (show 0 < 2 by omega) (show i ≤ 7 by have := h.hV8; omega)
      have e : (2 : Nat) ^ 7 = 128 := rfl
      omega) (by simp)
    rwa [sel_full] at this
  have HM : Hid (∀ c w', csum c ≤ 2304 → Below w.heap.size w w' → Calls Try.prog 77 #[cv c, .pointer (some ⟨pb, 0, none⟩)] w' (Gives (.int .i64 ((atN n) c : Nat)) w')) := by
    intro c w' hc hb
    exact b_pick_tell c pb n hn w' (cell_later hb hp)
  have HB := Lib.hid b_one
  have hV8 := h.hV8
  have v0 := h.va.c0
  rw [h.hV] at v0
  have hvlt := World.block_lt_of_cell? w _ v0
  have HCA := Lib.hid (countN_sum V hV8 b.lo b.hi)
  obtain ⟨C, hC⟩ : ∃ C, countN V b.lo b.hi ks = C := ⟨_, rfl⟩
  rw [hC] at HC
  have hCs : csum C ≤ 2304 := by rw [← hC]; exact HCA.out _
  have HCC := Lib.hid hC
  clear hC
  have HLT := Lib.hid (sureTo_lt (atN n) V b.lo b.hi ks)
  go_enter Try.func63, Try.ntmps63
  go_wp2_with (first
    | (go_at_call 57; refine (HE.out _ (by (repeat (first | assumption | exact Below.refl _ _ | refine Below.drew ?_ | refine Below.alloc ?_ (by first | omega | (simp; done) | (simp; omega)) _ | refine Below.setCell ?_ (by first | omega | (simp; done) | (simp; omega)) _ | refine Below.trans ?_ (Below.mono (by assumption) (by first | omega | (simp; done) | (simp; omega))))))).mono ?_; rintro e w' ⟨rfl, rfl⟩)
    | (go_at_call 56; refine (HC.out _ (by (repeat (first | assumption | exact Below.refl _ _ | refine Below.drew ?_ | refine Below.alloc ?_ (by first | omega | (simp; done) | (simp; omega)) _ | refine Below.setCell ?_ (by first | omega | (simp; done) | (simp; omega)) _ | refine Below.trans ?_ (Below.mono (by assumption) (by first | omega | (simp; done) | (simp; omega))))))).mono ?_; rintro e w1 ⟨rfl, hb1⟩; have z1 : w.heap.size + 1 ≤ w1.heap.size := (by have := hb1.size; simpa using this); have bs1 : Blk w1 w.heap.size #[.int .i64 0, .int .i64 0] 80 := (Blk.new _ _ _).below hb1 (by simp))
    | (go_at_call 77; refine (HM.out _ _ hCs (by (repeat (first | assumption | exact Below.refl _ _ | refine Below.drew ?_ | refine Below.alloc ?_ (by first | omega | (simp; done) | (simp; omega)) _ | refine Below.setCell ?_ (by first | omega | (simp; done) | (simp; omega)) _ | refine Below.trans ?_ (Below.mono (by assumption) (by first | omega | (simp; done) | (simp; omega))))))).mono ?_; rintro e w2 ⟨rfl, hb2⟩; have hbw2 : Below w.heap.size w w2 := (by (repeat (first | assumption | exact Below.refl _ _ | refine Below.drew ?_ | refine Below.alloc ?_ (by first | omega | (simp; done) | (simp; omega)) _ | refine Below.setCell ?_ (by first | omega | (simp; done) | (simp; omega)) _ | refine Below.trans ?_ (Below.mono (by assumption) (by first | omega | (simp; done) | (simp; omega)))))); have bs2 := bs1.below hb2 (by omega); have z2 := hb2.size; have v2 := cell_later hbw2 v0))
  clear bs1 hb2
  go_loopw [18] (fun i wr => ∃ k : Nat, k ≤ V ∧ i = .int .i64 k ∧ Below w.heap.size w wr ∧ Blk wr w.heap.size #[.int .i64 (sureTo (atN n) V b.lo b.hi ks k).1, .int .i64 (sureTo (atN n) V b.lo b.hi ks k).2] 80) (fun i _ => V - (intOf i).toNat)
  case atStart => exact ⟨0, by omega, rfl, hbw2, bs2⟩
  case round =>
    clear bs2 hbw2 v2 z1 z2
    obtain ⟨k, hk, rfl, hbw, bs⟩ := hrel
    have v2 := cell_later hbw v0
    have z := hbw.size
    have ls := bs.lt
    by_cases hlt : k < V
    · have hlti : (k : Int) < (V : Int) := by omega
      have HOk := Lib.hid (fun w' hb bk hkn => HO.out w' k hlt hb bk hkn)
      have hCs2 : csum (cOne V b.lo b.hi ks k) ≤ 2304 := HCA.out _
      have hST : sureTo (atN n) V b.lo b.hi ks (k + 1) = if (atN n) (cOne V b.lo b.hi ks k) = (atN n) C then ((sureTo (atN n) V b.lo b.hi ks k).1 + 2 ^ k, (sureTo (atN n) V b.lo b.hi ks k).2) else if (atN n) (cOne V b.lo b.hi ks k) = 0 then ((sureTo (atN n) V b.lo b.hi ks k).1, (sureTo (atN n) V b.lo b.hi ks k).2 + 2 ^ k) else sureTo (atN n) V b.lo b.hi ks k := by rw [← HCC.out]; rfl
      have HST := Lib.hid hST
      clear hST
      have hl := HLT.out k
      generalize cOne V b.lo b.hi ks k = D at *
      generalize sureTo (atN n) V b.lo b.hi ks k = s at *
      obtain ⟨sw, sb⟩ := s
      simp only at bs hl
      have hor1 := i64_or_pow sw (by have := Nat.pow_le_pow_right (show 0 < 2 by omega) (show k ≤ 8 by omega); have e : (2 : Nat) ^ 8 = 256 := rfl; omega) k (by omega) hl.1
      have hor2 := i64_or_pow sb (by have := Nat.pow_le_pow_right (show 0 < 2 by omega) (show k ≤ 8 by omega); have e : (2 : Nat) ^ 8 = 256 := rfl; omega) k (by omega) hl.2
      have HMD := Lib.hid (fun w' hb => HM.out D w' hCs2 hb)
      clear hCs2
      have hwp := wrap_pow k (by omega)
      have HB2 := Lib.hid (fun w' => HB.out k k rfl (by omega) true w')
      obtain ⟨P, hP⟩ : ∃ P, 2 ^ k = P := ⟨_, rfl⟩
      rw [hP] at HOk HST hl hor1 hor2 hwp HB2
      clear hP
      by_cases hA : (atN n) D = (atN n) C
      · have hAi : (((atN n) D : Int) == ((atN n) C : Int)) = true := by rw [hA]; simp
        have h2 := HST.out
        rw [if_pos hA] at h2
        have HS2 := Lib.hid h2
        clear h2 HST hA
        go_wp2_with (first
          | (go_at_call 57; refine (HE.out _ (by (repeat (first | assumption | exact Below.refl _ _ | refine Below.drew ?_ | refine Below.alloc ?_ (by first | omega | (simp; done) | (simp; omega)) _ | refine Below.setCell ?_ (by first | omega | (simp; done) | (simp; omega)) _ | refine Below.trans ?_ (Below.mono (by assumption) (by first | omega | (simp; done) | (simp; omega))))))).mono ?_; rintro e w' ⟨rfl, rfl⟩)
          | (go_at_call 58; refine (HB2.out _).mono ?_; rintro e w3 ⟨rfl, hb3⟩; have hbw3 : Below w.heap.size w w3 := hbw.trans (hb3.mono z))
          | (go_at_call 56; refine (HOk.out _ (hbw3.alloc hbw3.size _) _ (kn_one _ _ _)).mono ?_; rintro e w4 ⟨rfl, hb4⟩; have hbw4 : Below w.heap.size w w4 := (hbw3.alloc hbw3.size _).trans (hb4.mono (by have := hbw3.size; simp; omega)))
          | (go_at_call 77; refine (HMD.out _ hbw4).mono ?_; rintro e w5 ⟨rfl, hb5⟩; have hbw5 : Below w.heap.size w w5 := hbw4.trans (hb5.mono hbw4.size); have bs5 : Blk w5 w.heap.size #[.int .i64 sw, .int .i64 sb] 80 := (((bs.below hb3 ls).alloc _).below hb4 (by have := hb3.size; simp; omega)).below hb5 (by have := hb3.size; have := hb4.size; simp at this; omega)))
        clear hbw hb3 hb4 hb5 hbw3 hbw4 bs
        have r5 := bs5.cell
        have f5 := bs5.free
        refine Ord.wp_region [(0, 0), (1, 0), (2, 0), (3, 0), (4, 0), (5, 0), (6, 2)] (fun _ => True) (by kernel_rfl) (by kernel_rfl) (fun c a d v w h => by cases d <;> exact h) trivial ?_
        go_wp2_with (first | ((with_reducible refine Ord.at_calm ?_); refine Ord.calm_skip rfl ?_ (fun K hK => ?_); (focus (simp [Region.wanted, yielded]; done))) | with_reducible refine Ord.walk_calm rfl rfl (fun K hK => ?_) | ((with_reducible refine Ord.at_wild ?_); refine Ord.wild_fieldAddr rfl rfl (fun W => by simp [go_sem]; rfl) (fun K hK => ?_)) | ((with_reducible refine Ord.at_wild ?_); refine Ord.wild_move rfl rfl (fun K hK => ?_)) | ((with_reducible refine Ord.at_wild ?_); refine Ord.wild_nilCheck rfl rfl (fun K hK => ?_)) | with_reducible refine Ord.walk_eff rfl (by first | (simp; done) | assumption | (go_simp; done) | (repeat (first | assumption | exact Below.refl _ _ | refine Below.drew ?_ | refine Below.alloc ?_ (by first | omega | (simp; done) | (simp; omega)) _ | refine Below.setCell ?_ (by first | omega | (simp; done) | (simp; omega)) _ | refine Below.trans ?_ (Below.mono (by assumption) (by first | omega | (simp; done) | (simp; omega)))))) (fun K hK => ?_) | with_reducible refine Ord.at_fork ?_ ?_ | with_reducible refine Ord.walk_nil ?_ | (with_reducible refine Ord.next_of (by first | (simp; done) | (go_simp; done) | (repeat (first | assumption | exact Below.refl _ _ | refine Below.drew ?_ | refine Below.alloc ?_ (by first | omega | (simp; done) | (simp; omega)) _ | refine Below.setCell ?_ (by first | omega | (simp; done) | (simp; omega)) _ | refine Below.trans ?_ (Below.mono (by assumption) (by first | omega | (simp; done) | (simp; omega)))))) (fun _ => ?_)))
        refine ⟨⟨k + 1, by omega, by go_num, by (repeat (first | assumption | exact Below.refl _ _ | refine Below.drew ?_ | refine Below.alloc ?_ (by first | omega | (simp; done) | (simp; omega)) _ | refine Below.setCell ?_ (by first | omega | (simp; done) | (simp; omega)) _ | refine Below.trans ?_ (Below.mono (by assumption) (by first | omega | (simp; done) | (simp; omega))))), ?_⟩, by simp [intOf]; omega⟩
        rw [HS2.out]
        simp only [Int.natCast_add]
        exact (bs5.set 0 _).drew
      · have hAi : (((atN n) D : Int) == ((atN n) C : Int)) = false := by simp; omega
        have h2 := HST.out
        rw [if_neg hA] at h2
        clear HST hA
        by_cases h0 : (atN n) D = 0
        · have h0i : (((atN n) D : Int) == (0 : Int)) = true := by rw [h0]; rfl
          rw [if_pos h0] at h2
          have HS2 := Lib.hid h2
          clear h2 h0
          go_wp2_with (first
            | (go_at_call 57; refine (HE.out _ (by (repeat (first | assumption | exact Below.refl _ _ | refine Below.drew ?_ | refine Below.alloc ?_ (by first | omega | (simp; done) | (simp; omega)) _ | refine Below.setCell ?_ (by first | omega | (simp; done) | (simp; omega)) _ | refine Below.trans ?_ (Below.mono (by assumption) (by first | omega | (simp; done) | (simp; omega))))))).mono ?_; rintro e w' ⟨rfl, rfl⟩)
            | (go_at_call 58; refine (HB2.out _).mono ?_; rintro e w3 ⟨rfl, hb3⟩; have hbw3 : Below w.heap.size w w3 := hbw.trans (hb3.mono z))
            | (go_at_call 56; refine (HOk.out _ (hbw3.alloc hbw3.size _) _ (kn_one _ _ _)).mono ?_; rintro e w4 ⟨rfl, hb4⟩; have hbw4 : Below w.heap.size w w4 := (hbw3.alloc hbw3.size _).trans (hb4.mono (by have := hbw3.size; simp; omega)))
            | (go_at_call 77; refine (HMD.out _ hbw4).mono ?_; rintro e w5 ⟨rfl, hb5⟩; have hbw5 : Below w.heap.size w w5 := hbw4.trans (hb5.mono hbw4.size); have bs5 : Blk w5 w.heap.size #[.int .i64 sw, .int .i64 sb] 80 := (((bs.below hb3 ls).alloc _).below hb4 (by have := hb3.size; simp; omega)).below hb5 (by have := hb3.size; have := hb4.size; simp at this; omega)))
          clear hbw hb3 hb4 hb5 hbw3 hbw4 bs
          have r5 := bs5.cell
          have f5 := bs5.free
          refine Ord.wp_region [(0, 0), (1, 0), (2, 0), (3, 0), (4, 0), (5, 0), (6, 2)] (fun _ => True) (by kernel_rfl) (by kernel_rfl) (fun c a d v w h => by cases d <;> exact h) trivial ?_
          go_wp2_with (first | ((with_reducible refine Ord.at_calm ?_); refine Ord.calm_skip rfl ?_ (fun K hK => ?_); (focus (simp [Region.wanted, yielded]; done))) | with_reducible refine Ord.walk_calm rfl rfl (fun K hK => ?_) | ((with_reducible refine Ord.at_wild ?_); refine Ord.wild_fieldAddr rfl rfl (fun W => by simp [go_sem]; rfl) (fun K hK => ?_)) | ((with_reducible refine Ord.at_wild ?_); refine Ord.wild_move rfl rfl (fun K hK => ?_)) | ((with_reducible refine Ord.at_wild ?_); refine Ord.wild_nilCheck rfl rfl (fun K hK => ?_)) | with_reducible refine Ord.walk_eff rfl (by first | (simp; done) | assumption | (go_simp; done) | (repeat (first | assumption | exact Below.refl _ _ | refine Below.drew ?_ | refine Below.alloc ?_ (by first | omega | (simp; done) | (simp; omega)) _ | refine Below.setCell ?_ (by first | omega | (simp; done) | (simp; omega)) _ | refine Below.trans ?_ (Below.mono (by assumption) (by first | omega | (simp; done) | (simp; omega)))))) (fun K hK => ?_) | with_reducible refine Ord.at_fork ?_ ?_ | with_reducible refine Ord.walk_nil ?_ | (with_reducible refine Ord.next_of (by first | (simp; done) | (go_simp; done) | (repeat (first | assumption | exact Below.refl _ _ | refine Below.drew ?_ | refine Below.alloc ?_ (by first | omega | (simp; done) | (simp; omega)) _ | refine Below.setCell ?_ (by first | omega | (simp; done) | (simp; omega)) _ | refine Below.trans ?_ (Below.mono (by assumption) (by first | omega | (simp; done) | (simp; omega)))))) (fun _ => ?_)))
          refine ⟨⟨k + 1, by omega, by go_num, by (repeat (first | assumption | exact Below.refl _ _ | refine Below.drew ?_ | refine Below.alloc ?_ (by first | omega | (simp; done) | (simp; omega)) _ | refine Below.setCell ?_ (by first | omega | (simp; done) | (simp; omega)) _ | refine Below.trans ?_ (Below.mono (by assumption) (by first | omega | (simp; done) | (simp; omega))))), ?_⟩, by simp [intOf]; omega⟩
          rw [HS2.out]
          simp only [Int.natCast_add]
          exact (bs5.set 1 _).drew
        · have h0i : (((atN n) D : Int) == (0 : Int)) = false := by simp; omega
          rw [if_neg h0] at h2
          have HS2 := Lib.hid h2
          clear h2 h0
          go_wp2_with (first
            | (go_at_call 57; refine (HE.out _ (by (repeat (first | assumption | exact Below.refl _ _ | refine Below.drew ?_ | refine Below.alloc ?_ (by first | omega | (simp; done) | (simp; omega)) _ | refine Below.setCell ?_ (by first | omega | (simp; done) | (simp; omega)) _ | refine Below.trans ?_ (Below.mono (by assumption) (by first | omega | (simp; done) | (simp; omega))))))).mono ?_; rintro e w' ⟨rfl, rfl⟩)
            | (go_at_call 58; refine (HB2.out _).mono ?_; rintro e w3 ⟨rfl, hb3⟩; have hbw3 : Below w.heap.size w w3 := hbw.trans (hb3.mono z))
            | (go_at_call 56; refine (HOk.out _ (hbw3.alloc hbw3.size _) _ (kn_one _ _ _)).mono ?_; rintro e w4 ⟨rfl, hb4⟩; have hbw4 : Below w.heap.size w w4 := (hbw3.alloc hbw3.size _).trans (hb4.mono (by have := hbw3.size; simp; omega)))
            | (go_at_call 77; refine (HMD.out _ hbw4).mono ?_; rintro e w5 ⟨rfl, hb5⟩; have hbw5 : Below w.heap.size w w5 := hbw4.trans (hb5.mono hbw4.size); have bs5 : Blk w5 w.heap.size #[.int .i64 sw, .int .i64 sb] 80 := (((bs.below hb3 ls).alloc _).below hb4 (by have := hb3.size; simp; omega)).below hb5 (by have := hb3.size; have := hb4.size; simp at this; omega)))
          refine ⟨⟨k + 1, by omega, by go_num, hbw5, ?_⟩, by simp [intOf]; omega⟩
          rw [HS2.out]
          exact bs5
    · have hkV : k = V := by omega
      subst hkV
      generalize sureTo (atN n) k b.lo b.hi ks k = s at *
      go_wp2_with (first
        | (refine wpList_load_blk 80 (.tmp 4) agg_sets rfl rfl rfl bs rfl ?_)
        | (refine wpList_store_blk 80 (.tmp 4) (.tmp 48) agg_sets rfl rfl rfl rfl bs rfl rfl (by simp [Value.oneCell']) ?_; intro w6 h6))
      (try simp only [Exit.inBlock, Exit.then])
      refine bodyPost_ret (v := .agg #[.int .i64 s.1, .int .i64 s.2]) (results_cell_blk rfl _ agg_sets rfl h6.blk rfl) rfl ⟨rfl, ?_⟩
      exact h6.below hbw (Nat.le_refl _)

theorem b_pick_quiet (c : Nat → Nat) (pb n : Nat) (hn : n < 9) (w : World) (hp : w.cell? ⟨pb, 0, none⟩ = some (.int .i64 n)) :
    Calls Try.prog 81 #[cv c, .pointer (some ⟨pb, 0, none⟩)] w (Gives (.int .i64 (c n : Nat)) w) := by
  have hc := cells9 c n hn
  generalize hv : (#[.int .i64 (c 0), .int .i64 (c 1), .int .i64 (c 2), .int .i64 (c 3), .int .i64 (c 4), .int .i64 (c 5), .int .i64 (c 6), .int .i64 (c 7), .int .i64 (c 8)] : Array Value) = A at *
  have hsz : A.size = 9 := by rw [← hv]; rfl
  have hlt := World.block_lt_of_cell? w _ hp
  have hni : (n : Int) < 9 := by omega
  unfold cv
  rw [hv]
  clear hv
  go_enter Try.func81, Try.ntmps81
  go_wp2
  go_ret
  refine ⟨?_, (Below.refl _ _).alloc (Nat.le_refl _) _⟩
  obtain ⟨h1, h2⟩ := Array.getElem?_eq_some_iff.1 hc
  show Ending.returned (A[n]'h1) = _
  rw [h2]

set_option maxHeartbeats 4000000 in
set_option maxRecDepth 100000 in
theorem b_sure_quiet {w : World} {v : Nat} {b : Bn} {V : Nat} {ks : List Kn} {ga : Option Addr} {gc : Nat} {pa : Option Addr} {pc : Nat} {ka : Option Addr} {kc : Nat} (h : Vt w v b V ks ga gc pa pc ka kc) (pb n : Nat) (hn : n < 9) (hp : w.cell? ⟨pb, 0, none⟩ = some (.int .i64 n)) :
    Calls Try.prog 63 #[.pointer (some ⟨v, 0, none⟩), .func (.func 81) #[] #[.pointer (some ⟨pb, 0, none⟩)]] w (Gives (.agg #[.int .i64 (sureTo (atN n) V b.lo b.hi ks V).1, .int .i64 (sureTo (atN n) V b.lo b.hi ks V).2]) w) := by
  have HE := Lib.hid (fun w' (hb : Below w.heap.size w w') => (h.below hb).every)
  have HC := Lib.hid (fun w' (hb : Below w.heap.size w w') => (h.below hb).all)
  have HO : Hid (∀ w' i, i < V → Below w.heap.size w w' → ∀ bk, KnAt w' (some ⟨bk, 0, none⟩) [Kn.g (2 ^ i) 1 1] → Calls Try.prog 56 #[.pointer (some ⟨v, 0, none⟩), .int .u64 ((2 ^ ks.length - 1 : Nat) : Int), .slice (some ⟨bk, 0, none⟩) 1 1] w' (Gives (cv (cOne V b.lo b.hi ks i)) w')) := by
    intro w' i hi hb bk hk
    have := (h.below hb).counts [Kn.g (2 ^ i) 1 1] (some ⟨bk, 0, none⟩) 1 (2 ^ ks.length - 1) h.full hk (by simp) (by
      intro x hx; simp only [List.mem_singleton] at hx; subst hx
      show 2 ^ i < 256
      have := Nat.pow_le_pow_right (show 0 < 2 by omega) (show i ≤ 7 by have := h.hV8; omega)
      have e : (2 : Nat) ^ 7 = 128 := rfl
      omega) (by simp)
    rwa [sel_full] at this
  have HM : Hid (∀ c w', csum c ≤ 2304 → Below w.heap.size w w' → Calls Try.prog 81 #[cv c, .pointer (some ⟨pb, 0, none⟩)] w' (Gives (.int .i64 ((atN n) c : Nat)) w')) := by
    intro c w' hc hb
    exact b_pick_quiet c pb n hn w' (cell_later hb hp)
  have HB := Lib.hid b_one
  have hV8 := h.hV8
  have v0 := h.va.c0
  rw [h.hV] at v0
  have hvlt := World.block_lt_of_cell? w _ v0
  have HCA := Lib.hid (countN_sum V hV8 b.lo b.hi)
  obtain ⟨C, hC⟩ : ∃ C, countN V b.lo b.hi ks = C := ⟨_, rfl⟩
  rw [hC] at HC
  have hCs : csum C ≤ 2304 := by rw [← hC]; exact HCA.out _
  have HCC := Lib.hid hC
  clear hC
  have HLT := Lib.hid (sureTo_lt (atN n) V b.lo b.hi ks)
  go_enter Try.func63, Try.ntmps63
  go_wp2_with (first
    | (go_at_call 57; refine (HE.out _ (by (repeat (first | assumption | exact Below.refl _ _ | refine Below.drew ?_ | refine Below.alloc ?_ (by first | omega | (simp; done) | (simp; omega)) _ | refine Below.setCell ?_ (by first | omega | (simp; done) | (simp; omega)) _ | refine Below.trans ?_ (Below.mono (by assumption) (by first | omega | (simp; done) | (simp; omega))))))).mono ?_; rintro e w' ⟨rfl, rfl⟩)
    | (go_at_call 56; refine (HC.out _ (by (repeat (first | assumption | exact Below.refl _ _ | refine Below.drew ?_ | refine Below.alloc ?_ (by first | omega | (simp; done) | (simp; omega)) _ | refine Below.setCell ?_ (by first | omega | (simp; done) | (simp; omega)) _ | refine Below.trans ?_ (Below.mono (by assumption) (by first | omega | (simp; done) | (simp; omega))))))).mono ?_; rintro e w1 ⟨rfl, hb1⟩; have z1 : w.heap.size + 1 ≤ w1.heap.size := (by have := hb1.size; simpa using this); have bs1 : Blk w1 w.heap.size #[.int .i64 0, .int .i64 0] 80 := (Blk.new _ _ _).below hb1 (by simp))
    | (go_at_call 81; refine (HM.out _ _ hCs (by (repeat (first | assumption | exact Below.refl _ _ | refine Below.drew ?_ | refine Below.alloc ?_ (by first | omega | (simp; done) | (simp; omega)) _ | refine Below.setCell ?_ (by first | omega | (simp; done) | (simp; omega)) _ | refine Below.trans ?_ (Below.mono (by assumption) (by first | omega | (simp; done) | (simp; omega))))))).mono ?_; rintro e w2 ⟨rfl, hb2⟩; have hbw2 : Below w.heap.size w w2 := (by (repeat (first | assumption | exact Below.refl _ _ | refine Below.drew ?_ | refine Below.alloc ?_ (by first | omega | (simp; done) | (simp; omega)) _ | refine Below.setCell ?_ (by first | omega | (simp; done) | (simp; omega)) _ | refine Below.trans ?_ (Below.mono (by assumption) (by first | omega | (simp; done) | (simp; omega)))))); have bs2 := bs1.below hb2 (by omega); have z2 := hb2.size; have v2 := cell_later hbw2 v0))
  clear bs1 hb2
  go_loopw [18] (fun i wr => ∃ k : Nat, k ≤ V ∧ i = .int .i64 k ∧ Below w.heap.size w wr ∧ Blk wr w.heap.size #[.int .i64 (sureTo (atN n) V b.lo b.hi ks k).1, .int .i64 (sureTo (atN n) V b.lo b.hi ks k).2] 80) (fun i _ => V - (intOf i).toNat)
  case atStart => exact ⟨0, by omega, rfl, hbw2, bs2⟩
  case round =>
    clear bs2 hbw2 v2 z1 z2
    obtain ⟨k, hk, rfl, hbw, bs⟩ := hrel
    have v2 := cell_later hbw v0
    have z := hbw.size
    have ls := bs.lt
    by_cases hlt : k < V
    · have hlti : (k : Int) < (V : Int) := by omega
      have HOk := Lib.hid (fun w' hb bk hkn => HO.out w' k hlt hb bk hkn)
      have hCs2 : csum (cOne V b.lo b.hi ks k) ≤ 2304 := HCA.out _
      have hST : sureTo (atN n) V b.lo b.hi ks (k + 1) = if (atN n) (cOne V b.lo b.hi ks k) = (atN n) C then ((sureTo (atN n) V b.lo b.hi ks k).1 + 2 ^ k, (sureTo (atN n) V b.lo b.hi ks k).2) else if (atN n) (cOne V b.lo b.hi ks k) = 0 then ((sureTo (atN n) V b.lo b.hi ks k).1, (sureTo (atN n) V b.lo b.hi ks k).2 + 2 ^ k) else sureTo (atN n) V b.lo b.hi ks k := by rw [← HCC.out]; rfl
      have HST := Lib.hid hST
      clear hST
      have hl := HLT.out k
      generalize cOne V b.lo b.hi ks k = D at *
      generalize sureTo (atN n) V b.lo b.hi ks k = s at *
      obtain ⟨sw, sb⟩ := s
      simp only at bs hl
      have hor1 := i64_or_pow sw (by have := Nat.pow_le_pow_right (show 0 < 2 by omega) (show k ≤ 8 by omega); have e : (2 : Nat) ^ 8 = 256 := rfl; omega) k (by omega) hl.1
      have hor2 := i64_or_pow sb (by have := Nat.pow_le_pow_right (show 0 < 2 by omega) (show k ≤ 8 by omega); have e : (2 : Nat) ^ 8 = 256 := rfl; omega) k (by omega) hl.2
      have HMD := Lib.hid (fun w' hb => HM.out D w' hCs2 hb)
      clear hCs2
      have hwp := wrap_pow k (by omega)
      have HB2 := Lib.hid (fun w' => HB.out k k rfl (by omega) true w')
      obtain ⟨P, hP⟩ : ∃ P, 2 ^ k = P := ⟨_, rfl⟩
      rw [hP] at HOk HST hl hor1 hor2 hwp HB2
      clear hP
      by_cases hA : (atN n) D = (atN n) C
      · have hAi : (((atN n) D : Int) == ((atN n) C : Int)) = true := by rw [hA]; simp
        have h2 := HST.out
        rw [if_pos hA] at h2
        have HS2 := Lib.hid h2
        clear h2 HST hA
        go_wp2_with (first
          | (go_at_call 57; refine (HE.out _ (by (repeat (first | assumption | exact Below.refl _ _ | refine Below.drew ?_ | refine Below.alloc ?_ (by first | omega | (simp; done) | (simp; omega)) _ | refine Below.setCell ?_ (by first | omega | (simp; done) | (simp; omega)) _ | refine Below.trans ?_ (Below.mono (by assumption) (by first | omega | (simp; done) | (simp; omega))))))).mono ?_; rintro e w' ⟨rfl, rfl⟩)
          | (go_at_call 58; refine (HB2.out _).mono ?_; rintro e w3 ⟨rfl, hb3⟩; have hbw3 : Below w.heap.size w w3 := hbw.trans (hb3.mono z))
          | (go_at_call 56; refine (HOk.out _ (hbw3.alloc hbw3.size _) _ (kn_one _ _ _)).mono ?_; rintro e w4 ⟨rfl, hb4⟩; have hbw4 : Below w.heap.size w w4 := (hbw3.alloc hbw3.size _).trans (hb4.mono (by have := hbw3.size; simp; omega)))
          | (go_at_call 81; refine (HMD.out _ hbw4).mono ?_; rintro e w5 ⟨rfl, hb5⟩; have hbw5 : Below w.heap.size w w5 := hbw4.trans (hb5.mono hbw4.size); have bs5 : Blk w5 w.heap.size #[.int .i64 sw, .int .i64 sb] 80 := (((bs.below hb3 ls).alloc _).below hb4 (by have := hb3.size; simp; omega)).below hb5 (by have := hb3.size; have := hb4.size; simp at this; omega)))
        clear hbw hb3 hb4 hb5 hbw3 hbw4 bs
        have r5 := bs5.cell
        have f5 := bs5.free
        refine Ord.wp_region [(0, 0), (1, 0), (2, 0), (3, 0), (4, 0), (5, 0), (6, 2)] (fun _ => True) (by kernel_rfl) (by kernel_rfl) (fun c a d v w h => by cases d <;> exact h) trivial ?_
        go_wp2_with (first | ((with_reducible refine Ord.at_calm ?_); refine Ord.calm_skip rfl ?_ (fun K hK => ?_); (focus (simp [Region.wanted, yielded]; done))) | with_reducible refine Ord.walk_calm rfl rfl (fun K hK => ?_) | ((with_reducible refine Ord.at_wild ?_); refine Ord.wild_fieldAddr rfl rfl (fun W => by simp [go_sem]; rfl) (fun K hK => ?_)) | ((with_reducible refine Ord.at_wild ?_); refine Ord.wild_move rfl rfl (fun K hK => ?_)) | ((with_reducible refine Ord.at_wild ?_); refine Ord.wild_nilCheck rfl rfl (fun K hK => ?_)) | with_reducible refine Ord.walk_eff rfl (by first | (simp; done) | assumption | (go_simp; done) | (repeat (first | assumption | exact Below.refl _ _ | refine Below.drew ?_ | refine Below.alloc ?_ (by first | omega | (simp; done) | (simp; omega)) _ | refine Below.setCell ?_ (by first | omega | (simp; done) | (simp; omega)) _ | refine Below.trans ?_ (Below.mono (by assumption) (by first | omega | (simp; done) | (simp; omega)))))) (fun K hK => ?_) | with_reducible refine Ord.at_fork ?_ ?_ | with_reducible refine Ord.walk_nil ?_ | (with_reducible refine Ord.next_of (by first | (simp; done) | (go_simp; done) | (repeat (first | assumption | exact Below.refl _ _ | refine Below.drew ?_ | refine Below.alloc ?_ (by first | omega | (simp; done) | (simp; omega)) _ | refine Below.setCell ?_ (by first | omega | (simp; done) | (simp; omega)) _ | refine Below.trans ?_ (Below.mono (by assumption) (by first | omega | (simp; done) | (simp; omega)))))) (fun _ => ?_)))
        refine ⟨⟨k + 1, by omega, by go_num, by (repeat (first | assumption | exact Below.refl _ _ | refine Below.drew ?_ | refine Below.alloc ?_ (by first | omega | (simp; done) | (simp; omega)) _ | refine Below.setCell ?_ (by first | omega | (simp; done) | (simp; omega)) _ | refine Below.trans ?_ (Below.mono (by assumption) (by first | omega | (simp; done) | (simp; omega))))), ?_⟩, by simp [intOf]; omega⟩
        rw [HS2.out]
        simp only [Int.natCast_add]
        exact (bs5.set 0 _).drew
      · have hAi : (((atN n) D : Int) == ((atN n) C : Int)) = false := by simp; omega
        have h2 := HST.out
        rw [if_neg hA] at h2
        clear HST hA
        by_cases h0 : (atN n) D = 0
        · have h0i : (((atN n) D : Int) == (0 : Int)) = true := by rw [h0]; rfl
          rw [if_pos h0] at h2
          have HS2 := Lib.hid h2
          clear h2 h0
          go_wp2_with (first
            | (go_at_call 57; refine (HE.out _ (by (repeat (first | assumption | exact Below.refl _ _ | refine Below.drew ?_ | refine Below.alloc ?_ (by first | omega | (simp; done) | (simp; omega)) _ | refine Below.setCell ?_ (by first | omega | (simp; done) | (simp; omega)) _ | refine Below.trans ?_ (Below.mono (by assumption) (by first | omega | (simp; done) | (simp; omega))))))).mono ?_; rintro e w' ⟨rfl, rfl⟩)
            | (go_at_call 58; refine (HB2.out _).mono ?_; rintro e w3 ⟨rfl, hb3⟩; have hbw3 : Below w.heap.size w w3 := hbw.trans (hb3.mono z))
            | (go_at_call 56; refine (HOk.out _ (hbw3.alloc hbw3.size _) _ (kn_one _ _ _)).mono ?_; rintro e w4 ⟨rfl, hb4⟩; have hbw4 : Below w.heap.size w w4 := (hbw3.alloc hbw3.size _).trans (hb4.mono (by have := hbw3.size; simp; omega)))
            | (go_at_call 81; refine (HMD.out _ hbw4).mono ?_; rintro e w5 ⟨rfl, hb5⟩; have hbw5 : Below w.heap.size w w5 := hbw4.trans (hb5.mono hbw4.size); have bs5 : Blk w5 w.heap.size #[.int .i64 sw, .int .i64 sb] 80 := (((bs.below hb3 ls).alloc _).below hb4 (by have := hb3.size; simp; omega)).below hb5 (by have := hb3.size; have := hb4.size; simp at this; omega)))
          clear hbw hb3 hb4 hb5 hbw3 hbw4 bs
          have r5 := bs5.cell
          have f5 := bs5.free
          refine Ord.wp_region [(0, 0), (1, 0), (2, 0), (3, 0), (4, 0), (5, 0), (6, 2)] (fun _ => True) (by kernel_rfl) (by kernel_rfl) (fun c a d v w h => by cases d <;> exact h) trivial ?_
          go_wp2_with (first | ((with_reducible refine Ord.at_calm ?_); refine Ord.calm_skip rfl ?_ (fun K hK => ?_); (focus (simp [Region.wanted, yielded]; done))) | with_reducible refine Ord.walk_calm rfl rfl (fun K hK => ?_) | ((with_reducible refine Ord.at_wild ?_); refine Ord.wild_fieldAddr rfl rfl (fun W => by simp [go_sem]; rfl) (fun K hK => ?_)) | ((with_reducible refine Ord.at_wild ?_); refine Ord.wild_move rfl rfl (fun K hK => ?_)) | ((with_reducible refine Ord.at_wild ?_); refine Ord.wild_nilCheck rfl rfl (fun K hK => ?_)) | with_reducible refine Ord.walk_eff rfl (by first | (simp; done) | assumption | (go_simp; done) | (repeat (first | assumption | exact Below.refl _ _ | refine Below.drew ?_ | refine Below.alloc ?_ (by first | omega | (simp; done) | (simp; omega)) _ | refine Below.setCell ?_ (by first | omega | (simp; done) | (simp; omega)) _ | refine Below.trans ?_ (Below.mono (by assumption) (by first | omega | (simp; done) | (simp; omega)))))) (fun K hK => ?_) | with_reducible refine Ord.at_fork ?_ ?_ | with_reducible refine Ord.walk_nil ?_ | (with_reducible refine Ord.next_of (by first | (simp; done) | (go_simp; done) | (repeat (first | assumption | exact Below.refl _ _ | refine Below.drew ?_ | refine Below.alloc ?_ (by first | omega | (simp; done) | (simp; omega)) _ | refine Below.setCell ?_ (by first | omega | (simp; done) | (simp; omega)) _ | refine Below.trans ?_ (Below.mono (by assumption) (by first | omega | (simp; done) | (simp; omega)))))) (fun _ => ?_)))
          refine ⟨⟨k + 1, by omega, by go_num, by (repeat (first | assumption | exact Below.refl _ _ | refine Below.drew ?_ | refine Below.alloc ?_ (by first | omega | (simp; done) | (simp; omega)) _ | refine Below.setCell ?_ (by first | omega | (simp; done) | (simp; omega)) _ | refine Below.trans ?_ (Below.mono (by assumption) (by first | omega | (simp; done) | (simp; omega))))), ?_⟩, by simp [intOf]; omega⟩
          rw [HS2.out]
          simp only [Int.natCast_add]
          exact (bs5.set 1 _).drew
        · have h0i : (((atN n) D : Int) == (0 : Int)) = false := by simp; omega
          rw [if_neg h0] at h2
          have HS2 := Lib.hid h2
          clear h2 h0
          go_wp2_with (first
            | (go_at_call 57; refine (HE.out _ (by (repeat (first | assumption | exact Below.refl _ _ | refine Below.drew ?_ | refine Below.alloc ?_ (by first | omega | (simp; done) | (simp; omega)) _ | refine Below.setCell ?_ (by first | omega | (simp; done) | (simp; omega)) _ | refine Below.trans ?_ (Below.mono (by assumption) (by first | omega | (simp; done) | (simp; omega))))))).mono ?_; rintro e w' ⟨rfl, rfl⟩)
            | (go_at_call 58; refine (HB2.out _).mono ?_; rintro e w3 ⟨rfl, hb3⟩; have hbw3 : Below w.heap.size w w3 := hbw.trans (hb3.mono z))
            | (go_at_call 56; refine (HOk.out _ (hbw3.alloc hbw3.size _) _ (kn_one _ _ _)).mono ?_; rintro e w4 ⟨rfl, hb4⟩; have hbw4 : Below w.heap.size w w4 := (hbw3.alloc hbw3.size _).trans (hb4.mono (by have := hbw3.size; simp; omega)))
            | (go_at_call 81; refine (HMD.out _ hbw4).mono ?_; rintro e w5 ⟨rfl, hb5⟩; have hbw5 : Below w.heap.size w w5 := hbw4.trans (hb5.mono hbw4.size); have bs5 : Blk w5 w.heap.size #[.int .i64 sw, .int .i64 sb] 80 := (((bs.below hb3 ls).alloc _).below hb4 (by have := hb3.size; simp; omega)).below hb5 (by have := hb3.size; have := hb4.size; simp at this; omega)))
          refine ⟨⟨k + 1, by omega, by go_num, hbw5, ?_⟩, by simp [intOf]; omega⟩
          rw [HS2.out]
          exact bs5
    · have hkV : k = V := by omega
      subst hkV
      generalize sureTo (atN n) k b.lo b.hi ks k = s at *
      go_wp2_with (first
        | (refine wpList_load_blk 80 (.tmp 4) agg_sets rfl rfl rfl bs rfl ?_)
        | (refine wpList_store_blk 80 (.tmp 4) (.tmp 48) agg_sets rfl rfl rfl rfl bs rfl rfl (by simp [Value.oneCell']) ?_; intro w6 h6))
      (try simp only [Exit.inBlock, Exit.then])
      refine bodyPost_ret (v := .agg #[.int .i64 s.1, .int .i64 s.2]) (results_cell_blk rfl _ agg_sets rfl h6.blk rfl) rfl ⟨rfl, ?_⟩
      exact h6.below hbw (Nat.le_refl _)
end Go.Proofs.Ytjbjmoghloabpaa
