/- Parts of a proof: BnAI, BnRefL, BnRefM. -/
import Derived.Test.YtjbjmoghloabpaaM02
import Derived.Test.YtjbjmoghloabpaaM27
import Derived.Test.YtjbjmoghloabpaaM20
/- How many bits are set: math/bits.OnesCount; the comparison that Clash sorts by; what the sorted row holds. -/
set_option linter.unusedVariables false
set_option linter.unusedSimpArgs false
namespace Go.Proofs.Ytjbjmoghloabpaa
open Go.RowKit Go.Proofs
attribute [local irreducible] Ord.walk
open Go.Sort Go.Shelf Go.Lib
theorem b_ones64 (x : Nat) (hx : x < 256) (w : World) :
    Calls Try.prog 103 #[.int .u64 x] w (Same (.int .i64 (Stab.pop x : Nat)) w) := by
  have h0 : (0 : Int) ≤ (x : Int) := by omega
  have h1 : (x : Int) ≤ 255 := by omega
  go_enter Try.func103, Try.ntmps103
  go_wp2
  go_ret
  refine ⟨ret_int ?_, rfl⟩
  clear h0 h1
  revert hx
  revert x
  decide +kernel
theorem b_ones (x : Nat) (hx : x < 256) (w : World) :
    Calls Try.prog 86 #[.int .u64 x] w (Same (.int .i64 (Stab.pop x : Nat)) w) := by
  have H := Lib.hid (fun W => b_ones64 x hx W)
  generalize Stab.pop x = p at *
  go_enter Try.func86, Try.ntmps86
  go_wp2_with (go_at_call 103; refine (H.out _).mono ?_; rintro e w' ⟨rfl, rfl⟩)
  go_ret
  exact ⟨rfl, rfl⟩
theorem pop_le (x : Nat) : Stab.pop x ≤ 8 := by unfold Stab.pop; omega
theorem b_cmp (x y : Nat) (hx : x < 256) (hy : y < 256) (w : World) :
    Calls Try.prog 85 #[.int .u64 x, .int .u64 y] w (Same (.int .i64 ((Stab.pop x : Int) - (Stab.pop y : Int))) w) := by
  have H : Hid (∀ z W, z < 256 → Calls Try.prog 86 #[.int .u64 (z : Nat)] W (Same (.int .i64 (Stab.pop z : Nat)) W)) := fun z W hz => b_ones z hz W
  have p1 := pop_le x
  have p2 := pop_le y
  go_enter Try.func85, Try.ntmps85
  go_wp2_with (go_at_call 86; refine (H.out _ _ (by assumption)).mono ?_; rintro e w' ⟨rfl, rfl⟩)
  go_ret
  exact ⟨rfl, rfl⟩

def enc8 (x : Fin 256) : Value := .int .u64 (x.val : Nat)
def cf8 (x y : Fin 256) : Int := (Stab.pop x.val : Int) - (Stab.pop y.val : Int)
theorem cmp8 (blk off size : Nat) (w : World) : CmpLays1 Try.prog 85 #[] enc8 cf8 blk off size w := by
  intro m os dk _ x y
  refine (b_cmp x.val y.val x.isLt y.isLt _).mono ?_
  rintro e w' ⟨rfl, rfl⟩
  exact ⟨rfl, 0, #[], by rw [grow_empty]; rfl⟩
theorem lt8 (x y : Fin 256) : ltOf cf8 x y = Stab.ltp x.val y.val := by
  unfold ltOf cf8 Stab.ltp
  rw [Bool.eq_iff_iff, decide_eq_true_iff, Nat.blt_eq]
  omega
namespace Stab
def to8 (l : List Nat) : List (Fin 256) := l.map (Fin.ofNat 256)
theorem coded_inj (l m : List (Fin 256)) (hl : l.length = m.length) (h : coded l = coded m) : l = m := by
  apply List.ext_getElem hl
  intro i h1 h2
  have a := coded_get l i
  have b := coded_get m i
  rw [h] at a
  rw [List.getElem?_eq_getElem h1, Option.getD_some] at a
  rw [List.getElem?_eq_getElem h2, Option.getD_some] at b
  exact Fin.ext (a.symm.trans b)
set_option maxRecDepth 100000 in
theorem bySize_all : ∀ k, k ≤ 8 → Stab.stable (natO (2 ^ k)) ltp (2 ^ k) (coded (to8 (List.range (2 ^ k)))) = coded (to8 (bySize k)) ∧ (bySize k).length = 2 ^ k ∧ (bySize k).all (fun x => Nat.blt x (2 ^ k)) = true := by
  intro k hk
  rcases (show k = 0 ∨ k = 1 ∨ k = 2 ∨ k = 3 ∨ k = 4 ∨ k = 5 ∨ k = 6 ∨ k = 7 ∨ k = 8 by omega) with rfl | rfl | rfl | rfl | rfl | rfl | rfl | rfl | rfl <;> decide +kernel
theorem stable_all (k : Nat) (hk : k ≤ 8) : Stab.stable (arrO (Fin 256)) (ltOf cf8) (2 ^ k) (to8 (List.range (2 ^ k))).toArray = (to8 (bySize k)).toArray := by
  obtain ⟨h1, h2, _⟩ := bySize_all k hk
  have hs := (sim_nat (2 ^ k) (ltOf cf8) ltp lt8).stable (2 ^ k) (s := (to8 (List.range (2 ^ k))).toArray) (t := coded (to8 (List.range (2 ^ k)))) ⟨by simp [to8], rfl⟩
  obtain ⟨h3, h4⟩ := hs
  rw [h1] at h4
  have := coded_inj _ _ (by rw [Array.length_toList, h3]; simp [to8, h2]) h4
  apply Array.toList_inj.1
  exact this
end Stab
end Go.Proofs.Ytjbjmoghloabpaa
/- Contracts of shearworksref03: Quiet. -/
set_option linter.unusedVariables false
set_option linter.unusedSimpArgs false
namespace Go.Proofs.Ytjbjmoghloabpaa
open Go.RowKit Go.Proofs

/-- Is a number quiet, by all truths? -/
def quietB (l : List Nat) (V n : Nat) : Bool := decide (0 < (withL l n).length) && ((whiteM (withL l n) V == whiteM l V) && (blackM (withL l n) V == blackM l V))
def quietM (l : List Nat) (V k : Nat) : Nat := maskTo (quietB l V) k
theorem maskTo_succ (f : Nat → Bool) (k : Nat) : maskTo f (k + 1) = maskTo f k + if f k then 2 ^ k else 0 := rfl

set_option maxHeartbeats 4000000 in
set_option maxRecDepth 100000 in
theorem r_Quiet (b : Bn) (ga : Option Addr) (gc : Nat) (pa : Option Addr) (pc : Nat) (w : World) (hg : GsAt w ga b.gs) (hp : PsAt w pa b.ps)
    (hgl : b.gs.length ≤ 40) (hpl : b.ps.length ≤ 40) :
    Calls Try.prog 29 #[bv b ga gc pa pc] w
      (if toldE b true = 0 then Gives2 (.int .i64 (quietM (TL b) b.V.toNat (b.V.toNat + 1) : Nat)) (.int .i64 0) w else Gives2 (.int .i64 0) (.int .i64 (toldE b true)) w) := by
  have HT : Hid (∀ w', Below w.heap.size w w' → Calls Try.prog 49 #[bv b ga gc pa pc, .bool true] w' (ToldAt (toldL b true) (toldE b true) w')) :=
    fun w' hb => r_told b ga gc pa pc w' (hg.below hb) (hp.below hb) hgl hpl true
  by_cases e0 : toldE b true = 0
  · rw [if_pos e0]
    obtain ⟨hv, -, -⟩ := toldE_zero e0
    rw [toldL_zero e0, e0] at HT
    have hV := valid_V hv
    have HS : Hid (∀ (w' : World) (a : Option Addr) (c : Nat), IntsAt w' a (TL b) → Calls Try.prog 64 #[bv b ga gc pa pc, .slice a (TL b).length c] w' (Gives2 (.int .i64 (whiteM (TL b) b.V.toNat : Nat)) (.int .i64 (blackM (TL b) b.V.toNat : Nat)) w')) :=
      fun w' a c hI => r_sure b ga gc pa pc (by omega) (TL b) (TL_small hv) a c (by have := TL_len hv; omega) w' hI
    have HWi : Hid (∀ (n : Nat) (w' : World) (a : Option Addr) (c : Nat), IntsAt w' a (TL b) → Calls Try.prog 79 #[.slice a (TL b).length c, .int .i64 (n : Nat)] w' (GivesL (withL (TL b) n) w')) :=
      fun n w' a c hI => r_with (TL b) (TL_small hv) a c n (by have := TL_len hv; omega) w' hI
    have HU : Hid (∀ (n : Nat) (w' : World) (a : Option Addr) (c : Nat), IntsAt w' a (withL (TL b) n) → Calls Try.prog 64 #[bv b ga gc pa pc, .slice a (withL (TL b) n).length c] w' (Gives2 (.int .i64 (whiteM (withL (TL b) n) b.V.toNat : Nat)) (.int .i64 (blackM (withL (TL b) n) b.V.toNat : Nat)) w')) :=
      fun n w' a c hI => r_sure b ga gc pa pc (by omega) (withL (TL b) n) ((TL_small hv).filter _) a c (by have := TL_len hv; have := List.length_filter_le (fun x => decide ((sz x : Int) = (n : Int))) (TL b); unfold withL; omega) w' hI
    have HP : Hid (∀ n : Nat, n ≤ 62 → ∀ w, Calls Try.prog 82 #[.int .i64 (n : Nat)] w (Same (.int .i64 (2 ^ n : Nat)) w)) := fun n hn w => r_power0 n hn w
    have HQ : Hid (∀ n, quietM (TL b) b.V.toNat (n + 1) = quietM (TL b) b.V.toNat n + if 0 < (withL (TL b) n).length ∧ whiteM (withL (TL b) n) b.V.toNat = whiteM (TL b) b.V.toNat ∧ blackM (withL (TL b) n) b.V.toNat = blackM (TL b) b.V.toNat then 2 ^ n else 0) := by
      intro n
      unfold quietM
      rw [maskTo_succ]
      congr 1
      simp only [quietB, Bool.and_eq_true, decide_eq_true_eq, beq_iff_eq]
    have HQ0 : Hid (quietM (TL b) b.V.toNat 0 = 0) := rfl
    have HQL : Hid (∀ n, quietM (TL b) b.V.toNat n < 2 ^ n) := fun n => maskTo_lt _ n
    have hV2 : b.V = (b.V.toNat : Nat) := by omega
    have hV8 : b.V.toNat ≤ 8 := by omega
    clear hV
    unfold bv at *
    generalize quietM (TL b) b.V.toNat = QT at *
    generalize hvn : b.V.toNat = V at *
    have HV2 := Lib.hid hV2
    clear hvn hV2
    obtain ⟨wl, hwl⟩ : ∃ f : Nat → List Nat, ∀ n : Nat, withL (TL b) n = f n := ⟨_, fun _ => rfl⟩
    simp only [hwl] at HU HQ HWi
    clear hwl
    generalize whiteM (TL b) V = wm at *
    generalize blackM (TL b) V = bm at *
    generalize TL b = T at *
    clear hg hp hgl hpl e0 hv
    go_enter Try.func29, Try.ntmps29
    go_wp2_with (first
      | (go_at_call 49; refine (HT.out _ ?_).mono ?_; (focus (repeat (first | assumption | exact Below.refl _ _ | refine Below.drew ?_ | refine Below.alloc ?_ (by first | omega | (simp; done) | (simp; omega)) _ | refine Below.setCell ?_ (by first | omega | (simp; done) | (simp; omega)) _ | refine Below.trans ?_ (Below.mono (by assumption) (by first | omega | (simp; done) | (simp; omega)))))); rintro e w1 ⟨a, c, rfl, hI, hb1⟩; obtain ⟨c1, f1, z1⟩ := after hb1 (by simp; rfl))
      | (go_at_call 64; refine (HS.out _ _ _ hI).mono ?_; rintro e w2 ⟨rfl, hb2⟩))
    have k2 : Below (w.heap.size + 1) (w.alloc (.cells #[.int .i64 b.V, .int .i64 b.nd, .int .i64 b.lo, .int .i64 b.hi, .slice ga b.gs.length gc, .slice pa b.ps.length pc] 27)) w2 := by
      refine Below.trans ?_ (hb2.mono ?_)
      · refine Below.mono hb1 ?_; simp
      · have := hb1.size; simpa using this
    have hI2 := hI.below hb2
    have hBw : Below w.heap.size w w2 := ((Below.refl _ _).alloc (Nat.le_refl _) _).trans (k2.mono (by omega))
    clear c1 f1 z1 hb1 hb2 hI HT HS
    have z2 : w.heap.size + 1 ≤ w2.heap.size := by have := k2.size; simpa using this
    go_loopw [8, 9] (fun o i wr => ∃ k : Nat, k ≤ V + 1 ∧ i = .int .i64 k ∧ o = .int .i64 (QT k : Nat) ∧ Below w2.heap.size w2 wr) (fun _ i _ => V + 1 - (intOf i).toNat)
    case atStart => exact ⟨0, by omega, rfl, by rw [HQ0.out]; rfl, Below.refl _ _⟩
    case round =>
      obtain ⟨k, hk, rfl, rfl, hB⟩ := hrel
      have k3 : Below (w.heap.size + 1) (w.alloc (.cells #[.int .i64 b.V, .int .i64 b.nd, .int .i64 b.lo, .int .i64 b.hi, .slice ga b.gs.length gc, .slice pa b.ps.length pc] 27)) wr := k2.trans (hB.mono z2)
      obtain ⟨c3, f3, z3⟩ := below_rules k3 (by simp; rfl)
      have hI3 := hI2.below hB
      have hBr : Below w.heap.size w wr := hBw.trans (hB.mono (by omega))
      have hlti : ((k : Int) ≤ b.V) ↔ k ≤ V := by rw [HV2.out]; omega
      by_cases hlt : k ≤ V
      · replace hlti := hlti.2 hlt
        have HQk := Lib.hid (HQ.out k)
        have hql := HQL.out k
        have hk62 : k ≤ 62 := by omega
        have HPk := Lib.hid (fun w => HP.out k hk62 w)
        have hp2 : 2 ^ k ≤ 2 ^ 8 := Nat.pow_le_pow_right (by omega) (by omega)
        have hp3 : 2 ^ k ≤ 256 := hp2
        clear hp2
        have HWk := Lib.hid (HWi.out k)
        have HUk := Lib.hid (HU.out k)
        generalize wl k = l1 at *
        generalize whiteM l1 V = w1m at *
        generalize blackM l1 V = b1m at *
        generalize hqk : QT k = q at *
        have HPQ : Hid (2 ^ k = 2 ^ k) := rfl
        generalize hpk : 2 ^ k = p at *
        clear hqk
        go_wp2_with (first
          | (go_at_call 79; refine (HWk.out _ _ _ hI3).mono ?_; rintro e w4 ⟨a4, cc4, rfl, hI4, hb4⟩; obtain ⟨c4, f4, z4⟩ := after hb4 rfl)
          | (go_at_call 64; refine (HUk.out _ _ _ hI4).mono ?_; rintro e w5 ⟨rfl, hb5⟩; obtain ⟨c5, f5, z5⟩ := after hb5 rfl)
          | (go_at_call 82; refine (HPk.out _).mono ?_; rintro e w6 ⟨rfl, rfl⟩))
        all_goals
          have hQ1 := HQk.out
          have hb' : Below w2.heap.size w2 w5 := hB.trans ((hb4.mono hB.size).trans (hb5.mono (Nat.le_trans hB.size hb4.size)))
          refine ⟨⟨k + 1, by omega, by go_num, ?_, hb'⟩, by simp [intOf]; omega⟩
          rw [hQ1]
          clear hQ1
          try simp only [beq_iff_eq, beq_eq_false_iff_ne, ne_eq, Int.natCast_inj] at *
          first
            | (rw [if_pos (by refine ⟨?_, ?_, ?_⟩ <;> omega)]; rfl)
            | (rw [if_neg (by omega)]; rfl)
      · replace hlti := mt hlti.1 hlt
        obtain rfl : k = V + 1 := by omega
        go_wp2
        go_ret2
        exact ⟨rfl, hBr⟩
  · rw [if_neg e0]
    have hne : (toldE b true == 0) = false := by simpa using e0
    have hl0 : toldL b true = [] := by simp [toldL, e0]
    rw [hl0] at HT
    unfold bv at *
    generalize toldE b true = te at *
    clear hg hp hgl hpl e0
    go_enter Try.func29, Try.ntmps29
    go_wp2_with (first
      | (go_at_call 49; refine (HT.out _ ?_).mono ?_; (focus (repeat (first | assumption | exact Below.refl _ _ | refine Below.drew ?_ | refine Below.alloc ?_ (by first | omega | (simp; done) | (simp; omega)) _ | refine Below.setCell ?_ (by first | omega | (simp; done) | (simp; omega)) _ | refine Below.trans ?_ (Below.mono (by assumption) (by first | omega | (simp; done) | (simp; omega)))))); rintro e w1 ⟨a, c, rfl, hI, hb1⟩; obtain ⟨c1, f1, z1⟩ := after hb1 (by simp; rfl)))
    go_ret2
    refine ⟨rfl, ?_⟩
    (repeat (first | assumption | exact Below.refl _ _ | refine Below.drew ?_ | refine Below.alloc ?_ (by first | omega | (simp; done) | (simp; omega)) _ | refine Below.setCell ?_ (by first | omega | (simp; done) | (simp; omega)) _ | refine Below.trans ?_ (Below.mono (by assumption) (by first | omega | (simp; done) | (simp; omega)))))
end Go.Proofs.Ytjbjmoghloabpaa
/- Contracts of shearworksref03: Clash. -/
set_option linter.unusedVariables false
set_option linter.unusedSimpArgs false
namespace Go.Proofs.Ytjbjmoghloabpaa
open Go.RowKit Go.Proofs

/-- The least of the smallest sets that clash, of those below a number. -/
def bestTo (f : Nat → Bool) (all : Nat) : Nat → Nat
  | 0 => all
  | k + 1 => if sz k < sz (bestTo f all k) ∧ f k = true then k else bestTo f all k
theorem bestTo_le (f : Nat → Bool) (all : Nat) : ∀ k, k ≤ all + 1 → bestTo f all k ≤ all
  | 0, _ => Nat.le_refl _
  | k + 1, h => by have := bestTo_le f all k (by omega); unfold bestTo; split <;> omega
def clashB (b : Bn) : Nat := bestTo (fun s => (truthsL b s).isEmpty) (2 ^ b.kn - 1) (2 ^ b.kn)
theorem truthsL_len {b : Bn} (hv : valid b = true) (s : Nat) : (truthsL b s).length ≤ 256 := by
  have h1 : (truthsL b s).length ≤ (List.range (2 ^ b.V.toNat)).length := List.length_filter_le _ _
  have hV := valid_V hv
  have h2 : 2 ^ b.V.toNat ≤ 2 ^ 8 := Nat.pow_le_pow_right (by omega) (by omega)
  rw [List.length_range] at h1
  have h3 : (2:Nat) ^ 8 = 256 := rfl
  omega

set_option maxHeartbeats 4000000 in
set_option maxRecDepth 100000 in
theorem r_Clash (b : Bn) (ga : Option Addr) (gc : Nat) (pa : Option Addr) (pc : Nat) (w : World) (hg : GsAt w ga b.gs) (hp : PsAt w pa b.ps)
    (hgl : b.gs.length ≤ 40) (hpl : b.ps.length ≤ 40) :
    Calls Try.prog 31 #[bv b ga gc pa pc] w
      (if chkE b true = 0 then (if TL b = [] then Gives2 (.int .i64 (clashB b : Nat)) (.int .i64 0) w else Gives2 (.int .i64 0) (.int .i64 4) w) else Gives2 (.int .i64 0) (.int .i64 (chkE b true)) w) := by
  have HT : Hid (∀ w', Below w.heap.size w w' → Calls Try.prog 71 #[bv b ga gc pa pc, .bool true] w' (Gives (.int .i64 (chkE b true)) w')) :=
    fun w' hb => r_check b ga gc pa pc w' (hg.below hb) (hp.below hb) hgl hpl true
  by_cases e0 : chkE b true = 0
  · rw [if_pos e0]
    obtain ⟨hv, -⟩ := chkE_zero e0
    rw [e0] at HT
    have HS : Hid (∀ (w' : World), Below w.heap.size w w' → Calls Try.prog 72 #[bv b ga gc pa pc] w' (GivesL (TL b) w')) :=
      fun w' hb => r_truthsAll b ga gc pa pc hv w' (hg.below hb) (hp.below hb)
    by_cases ht : TL b = []
    · rw [if_pos ht]
      rw [ht] at HS
      have hkl := valid_len hv
      have hkn : b.kn ≤ 8 := by unfold Bn.kn; omega
      have HE : Hid (∀ w', Calls Try.prog 89 #[bv b ga gc pa pc] w' (Gives (.int .i64 ((2 ^ b.kn - 1 : Nat) : Int)) w')) := fun w' => r_every b ga gc pa pc (by omega) (by omega) w'
      have hp8 : 2 ^ b.kn ≤ 2 ^ 8 := Nat.pow_le_pow_right (by omega) hkn
      have hp9 : 2 ^ b.kn ≤ 256 := hp8
      have hp0 : 0 < 2 ^ b.kn := Nat.two_pow_pos _
      have HSet : Hid (∀ (s : Nat) (w' : World), s ≤ 256 → Below w.heap.size w w' → Calls Try.prog 90 #[bv b ga gc pa pc, .int .i64 (s : Nat)] w' (GivesL (truthsL b s) w')) :=
        fun s w' hs hb => r_truths b ga gc pa pc hv w' (hg.below hb) (hp.below hb) _ s rfl (by omega)
      have HX : Hid (∀ (s : Nat) w', s ≤ 256 → Calls Try.prog 50 #[.int .i64 (s : Nat)] w' (Same (.int .i64 (sz s)) w')) := fun s w' hs => r_size0 s (by omega) w'
      have HQ : Hid (∀ k, bestTo (fun s => (truthsL b s).isEmpty) (2 ^ b.kn - 1) (k + 1) = if sz k < sz (bestTo (fun s => (truthsL b s).isEmpty) (2 ^ b.kn - 1) k) ∧ (truthsL b k).length = 0 then k else bestTo (fun s => (truthsL b s).isEmpty) (2 ^ b.kn - 1) k) := by
        intro k
        show (if _ then _ else _) = _
        congr 1
        simp [List.isEmpty_iff, List.length_eq_zero_iff]
      have HQ0 : Hid (bestTo (fun s => (truthsL b s).isEmpty) (2 ^ b.kn - 1) 0 = 2 ^ b.kn - 1) := rfl
      have HQL : Hid (∀ k, k ≤ 2 ^ b.kn → bestTo (fun s => (truthsL b s).isEmpty) (2 ^ b.kn - 1) k ≤ 256) := fun k hk => Nat.le_trans (bestTo_le _ _ k (by omega)) (by omega)
      have HQF : Hid (bestTo (fun s => (truthsL b s).isEmpty) (2 ^ b.kn - 1) (2 ^ b.kn) = clashB b) := rfl
      unfold bv at *
      generalize clashB b = cb at *
      generalize bestTo (fun s => (truthsL b s).isEmpty) (2 ^ b.kn - 1) = QT at *
      obtain ⟨tl, htl⟩ : ∃ f : Nat → List Nat, ∀ n, truthsL b n = f n := ⟨_, fun _ => rfl⟩
      simp only [htl] at HSet HQ
      clear htl hp8 ht
      obtain ⟨E, hE⟩ : ∃ E : Nat, 2 ^ b.kn = E + 1 := ⟨2 ^ b.kn - 1, by omega⟩
      rw [hE] at HE HQ0 HQL HQF hp9 hp0
      rw [Nat.add_sub_cancel] at HE HQ0
      clear hE hg hp hgl hpl e0 hv hkl hkn hp0
      go_enter Try.func31, Try.ntmps31
      go_wp2_with (first
        | (go_at_call 71; refine (HT.out _ ?_).mono ?_; (focus (repeat (first | assumption | exact Below.refl _ _ | refine Below.drew ?_ | refine Below.alloc ?_ (by first | omega | (simp; done) | (simp; omega)) _ | refine Below.setCell ?_ (by first | omega | (simp; done) | (simp; omega)) _ | refine Below.trans ?_ (Below.mono (by assumption) (by first | omega | (simp; done) | (simp; omega)))))); rintro e w1 ⟨rfl, hb1⟩; obtain ⟨c1, f1, z1⟩ := after hb1 (by simp; rfl))
        | (go_at_call 72; refine (HS.out _ ?_).mono ?_; (focus (repeat (first | assumption | exact Below.refl _ _ | refine Below.drew ?_ | refine Below.alloc ?_ (by first | omega | (simp; done) | (simp; omega)) _ | refine Below.setCell ?_ (by first | omega | (simp; done) | (simp; omega)) _ | refine Below.trans ?_ (Below.mono (by assumption) (by first | omega | (simp; done) | (simp; omega)))))); rintro e w2 ⟨a, c, rfl, hI, hb2⟩; obtain ⟨c2, f2, z2⟩ := after hb2 rfl)
        | (go_at_call 89; refine (HE.out _).mono ?_; rintro e w3 ⟨rfl, hb3⟩; obtain ⟨c3, f3, z3⟩ := after hb3 rfl))
      have k2 : Below (w.heap.size + 1) (w.alloc (.cells #[.int .i64 b.V, .int .i64 b.nd, .int .i64 b.lo, .int .i64 b.hi, .slice ga b.gs.length gc, .slice pa b.ps.length pc] 27)) w3 := by
        refine Below.trans (Below.mono hb1 (by simp)) (Below.trans (hb2.mono ?_) (hb3.mono ?_))
        · have := hb1.size; simpa using this
        · have := hb1.size; simp only [World.size_alloc] at this; omega
      have z3' : w.heap.size + 1 ≤ w3.heap.size := by have := k2.size; simpa using this
      have hBw : Below w.heap.size w w3 := ((Below.refl _ _).alloc (Nat.le_refl _) _).trans (k2.mono (by omega))
      clear c1 f1 z1 hb1 c2 f2 z2 hb2 c3 f3 z3 hb3 hI HT HS
      go_loopw [5, 6] (fun o i wr => ∃ k : Nat, k ≤ E + 1 ∧ i = .int .i64 k ∧ o = .int .i64 (QT k : Nat) ∧ Below w3.heap.size w3 wr) (fun _ i _ => E + 1 - (intOf i).toNat)
      case atStart => exact ⟨0, by omega, rfl, by rw [HQ0.out], Below.refl _ _⟩
      case round =>
        obtain ⟨k, hk, rfl, rfl, hB⟩ := hrel
        have k3 : Below (w.heap.size + 1) (w.alloc (.cells #[.int .i64 b.V, .int .i64 b.nd, .int .i64 b.lo, .int .i64 b.hi, .slice ga b.gs.length gc, .slice pa b.ps.length pc] 27)) wr := k2.trans (hB.mono z3')
        obtain ⟨c3, f3, z3⟩ := below_rules k3 (by simp; rfl)
        have hBr : Below w.heap.size w wr := hBw.trans (hB.mono (by omega))
        by_cases hlt : k ≤ E
        · have hlti : (k : Int) ≤ (E : Int) := by omega
          have HQk := Lib.hid (HQ.out k)
          have hql := HQL.out k hk
          have HSk := Lib.hid (fun w' hb => HSet.out k w' (by omega) hb)
          generalize tl k = l1 at *
          generalize hqk : QT k = q at *
          clear hqk
          have X1 := Lib.hid (fun w' => HX.out k w' (by omega))
          have X2 := Lib.hid (fun w' => HX.out q w' (by omega))
          generalize sz k = s1 at *
          generalize sz q = s2 at *
          go_wp2_with (first
            | (go_at_call 89; refine (HE.out _).mono ?_; rintro e w4 ⟨rfl, hb4⟩; obtain ⟨c4, f4, z4⟩ := after hb4 rfl)
            | (go_at_call 50; refine ((by first | with_reducible exact X1.out _ | with_reducible exact X2.out _) : Calls _ _ _ _ _).mono ?_; rintro e w6 ⟨rfl, rfl⟩)
            | (go_at_call 90; refine (HSk.out _ ?_).mono ?_; (focus (repeat (first | assumption | exact Below.refl _ _ | refine Below.drew ?_ | refine Below.alloc ?_ (by first | omega | (simp; done) | (simp; omega)) _ | refine Below.setCell ?_ (by first | omega | (simp; done) | (simp; omega)) _ | refine Below.trans ?_ (Below.mono (by assumption) (by first | omega | (simp; done) | (simp; omega)))))); rintro e w5 ⟨a5, cc5, rfl, hI5, hb5⟩; obtain ⟨c5, f5, z5⟩ := after hb5 rfl))
          all_goals
            have hQ1 := HQk.out
            have hb' := (hB.trans (hb4.mono hB.size))
            refine ⟨⟨k + 1, by omega, by go_num, ?_, by first | exact hb' | exact hb'.trans (hb5.mono hb'.size)⟩, by simp [intOf]; omega⟩
            rw [hQ1]
            clear hQ1
            try simp only [beq_iff_eq, beq_eq_false_iff_ne, ne_eq, Int.natCast_inj] at *
            by_cases hc : s1 < s2 ∧ l1.length = 0
            · first | (exfalso; omega) | (rw [if_pos hc])
            · first | (exfalso; omega) | (rw [if_neg hc])
        · have hlti : ¬ (k : Int) ≤ (E : Int) := by omega
          obtain rfl : k = E + 1 := by omega
          rw [HQF.out]
          go_wp2_with (first
            | (go_at_call 89; refine (HE.out _).mono ?_; rintro e w4 ⟨rfl, hb4⟩; obtain ⟨c4, f4, z4⟩ := after hb4 rfl))
          go_ret2
          exact ⟨rfl, hBr.trans (hb4.mono hBr.size)⟩
    · rw [if_neg ht]
      have hpos : 0 < (TL b).length := List.length_pos_iff.2 ht
      unfold bv at *
      generalize TL b = T at *
      clear hg hp hgl hpl e0 hv
      go_enter Try.func31, Try.ntmps31
      go_wp2_with (first
        | (go_at_call 71; refine (HT.out _ ?_).mono ?_; (focus (repeat (first | assumption | exact Below.refl _ _ | refine Below.drew ?_ | refine Below.alloc ?_ (by first | omega | (simp; done) | (simp; omega)) _ | refine Below.setCell ?_ (by first | omega | (simp; done) | (simp; omega)) _ | refine Below.trans ?_ (Below.mono (by assumption) (by first | omega | (simp; done) | (simp; omega)))))); rintro e w1 ⟨rfl, hb1⟩; obtain ⟨c1, f1, z1⟩ := after hb1 (by simp; rfl))
        | (go_at_call 72; refine (HS.out _ ?_).mono ?_; (focus (repeat (first | assumption | exact Below.refl _ _ | refine Below.drew ?_ | refine Below.alloc ?_ (by first | omega | (simp; done) | (simp; omega)) _ | refine Below.setCell ?_ (by first | omega | (simp; done) | (simp; omega)) _ | refine Below.trans ?_ (Below.mono (by assumption) (by first | omega | (simp; done) | (simp; omega)))))); rintro e w2 ⟨a, c, rfl, hI, hb2⟩; obtain ⟨c2, f2, z2⟩ := after hb2 rfl))
      go_ret2
      refine ⟨rfl, ?_⟩
      (repeat (first | assumption | exact Below.refl _ _ | refine Below.drew ?_ | refine Below.alloc ?_ (by first | omega | (simp; done) | (simp; omega)) _ | refine Below.setCell ?_ (by first | omega | (simp; done) | (simp; omega)) _ | refine Below.trans ?_ (Below.mono (by assumption) (by first | omega | (simp; done) | (simp; omega)))))
  · rw [if_neg e0]
    have hne : (chkE b true == 0) = false := by simpa using e0
    unfold bv at *
    generalize chkE b true = te at *
    clear hg hp hgl hpl e0
    go_enter Try.func31, Try.ntmps31
    go_wp2_with (first
      | (go_at_call 71; refine (HT.out _ ?_).mono ?_; (focus (repeat (first | assumption | exact Below.refl _ _ | refine Below.drew ?_ | refine Below.alloc ?_ (by first | omega | (simp; done) | (simp; omega)) _ | refine Below.setCell ?_ (by first | omega | (simp; done) | (simp; omega)) _ | refine Below.trans ?_ (Below.mono (by assumption) (by first | omega | (simp; done) | (simp; omega)))))); rintro e w1 ⟨rfl, hb1⟩; obtain ⟨c1, f1, z1⟩ := after hb1 (by simp; rfl)))
    go_ret2
    refine ⟨rfl, ?_⟩
    (repeat (first | assumption | exact Below.refl _ _ | refine Below.drew ?_ | refine Below.alloc ?_ (by first | omega | (simp; done) | (simp; omega)) _ | refine Below.setCell ?_ (by first | omega | (simp; done) | (simp; omega)) _ | refine Below.trans ?_ (Below.mono (by assumption) (by first | omega | (simp; done) | (simp; omega)))))
end Go.Proofs.Ytjbjmoghloabpaa
