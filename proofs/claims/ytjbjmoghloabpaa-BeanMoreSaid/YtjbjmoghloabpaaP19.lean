/- Parts of a proof: StabI, BnAI, BnRefL, BnRefM, BnAM, StabB. -/
import Derived.Test.YtjbjmoghloabpaaP18
import Derived.Test.YtjbjmoghloabpaaP02
import Derived.Shelf.SlSortCmp.Kit1
import Derived.Deep.LoopGhost
import Derived.Lib.Hide
import Derived.Test.YtjbjmoghloabpaaP14
set_option linter.unusedVariables false
set_option linter.unusedSimpArgs false
namespace Go.Proofs.Ytjbjmoghloabpaa
open Go.RowKit Go.Proofs
open Go.Shelf Go.RowKit Go.Lib Go.Sort
variable {α : Type} [Inhabited α]

theorem insI_go (lt : α → α → Bool) (a j : Nat) (d : Array α) (h1 : a < j + 1) (h2 : lt d[j + 1]! d[j]! = true) : Stab.insI (Stab.arrO α) lt a (j + 1) d = Stab.insI (Stab.arrO α) lt a j (swp d (j + 1) j) := by
  rw [Stab.insI]
  show (if (decide (j + 1 > a) && lt d[j + 1]! d[j]!) = true then _ else _) = _
  rw [if_pos (by simp [h1, h2])]; rfl
theorem insI_stop (lt : α → α → Bool) (a j : Nat) (d : Array α) (h : j ≤ a ∨ lt d[j]! d[j - 1]! = false) : Stab.insI (Stab.arrO α) lt a j d = d := by
  cases j with
  | zero => rfl
  | succ j =>
    rw [Stab.insI]
    show (if (decide (j + 1 > a) && lt d[j + 1]! d[j]!) = true then _ else _) = _
    rw [if_neg]
    rcases h with h | h
    · simp; intro; omega
    · simp at h; simp [h]
theorem insO_go (lt : α → α → Bool) (a b f i : Nat) (d : Array α) (h : i < b) : Stab.insO (Stab.arrO α) lt a b (f + 1) i d = Stab.insO (Stab.arrO α) lt a b f (i + 1) (Stab.insI (Stab.arrO α) lt a i d) := by
  rw [Stab.insO, if_pos h]
theorem insO_stop (lt : α → α → Bool) (a b f i : Nat) (d : Array α) (h : ¬ i < b) : Stab.insO (Stab.arrO α) lt a b f i d = d := by
  cases f with
  | zero => rfl
  | succ f => rw [Stab.insO, if_neg h]
set_option maxHeartbeats 4000000 in
set_option maxRecDepth 100000 in
theorem ins_w (enc : α → Value) (cf : α → α → Int) (g : Nat) (cb : Array Value) (blk off cap L : Nat) (d0 d : Array α) (w0 w : World)
    (eg : ∀ args w, (callFunc g args).run Try.prog w = .ok (.enter g args) w) (hcmp : CmpLays1 Try.prog g cb enc cf blk off d0.size w0) (R : Row1 enc w0 blk off d0) (h0 : d0.size = L) (hs : d.size = L) (hL : L ≤ 256) (S : SW enc w0 blk off d w) (a b : Nat) (hab : a ≤ b) (hb : b ≤ L) :
    Calls Try.prog 108 #[.slice (some ⟨blk, off, none⟩) L cap, .int .i64 a, .int .i64 b, .func (.func g) #[] cb] w fun e w' => e = .returned (.tuple #[]) ∧ SW enc w0 blk off (Stab.ins (Stab.arrO α) (ltOf cf) d a b) w' := by
  have mixed : Try.prog.follows Departure.mixedOrders = true := by kernel_rfl
  have hcl0 := R.hO.cells
  simp only [Value.cells] at hcl0
  have hst := R.hO.store Try.prog
  have HC : Aside _ := hcmp
  have S0 : Aside (SW enc w0 blk off d w) := S
  clear S
  clear hcmp
  go_enter Try.func108, Try.ntmps108
  go_wp2
  go_loopg [8] (b - a) (fun g1 vi wr => ∃ (i : Nat) (dk : Array α), vi = .int .i64 i ∧ a < i ∧ i ≤ b + 1 ∧ b - i ≤ g1 ∧ dk.size = L ∧ Aside (SW enc w0 blk off dk wr) ∧ Hid (Stab.insO (Stab.arrO α) (ltOf cf) a b g1 i dk = Stab.ins (Stab.arrO α) (ltOf cf) d a b))
  case atStart => exact ⟨a + 1, d, by go_num, by omega, by omega, by omega, hs, S0, rfl⟩
  case round =>
    clear S0
    obtain ⟨i, dk, rfl, hai, hib, hg1, hsk, S1, HO⟩ := hrel
    by_cases hlt : i < b
    · have hltz : (i : Int) < (b : Int) := by omega
      obtain ⟨f, rfl⟩ : ∃ f, gk = f + 1 := ⟨gk - 1, by omega⟩
      have HO2 : Hid (Stab.insO (Stab.arrO α) (ltOf cf) a b f (i + 1) (Stab.insI (Stab.arrO α) (ltOf cf) a i dk) = Stab.ins (Stab.arrO α) (ltOf cf) d a b) := by
        show _ = _; have := HO.out; rwa [insO_go _ _ _ _ _ _ hlt] at this
      clear HO
      go_wp2
      go_loopg [9] i (fun g2 vj wr2 => ∃ (j : Nat) (dj : Array α), vj = .int .i64 j ∧ a ≤ j ∧ j ≤ i ∧ j ≤ g2 ∧ dj.size = L ∧ Aside (SW enc w0 blk off dj wr2) ∧ Hid (Stab.insI (Stab.arrO α) (ltOf cf) a j dj = Stab.insI (Stab.arrO α) (ltOf cf) a i dk))
      case atStart => exact ⟨i, dk, by go_num, by omega, Nat.le_refl _, Nat.le_refl _, hsk, S1, rfl⟩
      case round =>
        clear S1
        obtain ⟨j, dj, rfl, haj, hji, hg2, hsj, SJ, HI⟩ := hrel
        have out : (j ≤ a ∨ (ltOf cf) dj[j]! dj[j - 1]! = false) → Hid (Stab.insO (Stab.arrO α) (ltOf cf) a b f (i + 1) dj = Stab.ins (Stab.arrO α) (ltOf cf) d a b) := fun hs => by
          show _ = _
          rw [← HO2.out, ← HI.out, insI_stop _ _ _ _ hs]
        have OUT : Aside _ := out
        clear out
        by_cases hja : a < j
        · obtain ⟨jp, rfl⟩ : ∃ q, j = q + 1 := ⟨j - 1, by omega⟩
          have hjad : decide ((jp : Int) + 1 > (a : Int)) = true := decide_eq_true (by omega)
          have hjaz' : (a : Int) < (jp : Int) + 1 := by omega
          rw [Nat.add_sub_cancel] at OUT
          cases hl0 : (ltOf cf) dj[jp + 1]! dj[jp]! with
          | true =>
            have hlv := Lib.hid hl0
            have HI2 : Hid (Stab.insI (Stab.arrO α) (ltOf cf) a jp (swp dj (jp + 1) jp) = Stab.insI (Stab.arrO α) (ltOf cf) a i dk) := by
              show _ = _; rw [← HI.out, insI_go _ _ _ _ (by omega) hl0]
            clear hl0 HI OUT
            obtain ⟨i0N, hi0N⟩ : ∃ q, q = jp + 1 := ⟨_, rfl⟩
            have ei0 : ((jp : Int) + 1).toNat = i0N := by omega
            have pi0 : (0 : Int) ≤ (jp : Int) + 1 := by omega
            have bi0 : (jp : Int) + 1 < (L : Int) := by omega
            have ri0 : IntKind.i64.wrap ((jp : Int) + 1) = (jp : Int) + 1 := by rw [IntKind.wrap_i64]; omega
            have pj0 : (0 : Int) ≤ (jp : Int) := by omega
            have bj0 : (jp : Int) < (L : Int) := by omega
            have rj0 : IntKind.i64.wrap (jp : Int) = (jp : Int) := by rw [IntKind.wrap_i64]; omega
            obtain ⟨x0, hx0⟩ : ∃ x, x = dj[jp + 1]! := ⟨_, rfl⟩
            obtain ⟨y0, hy0⟩ : ∃ x, x = dj[jp]! := ⟨_, rfl⟩
            have la0 := SJ.out.cl R (by omega) (jp + 1) (by omega)
            have lb0 := SJ.out.cl R (by omega) (jp) (by omega)
            rw [← hx0] at la0
            rw [← hy0] at lb0
            rw [← hi0N] at la0
            have hc0 := SJ.out.cmp HC.out (by omega) x0 y0
            have hv0 : cf x0 y0 < 0 := by rw [hx0, hy0]; exact of_decide_eq_true hlv.out
            have hd0 : decide (cf x0 y0 < 0) = true := decide_eq_true hv0
            clear hx0 hy0 hi0N
            go_wp2_with fail
            go_quiet_grown (first | (go_at_fn g; refine Calls.grown_of (hc0 _ _)))
            have S2 : Aside (SW enc w0 blk off dj (grow (wr.drewN nq) osq)) := SJ.out.grown nq osq
            clear la0 lb0 hc0 SJ
            generalize grow (wr.drewN nq) osq = w2 at S2 ⊢
            clear nq osq
            clear hv0
            clear ei0
            go_wp2_with fail
            obtain ⟨i1N, hi1N⟩ : ∃ q, q = jp + 1 := ⟨_, rfl⟩
            have ei1 : ((jp : Int) + 1).toNat = i1N := by omega
            have pi1 : (0 : Int) ≤ (jp : Int) + 1 := by omega
            have bi1 : (jp : Int) + 1 < (L : Int) := by omega
            have ri1 : IntKind.i64.wrap ((jp : Int) + 1) = (jp : Int) + 1 := by rw [IntKind.wrap_i64]; omega
            have pj1 : (0 : Int) ≤ (jp : Int) := by omega
            have bj1 : (jp : Int) < (L : Int) := by omega
            have rj1 : IntKind.i64.wrap (jp : Int) = (jp : Int) := by rw [IntKind.wrap_i64]; omega
            obtain ⟨x1, hx1⟩ : ∃ x, x = dj[jp + 1]! := ⟨_, rfl⟩
            obtain ⟨y1, hy1⟩ : ∃ x, x = dj[jp]! := ⟨_, rfl⟩
            have S3 : Aside (SW enc w0 blk off (swp dj (jp + 1) (jp)) ((w2.setCell ⟨blk, off + i1N, none⟩ (enc y1)).setCell ⟨blk, off + jp, none⟩ (enc x1)).drew) := by rw [hi1N, hx1, hy1]; exact S2.out.swapped R (jp + 1) (jp) (by omega) (by omega)
            have ca1 := S2.out.c1 R (by omega) (jp + 1) (by omega)
            have cb1 := S2.out.c1 R (by omega) (jp) (by omega)
            have fa1 := S2.out.f1 R (by omega) (jp + 1) (by omega)
            have fb1 := S2.out.f1 R (by omega) (jp) (by omega)
            obtain ⟨u1, cc1⟩ := S2.out.c2 R (by omega) (jp + 1) (jp) (by omega) (by omega) (enc y1)
            rw [← hx1] at ca1
            rw [← hy1] at cb1
            rw [← hi1N] at cc1 ca1 fa1
            clear S2 hx1 hy1 hi1N
            go_wp2_with fail
            go_big_region_o
            clear ca1 cb1 cc1 fa1 fb1
            generalize ((w2.setCell ⟨blk, off + i1N, none⟩ (enc y1)).setCell ⟨blk, off + jp, none⟩ (enc x1)).drew = w3 at S3 ⊢
            clear ei1
            go_wp2
            go_roundg jp
            case measure => omega
            case rel => exact ⟨jp, swp dj (jp + 1) jp, by first | rfl | go_num | (congr 1; omega), by omega, by omega, Nat.le_refl _, by rw [size_swp]; exact hsj, S3, HI2⟩
          | false =>
            have hlv := Lib.hid hl0
            have OUT2 := OUT.out (Or.inr hl0)
            clear hl0 OUT HI
            obtain ⟨i0N, hi0N⟩ : ∃ q, q = jp + 1 := ⟨_, rfl⟩
            have ei0 : ((jp : Int) + 1).toNat = i0N := by omega
            have pi0 : (0 : Int) ≤ (jp : Int) + 1 := by omega
            have bi0 : (jp : Int) + 1 < (L : Int) := by omega
            have ri0 : IntKind.i64.wrap ((jp : Int) + 1) = (jp : Int) + 1 := by rw [IntKind.wrap_i64]; omega
            have pj0 : (0 : Int) ≤ (jp : Int) := by omega
            have bj0 : (jp : Int) < (L : Int) := by omega
            have rj0 : IntKind.i64.wrap (jp : Int) = (jp : Int) := by rw [IntKind.wrap_i64]; omega
            obtain ⟨x0, hx0⟩ : ∃ x, x = dj[jp + 1]! := ⟨_, rfl⟩
            obtain ⟨y0, hy0⟩ : ∃ x, x = dj[jp]! := ⟨_, rfl⟩
            have la0 := SJ.out.cl R (by omega) (jp + 1) (by omega)
            have lb0 := SJ.out.cl R (by omega) (jp) (by omega)
            rw [← hx0] at la0
            rw [← hy0] at lb0
            rw [← hi0N] at la0
            have hc0 := SJ.out.cmp HC.out (by omega) x0 y0
            have hv0 : ¬ cf x0 y0 < 0 := by rw [hx0, hy0]; exact of_decide_eq_false hlv.out
            have hd0 : decide (cf x0 y0 < 0) = false := decide_eq_false hv0
            clear hx0 hy0 hi0N
            go_wp2_with fail
            go_quiet_grown (first | (go_at_fn g; refine Calls.grown_of (hc0 _ _)))
            have S2 : Aside (SW enc w0 blk off dj (grow (wr.drewN nq) osq)) := SJ.out.grown nq osq
            clear la0 lb0 hc0 SJ
            generalize grow (wr.drewN nq) osq = w2 at S2 ⊢
            clear nq osq
            clear hv0
            clear ei0
            go_wp2
            go_roundg f
            case measure => omega
            case rel => exact ⟨i + 1, dj, by go_num, by omega, by omega, by omega, hsj, S2, OUT2⟩
        · have hjaz : decide ((j : Int) > (a : Int)) = false := decide_eq_false (by omega)
          have hjaz' : ¬ (a : Int) < (j : Int) := by omega
          have OUT2 := OUT.out (Or.inl (by omega))
          clear OUT HI
          go_wp2_with fail
          go_big_region_o
          have S2 : Aside (SW enc w0 blk off dj wr.drew) := SJ.out.drew
          clear SJ
          generalize wr.drew = w2 at S2 ⊢
          go_wp2
          go_roundg f
          case measure => omega
          case rel => exact ⟨i + 1, dj, by go_num, by omega, by omega, by omega, hsj, S2, OUT2⟩
    · have hltz : ¬ (i : Int) < (b : Int) := by omega
      go_wp2
      go_end0
      exact ⟨rfl, by rw [← HO.out, insO_stop _ _ _ _ _ _ hlt]; exact S1.out⟩
end Go.Proofs.Ytjbjmoghloabpaa
set_option linter.unusedVariables false
set_option linter.unusedSimpArgs false
namespace Go.Proofs.Ytjbjmoghloabpaa
open Go.RowKit Go.Proofs
attribute [local irreducible] Ord.walk
open Go.Sort Go.Shelf Go.Lib
theorem b_ones64 (x : Nat) (hx : x < 256) (w : World) :
    Calls Try.prog 103 #[.int .u64 x] w (Same (.int .i64 (Stab.pop x : Nat)) w) := by
  have h0 : (0 : Int) ≤ (x : Int) := by omega
  have h1 : (x : Int) ≤ 255 := by omega
  go_enter Try.func103, Try.ntmps103
  go_wp2
  go_ret
  refine ⟨ret_int ?_, rfl⟩
  clear h0 h1
  revert hx
  revert x
  decide +kernel
theorem b_ones (x : Nat) (hx : x < 256) (w : World) :
    Calls Try.prog 86 #[.int .u64 x] w (Same (.int .i64 (Stab.pop x : Nat)) w) := by
  have H := Lib.hid (fun W => b_ones64 x hx W)
  generalize Stab.pop x = p at *
  go_enter Try.func86, Try.ntmps86
  go_wp2_with (go_at_call 103; refine (H.out _).mono ?_; rintro e w' ⟨rfl, rfl⟩)
  go_ret
  exact ⟨rfl, rfl⟩
theorem pop_le (x : Nat) : Stab.pop x ≤ 8 := by unfold Stab.pop; omega
theorem b_cmp (x y : Nat) (hx : x < 256) (hy : y < 256) (w : World) :
    Calls Try.prog 85 #[.int .u64 x, .int .u64 y] w (Same (.int .i64 ((Stab.pop x : Int) - (Stab.pop y : Int))) w) := by
  have H : Hid (∀ z W, z < 256 → Calls Try.prog 86 #[.int .u64 (z : Nat)] W (Same (.int .i64 (Stab.pop z : Nat)) W)) := fun z W hz => b_ones z hz W
  have p1 := pop_le x
  have p2 := pop_le y
  go_enter Try.func85, Try.ntmps85
  go_wp2_with (go_at_call 86; refine (H.out _ _ (by assumption)).mono ?_; rintro e w' ⟨rfl, rfl⟩)
  go_ret
  exact ⟨rfl, rfl⟩

def enc8 (x : Fin 256) : Value := .int .u64 (x.val : Nat)
def cf8 (x y : Fin 256) : Int := (Stab.pop x.val : Int) - (Stab.pop y.val : Int)
theorem cmp8 (blk off size : Nat) (w : World) : CmpLays1 Try.prog 85 #[] enc8 cf8 blk off size w := by
  intro m os dk _ x y
  refine (b_cmp x.val y.val x.isLt y.isLt _).mono ?_
  rintro e w' ⟨rfl, rfl⟩
  exact ⟨rfl, 0, #[], by rw [grow_empty]; rfl⟩
theorem lt8 (x y : Fin 256) : ltOf cf8 x y = Stab.ltp x.val y.val := by
  unfold ltOf cf8 Stab.ltp
  rw [Bool.eq_iff_iff, decide_eq_true_iff, Nat.blt_eq]
  omega
namespace Stab
def to8 (l : List Nat) : List (Fin 256) := l.map (Fin.ofNat 256)
theorem coded_inj (l m : List (Fin 256)) (hl : l.length = m.length) (h : coded l = coded m) : l = m := by
  apply List.ext_getElem hl
  intro i h1 h2
  have a := coded_get l i
  have b := coded_get m i
  rw [h] at a
  rw [List.getElem?_eq_getElem h1, Option.getD_some] at a
  rw [List.getElem?_eq_getElem h2, Option.getD_some] at b
  exact Fin.ext (a.symm.trans b)
set_option maxRecDepth 100000 in
theorem bySize_all : ∀ k, k ≤ 8 → Stab.stable (natO (2 ^ k)) ltp (2 ^ k) (coded (to8 (List.range (2 ^ k)))) = coded (to8 (bySize k)) ∧ (bySize k).length = 2 ^ k ∧ (bySize k).all (fun x => Nat.blt x (2 ^ k)) = true := by
  intro k hk
  rcases (show k = 0 ∨ k = 1 ∨ k = 2 ∨ k = 3 ∨ k = 4 ∨ k = 5 ∨ k = 6 ∨ k = 7 ∨ k = 8 by omega) with rfl | rfl | rfl | rfl | rfl | rfl | rfl | rfl | rfl <;> decide +kernel
theorem stable_all (k : Nat) (hk : k ≤ 8) : Stab.stable (arrO (Fin 256)) (ltOf cf8) (2 ^ k) (to8 (List.range (2 ^ k))).toArray = (to8 (bySize k)).toArray := by
  obtain ⟨h1, h2, _⟩ := bySize_all k hk
  have hs := (sim_nat (2 ^ k) (ltOf cf8) ltp lt8).stable (2 ^ k) (s := (to8 (List.range (2 ^ k))).toArray) (t := coded (to8 (List.range (2 ^ k)))) ⟨by simp [to8], rfl⟩
  obtain ⟨h3, h4⟩ := hs
  rw [h1] at h4
  have := coded_inj _ _ (by rw [Array.length_toList, h3]; simp [to8, h2]) h4
  apply Array.toList_inj.1
  exact this
end Stab
end Go.Proofs.Ytjbjmoghloabpaa
set_option linter.unusedVariables false
set_option linter.unusedSimpArgs false
namespace Go.Proofs.Ytjbjmoghloabpaa
open Go.RowKit Go.Proofs

/-- Is a number quiet, by all truths? -/
def quietB (l : List Nat) (V n : Nat) : Bool := decide (0 < (withL l n).length) && ((whiteM (withL l n) V == whiteM l V) && (blackM (withL l n) V == blackM l V))
def quietM (l : List Nat) (V k : Nat) : Nat := maskTo (quietB l V) k
theorem maskTo_succ (f : Nat → Bool) (k : Nat) : maskTo f (k + 1) = maskTo f k + if f k then 2 ^ k else 0 := rfl

end Go.Proofs.Ytjbjmoghloabpaa
set_option linter.unusedVariables false
set_option linter.unusedSimpArgs false
namespace Go.Proofs.Ytjbjmoghloabpaa
open Go.RowKit Go.Proofs

/-- The least of the smallest sets that clash, of those below a number. -/
def bestTo (f : Nat → Bool) (all : Nat) : Nat → Nat
  | 0 => all
  | k + 1 => if sz k < sz (bestTo f all k) ∧ f k = true then k else bestTo f all k
def clashB (b : Bn) : Nat := bestTo (fun s => (truthsL b s).isEmpty) (2 ^ b.kn - 1) (2 ^ b.kn)
end Go.Proofs.Ytjbjmoghloabpaa
set_option linter.unusedVariables false
set_option linter.unusedSimpArgs false
namespace Go.Proofs.Ytjbjmoghloabpaa
open Go.RowKit Go.Proofs
attribute [local irreducible] Ord.walk
theorem sz_pop : ∀ x, x < 256 → sz x = Stab.pop x := by decide +kernel
set_option maxRecDepth 100000 in
theorem pop_pow : ∀ k, k ≤ 8 → (List.range (2 ^ k)).all (fun x => Nat.ble (Stab.pop x) k && (Nat.beq x (2 ^ k - 1) || Nat.blt (Stab.pop x) k)) = true := by
  intro k hk
  rcases (show k = 0 ∨ k = 1 ∨ k = 2 ∨ k = 3 ∨ k = 4 ∨ k = 5 ∨ k = 6 ∨ k = 7 ∨ k = 8 by omega) with rfl | rfl | rfl | rfl | rfl | rfl | rfl | rfl | rfl <;> decide +kernel
theorem pop_le_k {k x : Nat} (hk : k ≤ 8) (hx : x < 2 ^ k) : Stab.pop x ≤ k := by
  have := List.all_eq_true.1 (pop_pow k hk) x (List.mem_range.2 hx)
  rw [Bool.and_eq_true, Nat.ble_eq] at this
  exact this.1
theorem pop_lt_k {k x : Nat} (hk : k ≤ 8) (hx : x < 2 ^ k) (hne : x ≠ 2 ^ k - 1) : Stab.pop x < k := by
  have := List.all_eq_true.1 (pop_pow k hk) x (List.mem_range.2 hx)
  simp only [Bool.and_eq_true, Bool.or_eq_true, Nat.ble_eq, Nat.beq_eq, Nat.blt_eq] at this
  rcases this.2 with h | h
  · exact absurd h hne
  · exact h
theorem mem_bySize {k x : Nat} (hk : k ≤ 8) : x ∈ Stab.bySize k ↔ x < 2 ^ k := by
  unfold Stab.bySize
  simp only [List.mem_flatMap, List.mem_filter, List.mem_range, beq_iff_eq]
  constructor
  · rintro ⟨s, _, h, _⟩; exact h
  · intro h; exact ⟨Stab.pop x, by have := pop_le_k hk h; omega, h, rfl⟩
theorem bySize_pair (k : Nat) : (Stab.bySize k).Pairwise fun x y => Stab.pop x < Stab.pop y ∨ (Stab.pop x = Stab.pop y ∧ x < y) := by
  unfold Stab.bySize
  rw [List.pairwise_flatMap]
  refine ⟨fun s _ => ?_, ?_⟩
  · refine List.Pairwise.imp_of_mem ?_ (List.Pairwise.filter _ List.pairwise_lt_range)
    intro x y hx hy h
    have h1 := (List.mem_filter.1 hx).2
    have h2 := (List.mem_filter.1 hy).2
    simp only [beq_iff_eq] at h1 h2
    right; omega
  · refine List.Pairwise.imp ?_ List.pairwise_lt_range
    intro s t hst x hx y hy
    have h1 := (List.mem_filter.1 hx).2
    have h2 := (List.mem_filter.1 hy).2
    simp only [beq_iff_eq] at h1 h2
    left; omega
/-- The first of a row that is sorted is the least. -/
theorem find_least {l : List Nat} {R : Nat → Nat → Prop} (hl : l.Pairwise R) {p : Nat → Bool} {y : Nat} (hy : y ∈ l) (hp : p y = true) (hm : ∀ x, R x y → p x = false) : l.find? p = some y := by
  induction l with
  | nil => simp at hy
  | cons a l ih =>
    rw [List.pairwise_cons] at hl
    rcases List.mem_cons.1 hy with rfl | hy
    · simp [hp]
    · rw [List.find?_cons, hm a (hl.1 y hy)]
      exact ih hl.2 hy
theorem bestTo_prop (f : Nat → Bool) (K : Nat) (hK : K ≤ 8) (hf : f (2 ^ K - 1) = true) : ∀ k, k ≤ 2 ^ K →
    f (bestTo f (2 ^ K - 1) k) = true ∧ bestTo f (2 ^ K - 1) k < 2 ^ K ∧ ∀ x, x < k → f x = true → sz (bestTo f (2 ^ K - 1) k) < sz x ∨ (sz (bestTo f (2 ^ K - 1) k) = sz x ∧ bestTo f (2 ^ K - 1) k ≤ x) := by
  have hp8 : 2 ^ K ≤ 2 ^ 8 := Nat.pow_le_pow_right (by omega) hK
  have e8 : (2 : Nat) ^ 8 = 256 := rfl
  have hp0 : 0 < 2 ^ K := Nat.two_pow_pos K
  intro k
  induction k with
  | zero => intro _; exact ⟨hf, by show 2 ^ K - 1 < 2 ^ K; omega, fun x hx => absurd hx (by omega)⟩
  | succ k ih =>
    intro hk
    obtain ⟨h1, h2, h3⟩ := ih (by omega)
    rw [bestTo]
    by_cases hc : sz k < sz (bestTo f (2 ^ K - 1) k) ∧ f k = true
    · rw [if_pos hc]
      refine ⟨hc.2, by omega, fun x hx hfx => ?_⟩
      rcases Nat.lt_or_ge x k with h | h
      · rcases h3 x h hfx with h | ⟨h, _⟩ <;> left <;> omega
      · right
        have : x = k := by omega
        subst this; exact ⟨rfl, Nat.le_refl _⟩
    · rw [if_neg hc]
      refine ⟨h1, h2, fun x hx hfx => ?_⟩
      rcases Nat.lt_or_ge x k with h | h
      · exact h3 x h hfx
      · have : x = k := by omega
        subst this
        have hn : ¬ sz x < sz (bestTo f (2 ^ K - 1) x) := fun h => hc ⟨h, hfx⟩
        rcases Nat.lt_or_ge (sz (bestTo f (2 ^ K - 1) x)) (sz x) with h | h
        · exact .inl h
        · have he : sz (bestTo f (2 ^ K - 1) x) = sz x := by omega
          -- the best so far is either below x, or all there are
          right
          refine ⟨he, ?_⟩
          rcases Nat.lt_or_ge x (bestTo f (2 ^ K - 1) x) with h' | h'
          · exfalso
            -- then it is all there are
            have hall : ∀ j, j ≤ x → bestTo f (2 ^ K - 1) j = 2 ^ K - 1 ∨ bestTo f (2 ^ K - 1) j < j := by
              intro j
              induction j with
              | zero => intro _; left; rfl
              | succ j ihj =>
                intro hj
                rw [bestTo]
                split
                · right; omega
                · rcases ihj (by omega) with h | h
                  · left; exact h
                  · right; omega
            rcases hall x (Nat.le_refl _) with h4 | h4
            · rw [h4] at he h'
              have := pop_lt_k hK (show x < 2 ^ K by omega) (by omega)
              have h5 := pop_le_k hK (show 2 ^ K - 1 < 2 ^ K by omega)
              rw [sz_pop _ (by omega), sz_pop _ (by omega)] at he
              have h6 : Stab.pop (2 ^ K - 1) = K := by
                clear h1 h2 h3 hc hn he h' h4 this h5 ih hk hfx hx h hall
                rcases (show K = 0 ∨ K = 1 ∨ K = 2 ∨ K = 3 ∨ K = 4 ∨ K = 5 ∨ K = 6 ∨ K = 7 ∨ K = 8 by omega) with rfl | rfl | rfl | rfl | rfl | rfl | rfl | rfl | rfl <;> decide
              omega
            · omega
          · exact h'
theorem clash_find (f : Nat → Bool) (K : Nat) (hK : K ≤ 8) (hf : f (2 ^ K - 1) = true) : (Stab.bySize K).find? f = some (bestTo f (2 ^ K - 1) (2 ^ K)) := by
  have hp8 : 2 ^ K ≤ 2 ^ 8 := Nat.pow_le_pow_right (by omega) hK
  have e8 : (2 : Nat) ^ 8 = 256 := rfl
  obtain ⟨h1, h2, h3⟩ := bestTo_prop f K hK hf (2 ^ K) (Nat.le_refl _)
  refine find_least (R := fun x y => x < 2 ^ K ∧ (Stab.pop x < Stab.pop y ∨ (Stab.pop x = Stab.pop y ∧ x < y))) ?_ ((mem_bySize hK).2 h2) h1 ?_
  · exact List.Pairwise.imp_of_mem (fun hx _ h => ⟨(mem_bySize hK).1 hx, h⟩) (bySize_pair K)
  · rintro x ⟨hx, h⟩
    cases hfx : f x
    · rfl
    · exfalso
      have := h3 x hx hfx
      rw [sz_pop _ (by omega), sz_pop _ (by omega)] at this
      omega
end Go.Proofs.Ytjbjmoghloabpaa
set_option linter.unusedVariables false
set_option linter.unusedSimpArgs false
namespace Go.Proofs.Ytjbjmoghloabpaa
open Go.RowKit Go.Proofs
open Go.Shelf Go.RowKit Go.Lib Go.Sort
variable {α : Type} [Inhabited α]

set_option maxHeartbeats 4000000 in
set_option maxRecDepth 100000 in
theorem swapRange_w (enc : α → Value) (cf : α → α → Int) (g : Nat) (cb : Array Value) (blk off cap L : Nat) (d0 d : Array α) (w0 w : World)
    (eg : ∀ args w, (callFunc g args).run Try.prog w = .ok (.enter g args) w) (hcmp : CmpLays1 Try.prog g cb enc cf blk off d0.size w0) (R : Row1 enc w0 blk off d0) (h0 : d0.size = L) (hs : d.size = L) (hL : L ≤ 256) (S : SW enc w0 blk off d w) (a b n : Nat) (ha : a + n ≤ L) (hb : b + n ≤ L) :
    Calls Try.prog 112 #[.slice (some ⟨blk, off, none⟩) L cap, .int .i64 a, .int .i64 b, .int .i64 n, .func (.func g) #[] cb] w fun e w' => e = .returned (.tuple #[]) ∧ SW enc w0 blk off (Stab.swr (Stab.arrO α) a b d n) w' := by
  have mixed : Try.prog.follows Departure.mixedOrders = true := by kernel_rfl
  have hcl0 := R.hO.cells
  simp only [Value.cells] at hcl0
  have hst := R.hO.store Try.prog
  have HC : Aside _ := hcmp
  have S0 : Aside (SW enc w0 blk off d w) := S
  clear S
  clear hcmp
  go_enter Try.func112, Try.ntmps112
  go_wp2
  go_loopg [10] n (fun g1 vi wr => ∃ (i : Nat), vi = .int .i64 i ∧ i ≤ n ∧ n - i ≤ g1 ∧ Aside (SW enc w0 blk off (Stab.swr (Stab.arrO α) a b d i) wr))
  case atStart => exact ⟨0, by go_num, by omega, by omega, S0⟩
  case round =>
    clear S0
    obtain ⟨i, rfl, hi, hg1, S1⟩ := hrel
    by_cases hlt : i < n
    · have hltz : (i : Int) < (n : Int) := by omega
      have hsk : (Stab.swr (Stab.arrO α) a b d i).size = L := by rw [Stab.swr_size]; exact hs
      have HST : Hid (Stab.swr (Stab.arrO α) a b d (i + 1) = swp (Stab.swr (Stab.arrO α) a b d i) (a + i) (b + i)) := rfl
      generalize Stab.swr (Stab.arrO α) a b d i = dk at S1 hsk HST
      go_wp2_with fail
      obtain ⟨i1N, hi1N⟩ : ∃ q, q = a + i := ⟨_, rfl⟩
      have ei1 : ((a : Int) + (i : Int)).toNat = i1N := by omega
      have pi1 : (0 : Int) ≤ (a : Int) + (i : Int) := by omega
      have bi1 : (a : Int) + (i : Int) < (L : Int) := by omega
      have ri1 : IntKind.i64.wrap ((a : Int) + (i : Int)) = (a : Int) + (i : Int) := by rw [IntKind.wrap_i64]; omega
      obtain ⟨j1N, hj1N⟩ : ∃ q, q = b + i := ⟨_, rfl⟩
      have ej1 : ((b : Int) + (i : Int)).toNat = j1N := by omega
      have pj1 : (0 : Int) ≤ (b : Int) + (i : Int) := by omega
      have bj1 : (b : Int) + (i : Int) < (L : Int) := by omega
      have rj1 : IntKind.i64.wrap ((b : Int) + (i : Int)) = (b : Int) + (i : Int) := by rw [IntKind.wrap_i64]; omega
      obtain ⟨x1, hx1⟩ : ∃ x, x = dk[a + i]! := ⟨_, rfl⟩
      obtain ⟨y1, hy1⟩ : ∃ x, x = dk[b + i]! := ⟨_, rfl⟩
      have S3 : Aside (SW enc w0 blk off (swp dk (a + i) (b + i)) ((wr.setCell ⟨blk, off + i1N, none⟩ (enc y1)).setCell ⟨blk, off + j1N, none⟩ (enc x1)).drew) := by rw [hi1N, hj1N, hx1, hy1]; exact S1.out.swapped R (a + i) (b + i) (by omega) (by omega)
      have ca1 := S1.out.c1 R (by omega) (a + i) (by omega)
      have cb1 := S1.out.c1 R (by omega) (b + i) (by omega)
      have fa1 := S1.out.f1 R (by omega) (a + i) (by omega)
      have fb1 := S1.out.f1 R (by omega) (b + i) (by omega)
      obtain ⟨u1, cc1⟩ := S1.out.c2 R (by omega) (a + i) (b + i) (by omega) (by omega) (enc y1)
      rw [← hx1] at ca1
      rw [← hy1] at cb1
      rw [← hi1N] at cc1 ca1 fa1
      rw [← hj1N] at cc1 cb1 fb1
      clear S1 hx1 hy1 hi1N hj1N
      go_wp2_with fail
      go_big_region_o
      clear ca1 cb1 cc1 fa1 fb1
      generalize ((wr.setCell ⟨blk, off + i1N, none⟩ (enc y1)).setCell ⟨blk, off + j1N, none⟩ (enc x1)).drew = w3 at S3 ⊢
      clear ei1 ej1
      go_wp2
      go_roundg (n - (i + 1))
      case measure => omega
      case rel => exact ⟨i + 1, by go_num, by omega, Nat.le_refl _, by rw [HST.out]; exact S3⟩
    · have hltz : ¬ (i : Int) < (n : Int) := by omega
      obtain rfl : i = n := by omega
      go_wp2
      go_end0
      exact ⟨rfl, S1.out⟩

set_option maxHeartbeats 4000000 in
set_option maxRecDepth 100000 in
theorem rotate_w (enc : α → Value) (cf : α → α → Int) (g : Nat) (cb : Array Value) (blk off cap L : Nat) (d0 d : Array α) (w0 w : World)
    (eg : ∀ args w, (callFunc g args).run Try.prog w = .ok (.enter g args) w) (hcmp : CmpLays1 Try.prog g cb enc cf blk off d0.size w0) (R : Row1 enc w0 blk off d0) (h0 : d0.size = L) (hs : d.size = L) (hL : L ≤ 256) (S : SW enc w0 blk off d w) (a m b : Nat) (ham : a < m) (hmb : m < b) (hb : b ≤ L) :
    Calls Try.prog 111 #[.slice (some ⟨blk, off, none⟩) L cap, .int .i64 a, .int .i64 m, .int .i64 b, .func (.func g) #[] cb] w fun e w' => e = .returned (.tuple #[]) ∧ SW enc w0 blk off (Stab.rotate (Stab.arrO α) a m b d) w' := by
  have mixed : Try.prog.follows Departure.mixedOrders = true := by kernel_rfl
  have hcl0 := R.hO.cells
  simp only [Value.cells] at hcl0
  have hst := R.hO.store Try.prog
  have HC : Aside _ := hcmp
  have S0 : Aside (SW enc w0 blk off d w) := S
  clear S
  clear hcmp
  have SWP := Lib.hid (fun (dk : Array α) (hk : dk.size = L) W (S : SW enc w0 blk off dk W) (xi yi ni : Int) (x y n : Nat) (hxi : xi = x) (hyi : yi = y) (hni : ni = n) (hx : x + n ≤ L) (hy : y + n ≤ L) => (by subst hxi; subst hyi; subst hni; exact swapRange_w enc cf g cb blk off cap L d0 dk w0 W eg HC.out R h0 hk hL S x y n hx hy : Calls Try.prog 112 #[.slice (some ⟨blk, off, none⟩) L cap, .int .i64 xi, .int .i64 yi, .int .i64 ni, .func (.func g) #[] cb] W fun e w' => e = .returned (.tuple #[]) ∧ SW enc w0 blk off (Stab.swr (Stab.arrO α) x y dk n) w'))
  go_enter Try.func111, Try.ntmps111
  go_wp2
  go_loopg [10, 11] (b - a) (fun g1 vi vj wr => ∃ (i j : Nat) (dk : Array α), vi = .int .i64 i ∧ vj = .int .i64 j ∧ 1 ≤ i ∧ 1 ≤ j ∧ i ≤ m ∧ m + j ≤ L ∧ i + j ≤ g1 ∧ dk.size = L ∧ Aside (SW enc w0 blk off dk wr) ∧ Hid (Stab.rot (Stab.arrO α) m g1 i j dk = Stab.rotate (Stab.arrO α) a m b d))
  case atStart => exact ⟨m - a, b - m, d, by go_num, by go_num, by omega, by omega, by omega, by omega, by omega, hs, S0, rfl⟩
  case round =>
    clear S0
    obtain ⟨i, j, dk, rfl, rfl, hi, hj, him, hjm, hg1, hsk, S1, HR⟩ := hrel
    obtain ⟨f, rfl⟩ : ∃ f, gk = f + 1 := ⟨gk - 1, by omega⟩
    by_cases hij : i = j
    · subst hij
      have HR2 : Hid (Stab.swr (Stab.arrO α) (m - i) m dk i = Stab.rotate (Stab.arrO α) a m b d) := by
        show _ = _; have := HR.out; rwa [Stab.rot, if_pos rfl] at this
      have SW1 := Lib.hid (SWP.out dk hsk)
      clear HR SWP
      go_wp2_with (first
        | (go_at_call 112; refine (SW1.out _ S1.out _ _ _ (m - i) m i (by omega) (by omega) (by omega) (by omega) (by omega)).mono ?_; rintro e w2 ⟨rfl, S2⟩))
      go_end0
      exact ⟨rfl, by rw [← HR2.out]; exact S2⟩
    · have hij1 : ((i : Int) == (j : Int)) = false := by simp; omega
      have hij2 : ((i : Int) != (j : Int)) = true := by simp; omega
      by_cases hlt : j < i
      · have hltz : (j : Int) < (i : Int) := by omega
        have HR2 : Hid (Stab.rot (Stab.arrO α) m f (i - j) j (Stab.swr (Stab.arrO α) (m - i) m dk j) = Stab.rotate (Stab.arrO α) a m b d) := by
          show _ = _; have := HR.out; rwa [Stab.rot, if_neg hij, if_pos hlt] at this
        have hs2 := Stab.swr_size (m - i) m dk j
        have SW1 := Lib.hid (SWP.out dk hsk)
        clear HR SWP hij
        go_wp2_with (first
          | (go_at_call 112; refine (SW1.out _ S1.out _ _ _ (m - i) m j (by omega) (by omega) (by omega) (by omega) (by omega)).mono ?_; rintro e w2 ⟨rfl, S2⟩))
        have S3 : Aside _ := S2
        go_roundg f
        case measure => omega
        case rel => exact ⟨i - j, j, _, by go_num, by go_num, by omega, by omega, by omega, by omega, by omega, by rw [hs2]; exact hsk, S3, HR2⟩
      · have hltz : ¬ (j : Int) < (i : Int) := by omega
        have hlt2 : i < j := by omega
        have HR2 : Hid (Stab.rot (Stab.arrO α) m f i (j - i) (Stab.swr (Stab.arrO α) (m - i) (m + j - i) dk i) = Stab.rotate (Stab.arrO α) a m b d) := by
          show _ = _; have := HR.out; rwa [Stab.rot, if_neg hij, if_neg hlt] at this
        have hs2 := Stab.swr_size (m - i) (m + j - i) dk i
        have SW1 := Lib.hid (SWP.out dk hsk)
        clear HR SWP hij
        go_wp2_with (first
          | (go_at_call 112; refine (SW1.out _ S1.out _ _ _ (m - i) (m + j - i) i (by omega) (by omega) (by omega) (by omega) (by omega)).mono ?_; rintro e w2 ⟨rfl, S2⟩))
        have S3 : Aside _ := S2
        go_roundg f
        case measure => omega
        case rel => exact ⟨i, j - i, _, by go_num, by go_num, by omega, by omega, by omega, by omega, by omega, by rw [hs2]; exact hsk, S3, HR2⟩
end Go.Proofs.Ytjbjmoghloabpaa
