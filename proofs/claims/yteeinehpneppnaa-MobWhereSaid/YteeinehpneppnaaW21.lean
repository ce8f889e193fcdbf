/- Parts of a proof: StabB, StabC. -/
import Derived.Test.YteeinehpneppnaaW20
import Derived.Test.YteeinehpneppnaaW02
import Derived.Lib.Hide
/- slices' stable sort: exchange of ranges, rotation. (Printed by mkStab.py) -/
set_option linter.unusedVariables false
set_option linter.unusedSimpArgs false
namespace Go.Proofs.Yteeinehpneppnaa
open Go.RowKit Go.Proofs
open Go.Shelf Go.RowKit Go.Lib Go.Sort
variable {α : Type} [Inhabited α]

set_option maxHeartbeats 4000000 in
set_option maxRecDepth 100000 in
theorem swapRange_w (enc : α → Value) (cf : α → α → Int) (g : Nat) (cb : Array Value) (blk off cap L : Nat) (d0 d : Array α) (w0 w : World)
    (eg : ∀ args w, (callFunc g args).run Try.prog w = .ok (.enter g args) w) (hcmp : CmpLays1 Try.prog g cb enc cf blk off d0.size w0) (R : Row1 enc w0 blk off d0) (h0 : d0.size = L) (hs : d.size = L) (hL : L ≤ 256) (S : SW enc w0 blk off d w) (a b n : Nat) (ha : a + n ≤ L) (hb : b + n ≤ L) :
    Calls Try.prog 115 #[.slice (some ⟨blk, off, none⟩) L cap, .int .i64 a, .int .i64 b, .int .i64 n, .func (.func g) #[] cb] w fun e w' => e = .returned (.tuple #[]) ∧ SW enc w0 blk off (Stab.swr (Stab.arrO α) a b d n) w' := by
  have mixed : Try.prog.follows Departure.mixedOrders = true := by kernel_rfl
  have hcl0 := R.hO.cells
  simp only [Value.cells] at hcl0
  have hst := R.hO.store Try.prog
  have HC : Aside _ := hcmp
  have S0 : Aside (SW enc w0 blk off d w) := S
  clear S
  clear hcmp
  go_enter Try.func115, Try.ntmps115
  go_wp2
  go_loopg [10] n (fun g1 vi wr => ∃ (i : Nat), vi = .int .i64 i ∧ i ≤ n ∧ n - i ≤ g1 ∧ Aside (SW enc w0 blk off (Stab.swr (Stab.arrO α) a b d i) wr))
  case atStart => exact ⟨0, by go_num, by omega, by omega, S0⟩
  case round =>
    clear S0
    obtain ⟨i, rfl, hi, hg1, S1⟩ := hrel
    by_cases hlt : i < n
    · have hltz : (i : Int) < (n : Int) := by omega
      have hsk : (Stab.swr (Stab.arrO α) a b d i).size = L := by rw [Stab.swr_size]; exact hs
      have HST : Hid (Stab.swr (Stab.arrO α) a b d (i + 1) = swp (Stab.swr (Stab.arrO α) a b d i) (a + i) (b + i)) := rfl
      generalize Stab.swr (Stab.arrO α) a b d i = dk at S1 hsk HST
      go_wp2_with fail
      obtain ⟨i1N, hi1N⟩ : ∃ q, q = a + i := ⟨_, rfl⟩
      have ei1 : ((a : Int) + (i : Int)).toNat = i1N := by omega
      have pi1 : (0 : Int) ≤ (a : Int) + (i : Int) := by omega
      have bi1 : (a : Int) + (i : Int) < (L : Int) := by omega
      have ri1 : IntKind.i64.wrap ((a : Int) + (i : Int)) = (a : Int) + (i : Int) := by rw [IntKind.wrap_i64]; omega
      obtain ⟨j1N, hj1N⟩ : ∃ q, q = b + i := ⟨_, rfl⟩
      have ej1 : ((b : Int) + (i : Int)).toNat = j1N := by omega
      have pj1 : (0 : Int) ≤ (b : Int) + (i : Int) := by omega
      have bj1 : (b : Int) + (i : Int) < (L : Int) := by omega
      have rj1 : IntKind.i64.wrap ((b : Int) + (i : Int)) = (b : Int) + (i : Int) := by rw [IntKind.wrap_i64]; omega
      obtain ⟨x1, hx1⟩ : ∃ x, x = dk[a + i]! := ⟨_, rfl⟩
      obtain ⟨y1, hy1⟩ : ∃ x, x = dk[b + i]! := ⟨_, rfl⟩
      have S3 : Aside (SW enc w0 blk off (swp dk (a + i) (b + i)) ((wr.setCell ⟨blk, off + i1N, none⟩ (enc y1)).setCell ⟨blk, off + j1N, none⟩ (enc x1)).drew) := by rw [hi1N, hj1N, hx1, hy1]; exact S1.out.swapped R (a + i) (b + i) (by omega) (by omega)
      have ca1 := S1.out.c1 R (by omega) (a + i) (by omega)
      have cb1 := S1.out.c1 R (by omega) (b + i) (by omega)
      have fa1 := S1.out.f1 R (by omega) (a + i) (by omega)
      have fb1 := S1.out.f1 R (by omega) (b + i) (by omega)
      obtain ⟨u1, cc1⟩ := S1.out.c2 R (by omega) (a + i) (b + i) (by omega) (by omega) (enc y1)
      rw [← hx1] at ca1
      rw [← hy1] at cb1
      rw [← hi1N] at cc1 ca1 fa1
      rw [← hj1N] at cc1 cb1 fb1
      clear S1 hx1 hy1 hi1N hj1N
      go_wp2_with fail
      go_big_region_o
      clear ca1 cb1 cc1 fa1 fb1
      generalize ((wr.setCell ⟨blk, off + i1N, none⟩ (enc y1)).setCell ⟨blk, off + j1N, none⟩ (enc x1)).drew = w3 at S3 ⊢
      clear ei1 ej1
      go_wp2
      go_roundg (n - (i + 1))
      case measure => omega
      case rel => exact ⟨i + 1, by go_num, by omega, Nat.le_refl _, by rw [HST.out]; exact S3⟩
    · have hltz : ¬ (i : Int) < (n : Int) := by omega
      obtain rfl : i = n := by omega
      go_wp2
      go_end0
      exact ⟨rfl, S1.out⟩

set_option maxHeartbeats 4000000 in
set_option maxRecDepth 100000 in
theorem rotate_w (enc : α → Value) (cf : α → α → Int) (g : Nat) (cb : Array Value) (blk off cap L : Nat) (d0 d : Array α) (w0 w : World)
    (eg : ∀ args w, (callFunc g args).run Try.prog w = .ok (.enter g args) w) (hcmp : CmpLays1 Try.prog g cb enc cf blk off d0.size w0) (R : Row1 enc w0 blk off d0) (h0 : d0.size = L) (hs : d.size = L) (hL : L ≤ 256) (S : SW enc w0 blk off d w) (a m b : Nat) (ham : a < m) (hmb : m < b) (hb : b ≤ L) :
    Calls Try.prog 114 #[.slice (some ⟨blk, off, none⟩) L cap, .int .i64 a, .int .i64 m, .int .i64 b, .func (.func g) #[] cb] w fun e w' => e = .returned (.tuple #[]) ∧ SW enc w0 blk off (Stab.rotate (Stab.arrO α) a m b d) w' := by
  have mixed : Try.prog.follows Departure.mixedOrders = true := by kernel_rfl
  have hcl0 := R.hO.cells
  simp only [Value.cells] at hcl0
  have hst := R.hO.store Try.prog
  have HC : Aside _ := hcmp
  have S0 : Aside (SW enc w0 blk off d w) := S
  clear S
  clear hcmp
  have SWP := Lib.hid (fun (dk : Array α) (hk : dk.size = L) W (S : SW enc w0 blk off dk W) (xi yi ni : Int) (x y n : Nat) (hxi : xi = x) (hyi : yi = y) (hni : ni = n) (hx : x + n ≤ L) (hy : y + n ≤ L) => (by subst hxi; subst hyi; subst hni; exact swapRange_w enc cf g cb blk off cap L d0 dk w0 W eg HC.out R h0 hk hL S x y n hx hy : Calls Try.prog 115 #[.slice (some ⟨blk, off, none⟩) L cap, .int .i64 xi, .int .i64 yi, .int .i64 ni, .func (.func g) #[] cb] W fun e w' => e = .returned (.tuple #[]) ∧ SW enc w0 blk off (Stab.swr (Stab.arrO α) x y dk n) w'))
  go_enter Try.func114, Try.ntmps114
  go_wp2
  go_loopg [10, 11] (b - a) (fun g1 vi vj wr => ∃ (i j : Nat) (dk : Array α), vi = .int .i64 i ∧ vj = .int .i64 j ∧ 1 ≤ i ∧ 1 ≤ j ∧ i ≤ m ∧ m + j ≤ L ∧ i + j ≤ g1 ∧ dk.size = L ∧ Aside (SW enc w0 blk off dk wr) ∧ Hid (Stab.rot (Stab.arrO α) m g1 i j dk = Stab.rotate (Stab.arrO α) a m b d))
  case atStart => exact ⟨m - a, b - m, d, by go_num, by go_num, by omega, by omega, by omega, by omega, by omega, hs, S0, rfl⟩
  case round =>
    clear S0
    obtain ⟨i, j, dk, rfl, rfl, hi, hj, him, hjm, hg1, hsk, S1, HR⟩ := hrel
    obtain ⟨f, rfl⟩ : ∃ f, gk = f + 1 := ⟨gk - 1, by omega⟩
    by_cases hij : i = j
    · subst hij
      have HR2 : Hid (Stab.swr (Stab.arrO α) (m - i) m dk i = Stab.rotate (Stab.arrO α) a m b d) := by
        show _ = _; have := HR.out; rwa [Stab.rot, if_pos rfl] at this
      have SW1 := Lib.hid (SWP.out dk hsk)
      clear HR SWP
      go_wp2_with (first
        | (go_at_call 115; refine (SW1.out _ S1.out _ _ _ (m - i) m i (by omega) (by omega) (by omega) (by omega) (by omega)).mono ?_; rintro e w2 ⟨rfl, S2⟩))
      go_end0
      exact ⟨rfl, by rw [← HR2.out]; exact S2⟩
    · have hij1 : ((i : Int) == (j : Int)) = false := by simp; omega
      have hij2 : ((i : Int) != (j : Int)) = true := by simp; omega
      by_cases hlt : j < i
      · have hltz : (j : Int) < (i : Int) := by omega
        have HR2 : Hid (Stab.rot (Stab.arrO α) m f (i - j) j (Stab.swr (Stab.arrO α) (m - i) m dk j) = Stab.rotate (Stab.arrO α) a m b d) := by
          show _ = _; have := HR.out; rwa [Stab.rot, if_neg hij, if_pos hlt] at this
        have hs2 := Stab.swr_size (m - i) m dk j
        have SW1 := Lib.hid (SWP.out dk hsk)
        clear HR SWP hij
        go_wp2_with (first
          | (go_at_call 115; refine (SW1.out _ S1.out _ _ _ (m - i) m j (by omega) (by omega) (by omega) (by omega) (by omega)).mono ?_; rintro e w2 ⟨rfl, S2⟩))
        have S3 : Aside _ := S2
        go_roundg f
        case measure => omega
        case rel => exact ⟨i - j, j, _, by go_num, by go_num, by omega, by omega, by omega, by omega, by omega, by rw [hs2]; exact hsk, S3, HR2⟩
      · have hltz : ¬ (j : Int) < (i : Int) := by omega
        have hlt2 : i < j := by omega
        have HR2 : Hid (Stab.rot (Stab.arrO α) m f i (j - i) (Stab.swr (Stab.arrO α) (m - i) (m + j - i) dk i) = Stab.rotate (Stab.arrO α) a m b d) := by
          show _ = _; have := HR.out; rwa [Stab.rot, if_neg hij, if_neg hlt] at this
        have hs2 := Stab.swr_size (m - i) (m + j - i) dk i
        have SW1 := Lib.hid (SWP.out dk hsk)
        clear HR SWP hij
        go_wp2_with (first
          | (go_at_call 115; refine (SW1.out _ S1.out _ _ _ (m - i) (m + j - i) i (by omega) (by omega) (by omega) (by omega) (by omega)).mono ?_; rintro e w2 ⟨rfl, S2⟩))
        have S3 : Aside _ := S2
        go_roundg f
        case measure => omega
        case rel => exact ⟨i, j - i, _, by go_num, by go_num, by omega, by omega, by omega, by omega, by omega, by rw [hs2]; exact hsk, S3, HR2⟩
end Go.Proofs.Yteeinehpneppnaa
/- slices' stable sort: merge in place. (Printed by mkStab.py) -/
set_option linter.unusedVariables false
set_option linter.unusedSimpArgs false
namespace Go.Proofs.Yteeinehpneppnaa
open Go.RowKit Go.Proofs
open Go.Shelf Go.RowKit Go.Lib Go.Sort
variable {α : Type} [Inhabited α]

def SymPost (enc : α → Value) (w0 : World) (blk off : Nat) (d : Array α) (e : Ending) (w' : World) : Prop := e = .returned (.tuple #[]) ∧ SW enc w0 blk off d w'
set_option maxHeartbeats 4000000 in
set_option maxRecDepth 100000 in
theorem sym_one (enc : α → Value) (cf : α → α → Int) (g : Nat) (cb : Array Value) (blk off cap L : Nat) (d0 d : Array α) (w0 w : World)
    (eg : ∀ args w, (callFunc g args).run Try.prog w = .ok (.enter g args) w) (hcmp : CmpLays1 Try.prog g cb enc cf blk off d0.size w0) (R : Row1 enc w0 blk off d0) (h0 : d0.size = L) (hs : d.size = L) (hL : L ≤ 256) (S : SW enc w0 blk off d w) (a m b : Nat) (ham : m = a + 1) (hmb : m < b) (hb : b ≤ L) :
    Calls Try.prog 112 #[.slice (some ⟨blk, off, none⟩) L cap, .int .i64 a, .int .i64 m, .int .i64 b, .func (.func g) #[] cb] w (SymPost enc w0 blk off (Stab.ups (Stab.arrO α) a d (Stab.sHi (Stab.arrO α) (ltOf cf) a m b d - 1 - a))) := by
  have mixed : Try.prog.follows Departure.mixedOrders = true := by kernel_rfl
  have hcl0 := R.hO.cells
  simp only [Value.cells] at hcl0
  have hst := R.hO.store Try.prog
  have HC : Aside _ := hcmp
  have S0 : Aside (SW enc w0 blk off d w) := S
  clear S
  clear hcmp
  obtain ⟨pp, hpp⟩ : ∃ pp : Nat → Bool, pp = fun h => ltOf cf d[h]! d[a]! := ⟨_, rfl⟩
  have HPP : Hid (∀ h, pp h = ltOf cf d[h]! d[a]!) := by intro h; rw [hpp]
  have hbd := Stab.bs_bd pp (b - m) m b (by omega)
  obtain ⟨res, hres⟩ : ∃ r, r = Stab.bs pp (b - m) m b := ⟨_, rfl⟩
  have HSH : Hid (Stab.sHi (Stab.arrO α) (ltOf cf) a m b d = res) := by show _ = _; rw [hres, hpp]; rfl
  have HRES : Hid (Stab.bs pp (b - m) m b = res) := hres.symm
  rw [← hres] at hbd
  clear hpp hres
  have h1 : ((m : Int) - (a : Int) == 1) = true := by simp; omega
  have ham1 : a + 1 ≤ m := by omega
  have ham2 : m ≤ a + 1 := by omega
  clear ham
  go_enter Try.func112, Try.ntmps112
  go_wp2
  go_loopg [10, 11] (b - m) (fun g1 vi vj wr => ∃ (i j : Nat), vi = .int .i64 i ∧ vj = .int .i64 j ∧ m ≤ i ∧ i ≤ j ∧ j ≤ b ∧ j - i ≤ g1 ∧ Aside (SW enc w0 blk off d wr) ∧ Hid (Stab.bs pp g1 i j = res))
  case atStart => exact ⟨m, b, by go_num, by go_num, by omega, by omega, by omega, by omega, S0, HRES⟩
  case round =>
    clear S0
    obtain ⟨i, j, rfl, rfl, hi1, hi2, hi3, hg1, S1, HB⟩ := hrel
    by_cases hlt : i < j
    · obtain ⟨f1, rfl⟩ : ∃ f1, gk = f1 + 1 := ⟨gk - 1, by omega⟩
      have hltz : (i : Int) < (j : Int) := by omega
      obtain ⟨h, hh⟩ : ∃ h, h = (i + j) / 2 := ⟨_, rfl⟩
      have hhz : ((i : Int) + (j : Int)) / 2 = (h : Int) := by omega
      have hhl : i ≤ h := by omega
      have hhr : h < j := by omega
      have HB2 : Hid ((if pp h = true then Stab.bs pp f1 (h + 1) j else Stab.bs pp f1 i h) = res) := by
        show _ = _; have := HB.out; rwa [Stab.bs, if_pos hlt, ← hh] at this
      clear HB hh
      cases hl0 : ltOf cf d[h]! d[a]! with
      | true =>
        have hlv := Lib.hid hl0
        have HP : pp h = true := by rw [HPP.out]; simp [hl0]
        have HB3 : Hid (Stab.bs pp f1 (h + 1) j = res) := by show _ = _; have := HB2.out; rwa [if_pos HP] at this
        clear hl0 HP HB2
        go_wp2_with fail
        have pi0 : (0 : Int) ≤ (h : Int) := by omega
        have bi0 : (h : Int) < (L : Int) := by omega
        have ri0 : IntKind.i64.wrap (h : Int) = (h : Int) := by rw [IntKind.wrap_i64]; omega
        have pj0 : (0 : Int) ≤ (a : Int) := by omega
        have bj0 : (a : Int) < (L : Int) := by omega
        have rj0 : IntKind.i64.wrap (a : Int) = (a : Int) := by rw [IntKind.wrap_i64]; omega
        obtain ⟨x0, hx0⟩ : ∃ x, x = d[h]! := ⟨_, rfl⟩
        obtain ⟨y0, hy0⟩ : ∃ x, x = d[a]! := ⟨_, rfl⟩
        have la0 := S1.out.cl R (by omega) (h) (by omega)
        have lb0 := S1.out.cl R (by omega) (a) (by omega)
        rw [← hx0] at la0
        rw [← hy0] at lb0
        have hc0 := S1.out.cmp HC.out (by omega) x0 y0
        have hv0 : cf x0 y0 < 0 := by rw [hx0, hy0]; exact of_decide_eq_true hlv.out
        have hd0 : decide (cf x0 y0 < 0) = true := decide_eq_true hv0
        clear hx0 hy0
        go_wp2_with fail
        go_quiet_grown (first | (go_at_fn g; refine Calls.grown_of (hc0 _ _)))
        have S2 : Aside (SW enc w0 blk off d (grow (wr.drewN nq) osq)) := S1.out.grown nq osq
        clear la0 lb0 hc0 S1
        generalize grow (wr.drewN nq) osq = w2 at S2 ⊢
        clear nq osq
        clear hv0
        go_wp2
        go_roundg f1
        case measure => omega
        case rel => exact ⟨h + 1, j, by go_num, by go_num, by omega, by omega, by omega, by omega, S2, HB3⟩
      | false =>
        have hlv := Lib.hid hl0
        have HP : pp h = false := by rw [HPP.out]; simp [hl0]
        have HB3 : Hid (Stab.bs pp f1 i h = res) := by show _ = _; have := HB2.out; rwa [if_neg (by rw [HP]; simp)] at this
        clear hl0 HP HB2
        go_wp2_with fail
        have pi0 : (0 : Int) ≤ (h : Int) := by omega
        have bi0 : (h : Int) < (L : Int) := by omega
        have ri0 : IntKind.i64.wrap (h : Int) = (h : Int) := by rw [IntKind.wrap_i64]; omega
        have pj0 : (0 : Int) ≤ (a : Int) := by omega
        have bj0 : (a : Int) < (L : Int) := by omega
        have rj0 : IntKind.i64.wrap (a : Int) = (a : Int) := by rw [IntKind.wrap_i64]; omega
        obtain ⟨x0, hx0⟩ : ∃ x, x = d[h]! := ⟨_, rfl⟩
        obtain ⟨y0, hy0⟩ : ∃ x, x = d[a]! := ⟨_, rfl⟩
        have la0 := S1.out.cl R (by omega) (h) (by omega)
        have lb0 := S1.out.cl R (by omega) (a) (by omega)
        rw [← hx0] at la0
        rw [← hy0] at lb0
        have hc0 := S1.out.cmp HC.out (by omega) x0 y0
        have hv0 : ¬ cf x0 y0 < 0 := by rw [hx0, hy0]; exact of_decide_eq_false hlv.out
        have hd0 : decide (cf x0 y0 < 0) = false := decide_eq_false hv0
        clear hx0 hy0
        go_wp2_with fail
        go_quiet_grown (first | (go_at_fn g; refine Calls.grown_of (hc0 _ _)))
        have S2 : Aside (SW enc w0 blk off d (grow (wr.drewN nq) osq)) := S1.out.grown nq osq
        clear la0 lb0 hc0 S1
        generalize grow (wr.drewN nq) osq = w2 at S2 ⊢
        clear nq osq
        clear hv0
        go_wp2
        go_roundg f1
        case measure => omega
        case rel => exact ⟨i, h, by go_num, by go_num, by omega, by omega, by omega, by omega, S2, HB3⟩
    · have hltz : ¬ (i : Int) < (j : Int) := by omega
      obtain rfl : j = i := by omega
      have hres : j = res := by
        have := HB.out
        cases gk with
        | zero => exact this
        | succ f1 => rwa [Stab.bs, if_neg (by omega)] at this
      subst hres
      clear HB hlt
      go_wp2_with fail
      have S3 : Aside _ := S1.out
      go_loopg [13] (j - 1 - a) (fun g2 vk wr2 => ∃ k : Nat, vk = .int .i64 k ∧ a ≤ k ∧ k ≤ j - 1 ∧ j - 1 - k ≤ g2 ∧ Aside (SW enc w0 blk off (Stab.ups (Stab.arrO α) a d (k - a)) wr2))
      case atStart => exact ⟨a, by go_num, by omega, by omega, by omega, by rw [Nat.sub_self]; exact S1⟩
      case round =>
        clear S1 S3
        obtain ⟨k, rfl, hk1, hk2, hg2, S1⟩ := hrel
        by_cases hlt : k < j - 1
        · have hltz : (k : Int) < (j : Int) - 1 := by omega
          have hsk : (Stab.ups (Stab.arrO α) a d (k - a)).size = L := by rw [Stab.ups_size]; exact hs
          have HST : Hid (Stab.ups (Stab.arrO α) a d (k + 1 - a) = swp (Stab.ups (Stab.arrO α) a d (k - a)) k (k + 1)) := by
            show _ = _; rw [show k + 1 - a = (k - a) + 1 by omega, Stab.ups]; show swp _ _ _ = _; rw [show a + (k - a) = k by omega]
          generalize Stab.ups (Stab.arrO α) a d (k - a) = dk at S1 hsk HST
          go_wp2_with fail
          have pi1 : (0 : Int) ≤ (k : Int) := by omega
          have bi1 : (k : Int) < (L : Int) := by omega
          have ri1 : IntKind.i64.wrap (k : Int) = (k : Int) := by rw [IntKind.wrap_i64]; omega
          obtain ⟨j1N, hj1N⟩ : ∃ q, q = k + 1 := ⟨_, rfl⟩
          have ej1 : ((k : Int) + 1).toNat = j1N := by omega
          have pj1 : (0 : Int) ≤ (k : Int) + 1 := by omega
          have bj1 : (k : Int) + 1 < (L : Int) := by omega
          have rj1 : IntKind.i64.wrap ((k : Int) + 1) = (k : Int) + 1 := by rw [IntKind.wrap_i64]; omega
          obtain ⟨x1, hx1⟩ : ∃ x, x = dk[k]! := ⟨_, rfl⟩
          obtain ⟨y1, hy1⟩ : ∃ x, x = dk[k + 1]! := ⟨_, rfl⟩
          have S3 : Aside (SW enc w0 blk off (swp dk (k) (k + 1)) ((wr.setCell ⟨blk, off + k, none⟩ (enc y1)).setCell ⟨blk, off + j1N, none⟩ (enc x1)).drew) := by rw [hj1N, hx1, hy1]; exact S1.out.swapped R (k) (k + 1) (by omega) (by omega)
          have ca1 := S1.out.c1 R (by omega) (k) (by omega)
          have cb1 := S1.out.c1 R (by omega) (k + 1) (by omega)
          have fa1 := S1.out.f1 R (by omega) (k) (by omega)
          have fb1 := S1.out.f1 R (by omega) (k + 1) (by omega)
          obtain ⟨u1, cc1⟩ := S1.out.c2 R (by omega) (k) (k + 1) (by omega) (by omega) (enc y1)
          rw [← hx1] at ca1
          rw [← hy1] at cb1
          rw [← hj1N] at cc1 cb1 fb1
          clear S1 hx1 hy1 hj1N
          go_wp2_with fail
          go_big_region_o
          clear ca1 cb1 cc1 fa1 fb1
          generalize ((wr.setCell ⟨blk, off + k, none⟩ (enc y1)).setCell ⟨blk, off + j1N, none⟩ (enc x1)).drew = w3 at S3 ⊢
          clear ej1
          go_wp2
          go_roundg (j - 1 - (k + 1))
          case measure => omega
          case rel => exact ⟨k + 1, by go_num, by omega, by omega, Nat.le_refl _, by rw [HST.out]; exact S3⟩
        · have hltz : ¬ (k : Int) < (j : Int) - 1 := by omega
          obtain rfl : k = j - 1 := by omega
          go_wp2
          go_end0
          exact ⟨rfl, by rw [HSH.out]; exact S1.out⟩

set_option maxHeartbeats 4000000 in
set_option maxRecDepth 100000 in
theorem sym_two (enc : α → Value) (cf : α → α → Int) (g : Nat) (cb : Array Value) (blk off cap L : Nat) (d0 d : Array α) (w0 w : World)
    (eg : ∀ args w, (callFunc g args).run Try.prog w = .ok (.enter g args) w) (hcmp : CmpLays1 Try.prog g cb enc cf blk off d0.size w0) (R : Row1 enc w0 blk off d0) (h0 : d0.size = L) (hs : d.size = L) (hL : L ≤ 256) (S : SW enc w0 blk off d w) (a m b : Nat) (ham : a + 1 < m) (hmb : b = m + 1) (hb : b ≤ L) :
    Calls Try.prog 112 #[.slice (some ⟨blk, off, none⟩) L cap, .int .i64 a, .int .i64 m, .int .i64 b, .func (.func g) #[] cb] w (SymPost enc w0 blk off (Stab.dns (Stab.arrO α) m d (m - Stab.sLo (Stab.arrO α) (ltOf cf) a m b d))) := by
  have mixed : Try.prog.follows Departure.mixedOrders = true := by kernel_rfl
  have hcl0 := R.hO.cells
  simp only [Value.cells] at hcl0
  have hst := R.hO.store Try.prog
  have HC : Aside _ := hcmp
  have S0 : Aside (SW enc w0 blk off d w) := S
  clear S
  clear hcmp
  obtain ⟨pp, hpp⟩ : ∃ pp : Nat → Bool, pp = fun h => !ltOf cf d[m]! d[h]! := ⟨_, rfl⟩
  have HPP : Hid (∀ h, pp h = !ltOf cf d[m]! d[h]!) := by intro h; rw [hpp]
  have hbd := Stab.bs_bd pp (m - a) a m (by omega)
  obtain ⟨res, hres⟩ : ∃ r, r = Stab.bs pp (m - a) a m := ⟨_, rfl⟩
  have HSH : Hid (Stab.sLo (Stab.arrO α) (ltOf cf) a m b d = res) := by show _ = _; rw [hres, hpp]; rfl
  have HRES : Hid (Stab.bs pp (m - a) a m = res) := hres.symm
  rw [← hres] at hbd
  clear hpp hres
  have h1 : ((m : Int) - (a : Int) == 1) = false := by simp; omega
  have h2 : ((b : Int) - (m : Int) == 1) = true := by simp; omega
  have HMB := Lib.hid hmb
  have hmb1 : m + 1 ≤ b := by omega
  have hmb2 : b ≤ m + 1 := by omega
  clear hmb
  go_enter Try.func112, Try.ntmps112
  go_wp2
  go_loopg [14, 15] (m - a) (fun g1 vi vj wr => ∃ (i j : Nat), vi = .int .i64 i ∧ vj = .int .i64 j ∧ a ≤ i ∧ i ≤ j ∧ j ≤ m ∧ j - i ≤ g1 ∧ Aside (SW enc w0 blk off d wr) ∧ Hid (Stab.bs pp g1 i j = res))
  case atStart => exact ⟨a, m, by go_num, by go_num, by omega, by omega, by omega, by omega, S0, HRES⟩
  case round =>
    clear S0
    obtain ⟨i, j, rfl, rfl, hi1, hi2, hi3, hg1, S1, HB⟩ := hrel
    by_cases hlt : i < j
    · obtain ⟨f1, rfl⟩ : ∃ f1, gk = f1 + 1 := ⟨gk - 1, by omega⟩
      have hltz : (i : Int) < (j : Int) := by omega
      obtain ⟨h, hh⟩ : ∃ h, h = (i + j) / 2 := ⟨_, rfl⟩
      have hhz : ((i : Int) + (j : Int)) / 2 = (h : Int) := by omega
      have hhl : i ≤ h := by omega
      have hhr : h < j := by omega
      have HB2 : Hid ((if pp h = true then Stab.bs pp f1 (h + 1) j else Stab.bs pp f1 i h) = res) := by
        show _ = _; have := HB.out; rwa [Stab.bs, if_pos hlt, ← hh] at this
      clear HB hh
      cases hl0 : ltOf cf d[m]! d[h]! with
      | true =>
        have hlv := Lib.hid hl0
        have HP : pp h = false := by rw [HPP.out]; simp [hl0]
        have HB3 : Hid (Stab.bs pp f1 i h = res) := by show _ = _; have := HB2.out; rwa [if_neg (by rw [HP]; simp)] at this
        clear hl0 HP HB2
        go_wp2_with fail
        have pi0 : (0 : Int) ≤ (m : Int) := by omega
        have bi0 : (m : Int) < (L : Int) := by omega
        have ri0 : IntKind.i64.wrap (m : Int) = (m : Int) := by rw [IntKind.wrap_i64]; omega
        have pj0 : (0 : Int) ≤ (h : Int) := by omega
        have bj0 : (h : Int) < (L : Int) := by omega
        have rj0 : IntKind.i64.wrap (h : Int) = (h : Int) := by rw [IntKind.wrap_i64]; omega
        obtain ⟨x0, hx0⟩ : ∃ x, x = d[m]! := ⟨_, rfl⟩
        obtain ⟨y0, hy0⟩ : ∃ x, x = d[h]! := ⟨_, rfl⟩
        have la0 := S1.out.cl R (by omega) (m) (by omega)
        have lb0 := S1.out.cl R (by omega) (h) (by omega)
        rw [← hx0] at la0
        rw [← hy0] at lb0
        have hc0 := S1.out.cmp HC.out (by omega) x0 y0
        have hv0 : cf x0 y0 < 0 := by rw [hx0, hy0]; exact of_decide_eq_true hlv.out
        have hd0 : decide (cf x0 y0 < 0) = true := decide_eq_true hv0
        clear hx0 hy0
        go_wp2_with fail
        go_quiet_grown (first | (go_at_fn g; refine Calls.grown_of (hc0 _ _)))
        have S2 : Aside (SW enc w0 blk off d (grow (wr.drewN nq) osq)) := S1.out.grown nq osq
        clear la0 lb0 hc0 S1
        generalize grow (wr.drewN nq) osq = w2 at S2 ⊢
        clear nq osq
        clear hv0
        go_wp2
        go_roundg f1
        case measure => omega
        case rel => exact ⟨i, h, by go_num, by go_num, by omega, by omega, by omega, by omega, S2, HB3⟩
      | false =>
        have hlv := Lib.hid hl0
        have HP : pp h = true := by rw [HPP.out]; simp [hl0]
        have HB3 : Hid (Stab.bs pp f1 (h + 1) j = res) := by show _ = _; have := HB2.out; rwa [if_pos HP] at this
        clear hl0 HP HB2
        go_wp2_with fail
        have pi0 : (0 : Int) ≤ (m : Int) := by omega
        have bi0 : (m : Int) < (L : Int) := by omega
        have ri0 : IntKind.i64.wrap (m : Int) = (m : Int) := by rw [IntKind.wrap_i64]; omega
        have pj0 : (0 : Int) ≤ (h : Int) := by omega
        have bj0 : (h : Int) < (L : Int) := by omega
        have rj0 : IntKind.i64.wrap (h : Int) = (h : Int) := by rw [IntKind.wrap_i64]; omega
        obtain ⟨x0, hx0⟩ : ∃ x, x = d[m]! := ⟨_, rfl⟩
        obtain ⟨y0, hy0⟩ : ∃ x, x = d[h]! := ⟨_, rfl⟩
        have la0 := S1.out.cl R (by omega) (m) (by omega)
        have lb0 := S1.out.cl R (by omega) (h) (by omega)
        rw [← hx0] at la0
        rw [← hy0] at lb0
        have hc0 := S1.out.cmp HC.out (by omega) x0 y0
        have hv0 : ¬ cf x0 y0 < 0 := by rw [hx0, hy0]; exact of_decide_eq_false hlv.out
        have hd0 : decide (cf x0 y0 < 0) = false := decide_eq_false hv0
        clear hx0 hy0
        go_wp2_with fail
        go_quiet_grown (first | (go_at_fn g; refine Calls.grown_of (hc0 _ _)))
        have S2 : Aside (SW enc w0 blk off d (grow (wr.drewN nq) osq)) := S1.out.grown nq osq
        clear la0 lb0 hc0 S1
        generalize grow (wr.drewN nq) osq = w2 at S2 ⊢
        clear nq osq
        clear hv0
        go_wp2
        go_roundg f1
        case measure => omega
        case rel => exact ⟨h + 1, j, by go_num, by go_num, by omega, by omega, by omega, by omega, S2, HB3⟩
    · have hltz : ¬ (i : Int) < (j : Int) := by omega
      obtain rfl : j = i := by omega
      have hres : j = res := by
        have := HB.out
        cases gk with
        | zero => exact this
        | succ f1 => rwa [Stab.bs, if_neg (by omega)] at this
      subst hres
      clear HB hlt
      go_wp2_with fail
      have S3 : Aside _ := S1.out
      go_loopg [17] (m - j) (fun g2 vk wr2 => ∃ k : Nat, vk = .int .i64 k ∧ j ≤ k ∧ k ≤ m ∧ k - j ≤ g2 ∧ Aside (SW enc w0 blk off (Stab.dns (Stab.arrO α) m d (m - k)) wr2))
      case atStart => exact ⟨m, by go_num, by omega, by omega, by omega, by rw [Nat.sub_self]; exact S1⟩
      case round =>
        clear S1 S3
        obtain ⟨k, rfl, hk1, hk2, hg2, S1⟩ := hrel
        by_cases hlt : j < k
        · obtain ⟨kp, rfl⟩ : ∃ q, k = q + 1 := ⟨k - 1, by omega⟩
          have hltz : (j : Int) < (kp : Int) + 1 := by omega
          have hsk : (Stab.dns (Stab.arrO α) m d (m - (kp + 1))).size = L := by rw [Stab.dns_size]; exact hs
          have HST : Hid (Stab.dns (Stab.arrO α) m d (m - kp) = swp (Stab.dns (Stab.arrO α) m d (m - (kp + 1))) (kp + 1) kp) := by
            show _ = _; rw [show m - kp = (m - (kp + 1)) + 1 by omega, Stab.dns]; show swp _ _ _ = _; rw [show m - (m - (kp + 1)) = kp + 1 by omega, Nat.add_sub_cancel]
          generalize Stab.dns (Stab.arrO α) m d (m - (kp + 1)) = dk at S1 hsk HST
          go_wp2_with fail
          obtain ⟨i1N, hi1N⟩ : ∃ q, q = kp + 1 := ⟨_, rfl⟩
          have ei1 : ((kp : Int) + 1).toNat = i1N := by omega
          have pi1 : (0 : Int) ≤ (kp : Int) + 1 := by omega
          have bi1 : (kp : Int) + 1 < (L : Int) := by omega
          have ri1 : IntKind.i64.wrap ((kp : Int) + 1) = (kp : Int) + 1 := by rw [IntKind.wrap_i64]; omega
          have pj1 : (0 : Int) ≤ (kp : Int) := by omega
          have bj1 : (kp : Int) < (L : Int) := by omega
          have rj1 : IntKind.i64.wrap (kp : Int) = (kp : Int) := by rw [IntKind.wrap_i64]; omega
          obtain ⟨x1, hx1⟩ : ∃ x, x = dk[kp + 1]! := ⟨_, rfl⟩
          obtain ⟨y1, hy1⟩ : ∃ x, x = dk[kp]! := ⟨_, rfl⟩
          have S3 : Aside (SW enc w0 blk off (swp dk (kp + 1) (kp)) ((wr.setCell ⟨blk, off + i1N, none⟩ (enc y1)).setCell ⟨blk, off + kp, none⟩ (enc x1)).drew) := by rw [hi1N, hx1, hy1]; exact S1.out.swapped R (kp + 1) (kp) (by omega) (by omega)
          have ca1 := S1.out.c1 R (by omega) (kp + 1) (by omega)
          have cb1 := S1.out.c1 R (by omega) (kp) (by omega)
          have fa1 := S1.out.f1 R (by omega) (kp + 1) (by omega)
          have fb1 := S1.out.f1 R (by omega) (kp) (by omega)
          obtain ⟨u1, cc1⟩ := S1.out.c2 R (by omega) (kp + 1) (kp) (by omega) (by omega) (enc y1)
          rw [← hx1] at ca1
          rw [← hy1] at cb1
          rw [← hi1N] at cc1 ca1 fa1
          clear S1 hx1 hy1 hi1N
          go_wp2_with fail
          go_big_region_o
          clear ca1 cb1 cc1 fa1 fb1
          generalize ((wr.setCell ⟨blk, off + i1N, none⟩ (enc y1)).setCell ⟨blk, off + kp, none⟩ (enc x1)).drew = w3 at S3 ⊢
          clear ei1
          go_wp2
          go_roundg (kp - j)
          case measure => omega
          case rel => exact ⟨kp, by go_num, by omega, by omega, Nat.le_refl _, by rw [HST.out]; exact S3⟩
        · have hltz : ¬ (j : Int) < (k : Int) := by omega
          obtain rfl : k = j := by omega
          go_wp2
          go_end0
          exact ⟨rfl, by rw [HSH.out]; exact S1.out⟩
end Go.Proofs.Yteeinehpneppnaa
