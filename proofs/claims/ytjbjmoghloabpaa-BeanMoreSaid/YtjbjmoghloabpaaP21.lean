/- Parts of a proof: StabE, StabF, BnAJ. -/
import Derived.Test.YtjbjmoghloabpaaP20
import Derived.Test.YtjbjmoghloabpaaP19
import Derived.Test.YtjbjmoghloabpaaP15
set_option linter.unusedVariables false
set_option linter.unusedSimpArgs false
namespace Go.Proofs.Ytjbjmoghloabpaa
open Go.RowKit Go.Proofs
open Go.Shelf Go.RowKit Go.Lib Go.Sort
variable {α : Type} [Inhabited α]

set_option maxHeartbeats 8000000 in
set_option maxRecDepth 100000 in
theorem sym_le (enc : α → Value) (cf : α → α → Int) (g : Nat) (cb : Array Value) (blk off cap L : Nat) (d0 d : Array α) (w0 w : World)
    (eg : ∀ args w, (callFunc g args).run Try.prog w = .ok (.enter g args) w) (hcmp : CmpLays1 Try.prog g cb enc cf blk off d0.size w0) (R : Row1 enc w0 blk off d0) (h0 : d0.size = L) (hs : d.size = L) (hL : L ≤ 256) (S : SW enc w0 blk off d w) (f a m b : Nat) (ham : a + 1 < m) (hmb : m + 1 < b) (hb : b ≤ L) (hf : b - a ≤ f + 1) (HREC : SymRec enc cf g cb blk off cap L w0 f) (hmm : ¬ (a + b) / 2 < m) :
    Calls Try.prog 109 #[.slice (some ⟨blk, off, none⟩) L cap, .int .i64 a, .int .i64 m, .int .i64 b, .func (.func g) #[] cb] w (SymPost enc w0 blk off (Stab.sym (Stab.arrO α) (ltOf cf) (f + 1) a m b d)) := by
  have mixed : Try.prog.follows Departure.mixedOrders = true := by kernel_rfl
  have hcl0 := R.hO.cells
  simp only [Value.cells] at hcl0
  have hst := R.hO.store Try.prog
  have HC : Aside _ := hcmp
  have S0 : Aside (SW enc w0 blk off d w) := S
  clear S
  clear hcmp
  have RT : Hid (∀ (dk : Array α) W, dk.size = L → SW enc w0 blk off dk W → ∀ (xi yi zi : Int) (x y z : Nat), xi = x → yi = y → zi = z → x < y → y < z → z ≤ L → Calls Try.prog 111 #[.slice (some ⟨blk, off, none⟩) L cap, .int .i64 xi, .int .i64 yi, .int .i64 zi, .func (.func g) #[] cb] W fun e w' => e = .returned (.tuple #[]) ∧ SW enc w0 blk off (Stab.rotate (Stab.arrO α) x y z dk) w') := by
    intro dk W hk S xi yi zi x y z hx hy hz h1 h2 h3
    subst hx; subst hy; subst hz
    exact rotate_w enc cf g cb blk off cap L d0 dk w0 W eg HC.out R h0 hk hL S x y z h1 h2 h3
  have SY : Hid (SymRec enc cf g cb blk off cap L w0 f) := HREC
  clear HREC
  have HE : Stab.sym (Stab.arrO α) (ltOf cf) (f + 1) a m b d = if (a + b) / 2 < (a + b) / 2 + m - Stab.st (Stab.arrO α) (ltOf cf) a m b d ∧ (a + b) / 2 + m - Stab.st (Stab.arrO α) (ltOf cf) a m b d < b then
      Stab.sym (Stab.arrO α) (ltOf cf) f ((a + b) / 2) ((a + b) / 2 + m - Stab.st (Stab.arrO α) (ltOf cf) a m b d) b (if a < Stab.st (Stab.arrO α) (ltOf cf) a m b d ∧ Stab.st (Stab.arrO α) (ltOf cf) a m b d < (a + b) / 2 then Stab.sym (Stab.arrO α) (ltOf cf) f a (Stab.st (Stab.arrO α) (ltOf cf) a m b d) ((a + b) / 2) (Stab.tn (Stab.arrO α) (ltOf cf) a m b d) else Stab.tn (Stab.arrO α) (ltOf cf) a m b d)
    else (if a < Stab.st (Stab.arrO α) (ltOf cf) a m b d ∧ Stab.st (Stab.arrO α) (ltOf cf) a m b d < (a + b) / 2 then Stab.sym (Stab.arrO α) (ltOf cf) f a (Stab.st (Stab.arrO α) (ltOf cf) a m b d) ((a + b) / 2) (Stab.tn (Stab.arrO α) (ltOf cf) a m b d) else Stab.tn (Stab.arrO α) (ltOf cf) a m b d) := by
    rw [Stab.sym, if_neg (by omega), if_neg (by omega)]
  have hT : Stab.tn (Stab.arrO α) (ltOf cf) a m b d = if Stab.st (Stab.arrO α) (ltOf cf) a m b d < m ∧ m < (a + b) / 2 + m - Stab.st (Stab.arrO α) (ltOf cf) a m b d then Stab.rotate (Stab.arrO α) (Stab.st (Stab.arrO α) (ltOf cf) a m b d) m ((a + b) / 2 + m - Stab.st (Stab.arrO α) (ltOf cf) a m b d) d else d := rfl
  have hTs := Stab.tn_size (ltOf cf) a m b d
  have hst1 : Stab.s0 a m b = a := by unfold Stab.s0; rw [if_neg hmm]
  have hst2 : Stab.r0 a m b = m := by unfold Stab.r0; rw [if_neg hmm]
  obtain ⟨pp, hpp⟩ : ∃ pp : Nat → Bool, pp = fun c => !ltOf cf d[(a + b) / 2 + m - 1 - c]! d[c]! := ⟨_, rfl⟩
  obtain ⟨lo, hlo⟩ : ∃ lo, lo = Stab.s0 a m b := ⟨_, rfl⟩
  obtain ⟨hi, hhi⟩ : ∃ hi, hi = Stab.r0 a m b := ⟨_, rfl⟩
  have hst0 : Stab.st (Stab.arrO α) (ltOf cf) a m b d = Stab.bs pp (hi - lo) lo hi := by
    rw [hlo, hhi, hpp]; rfl
  rw [hst1] at hlo
  rw [hst2] at hhi
  have hpp2 : ∀ c, pp c = !ltOf cf d[(a + b) / 2 + m - 1 - c]! d[c]! := by intro c; rw [hpp]
  clear hpp hst1 hst2
  obtain ⟨mid, hmid⟩ : ∃ mid, mid = (a + b) / 2 := ⟨_, rfl⟩
  rw [← hmid] at HE hT hmm
  simp only [← hmid] at hpp2
  have HPP := Lib.hid hpp2
  clear hpp2
  have hm1 : 2 * mid ≤ a + b := by omega
  have hm2 : a + b ≤ 2 * mid + 1 := by omega
  have hmidz : ((a : Int) + (b : Int)) / 2 = (mid : Int) := by omega
  clear hmid
  have hlo1 : a ≤ lo := by omega
  have hlo2 : lo ≤ a := by omega
  clear hlo
  have hhi1 : m ≤ hi := by omega
  have hhi2 : hi ≤ m := by omega
  clear hhi
  have hbd := Stab.bs_bd pp (hi - lo) lo hi (by omega)
  rw [← hst0] at hbd
  obtain ⟨res, hres⟩ : ∃ r, r = Stab.st (Stab.arrO α) (ltOf cf) a m b d := ⟨_, rfl⟩
  rw [← hres] at HE hT hst0 hbd
  have HRES : Hid (Stab.bs pp (hi - lo) lo hi = res) := hst0.symm
  clear hst0 hres
  generalize Stab.tn (Stab.arrO α) (ltOf cf) a m b d = T at HE hT hTs
  have HT := Lib.hid hT
  have HEE := Lib.hid HE
  clear hT HE
  have h1 : ((m : Int) - (a : Int) == 1) = false := by simp; omega
  have h2 : ((b : Int) - (m : Int) == 1) = false := by simp; omega
  have hmmz : ¬ (mid : Int) < (m : Int) := by omega
  go_enter Try.func109, Try.ntmps109
  go_wp2
  go_loopg [20, 21] (hi - lo) (fun g1 vi vj wr => ∃ (i j : Nat), vi = .int .i64 i ∧ vj = .int .i64 j ∧ lo ≤ i ∧ i ≤ j ∧ j ≤ hi ∧ j - i ≤ g1 ∧ Aside (SW enc w0 blk off d wr) ∧ Hid (Stab.bs pp g1 i j = res))
  case atStart => exact ⟨lo, hi, by first | go_num | (congr 1; omega), by first | go_num | (congr 1; omega), by omega, by omega, by omega, by omega, S0, HRES⟩
  case round =>
    clear S0
    obtain ⟨i, j, rfl, rfl, hi1, hi2, hi3, hg1, S1, HB⟩ := hrel
    by_cases hlt : i < j
    · obtain ⟨f1, rfl⟩ : ∃ f1, gk = f1 + 1 := ⟨gk - 1, by omega⟩
      have hltz : (i : Int) < (j : Int) := by omega
      obtain ⟨h, hh⟩ : ∃ h, h = (i + j) / 2 := ⟨_, rfl⟩
      have hhz : ((i : Int) + (j : Int)) / 2 = (h : Int) := by omega
      have hhl : i ≤ h := by omega
      have hhr : h < j := by omega
      have HB2 : Hid ((if pp h = true then Stab.bs pp f1 (h + 1) j else Stab.bs pp f1 i h) = res) := by
        show _ = _; have := HB.out; rwa [Stab.bs, if_pos hlt, ← hh] at this
      clear HB hh
      obtain ⟨q, hq⟩ : ∃ q, q = mid + m - 1 - h := ⟨_, rfl⟩
      have hqz : (mid : Int) + (m : Int) - 1 - (h : Int) = (q : Int) := by omega
      have hqL : q < L := by omega
      cases hl0 : ltOf cf d[q]! d[h]! with
      | true =>
        have hlv := Lib.hid hl0
        have HP : pp h = false := by rw [HPP.out, ← hq]; simp [hl0]
        have HB3 : Hid (Stab.bs pp f1 i h = res) := by show _ = _; have := HB2.out; rwa [if_neg (by rw [HP]; simp)] at this
        clear hl0 HP HB2 hq
        go_wp2_with fail
        have pi0 : (0 : Int) ≤ (q : Int) := by omega
        have bi0 : (q : Int) < (L : Int) := by omega
        have ri0 : IntKind.i64.wrap (q : Int) = (q : Int) := by rw [IntKind.wrap_i64]; omega
        have pj0 : (0 : Int) ≤ (h : Int) := by omega
        have bj0 : (h : Int) < (L : Int) := by omega
        have rj0 : IntKind.i64.wrap (h : Int) = (h : Int) := by rw [IntKind.wrap_i64]; omega
        obtain ⟨x0, hx0⟩ : ∃ x, x = d[q]! := ⟨_, rfl⟩
        obtain ⟨y0, hy0⟩ : ∃ x, x = d[h]! := ⟨_, rfl⟩
        have la0 := S1.out.cl R (by omega) (q) (by omega)
        have lb0 := S1.out.cl R (by omega) (h) (by omega)
        rw [← hx0] at la0
        rw [← hy0] at lb0
        have hc0 := S1.out.cmp HC.out (by omega) x0 y0
        have hv0 : cf x0 y0 < 0 := by rw [hx0, hy0]; exact of_decide_eq_true hlv.out
        have hd0 : decide (cf x0 y0 < 0) = true := decide_eq_true hv0
        clear hx0 hy0
        go_wp2_with fail
        go_quiet_grown (first | (go_at_fn g; refine Calls.grown_of (hc0 _ _)))
        have S2 : Aside (SW enc w0 blk off d (grow (wr.drewN nq) osq)) := S1.out.grown nq osq
        clear la0 lb0 hc0 S1
        generalize grow (wr.drewN nq) osq = w2 at S2 ⊢
        clear nq osq
        clear hv0
        go_wp2
        go_roundg f1
        case measure => omega
        case rel => exact ⟨i, h, by go_num, by go_num, by omega, by omega, by omega, by omega, S2, HB3⟩
      | false =>
        have hlv := Lib.hid hl0
        have HP : pp h = true := by rw [HPP.out, ← hq]; simp [hl0]
        have HB3 : Hid (Stab.bs pp f1 (h + 1) j = res) := by show _ = _; have := HB2.out; rwa [if_pos HP] at this
        clear hl0 HP HB2 hq
        go_wp2_with fail
        have pi0 : (0 : Int) ≤ (q : Int) := by omega
        have bi0 : (q : Int) < (L : Int) := by omega
        have ri0 : IntKind.i64.wrap (q : Int) = (q : Int) := by rw [IntKind.wrap_i64]; omega
        have pj0 : (0 : Int) ≤ (h : Int) := by omega
        have bj0 : (h : Int) < (L : Int) := by omega
        have rj0 : IntKind.i64.wrap (h : Int) = (h : Int) := by rw [IntKind.wrap_i64]; omega
        obtain ⟨x0, hx0⟩ : ∃ x, x = d[q]! := ⟨_, rfl⟩
        obtain ⟨y0, hy0⟩ : ∃ x, x = d[h]! := ⟨_, rfl⟩
        have la0 := S1.out.cl R (by omega) (q) (by omega)
        have lb0 := S1.out.cl R (by omega) (h) (by omega)
        rw [← hx0] at la0
        rw [← hy0] at lb0
        have hc0 := S1.out.cmp HC.out (by omega) x0 y0
        have hv0 : ¬ cf x0 y0 < 0 := by rw [hx0, hy0]; exact of_decide_eq_false hlv.out
        have hd0 : decide (cf x0 y0 < 0) = false := decide_eq_false hv0
        clear hx0 hy0
        go_wp2_with fail
        go_quiet_grown (first | (go_at_fn g; refine Calls.grown_of (hc0 _ _)))
        have S2 : Aside (SW enc w0 blk off d (grow (wr.drewN nq) osq)) := S1.out.grown nq osq
        clear la0 lb0 hc0 S1
        generalize grow (wr.drewN nq) osq = w2 at S2 ⊢
        clear nq osq
        clear hv0
        go_wp2
        go_roundg f1
        case measure => omega
        case rel => exact ⟨h + 1, j, by go_num, by go_num, by omega, by omega, by omega, by omega, S2, HB3⟩
    · have hltz : ¬ (i : Int) < (j : Int) := by omega
      obtain rfl : j = i := by omega
      have hres : j = res := by
        have := HB.out
        cases gk with
        | zero => exact this
        | succ f1 => rwa [Stab.bs, if_neg (by omega)] at this
      subst hres
      clear HB hlt
      clear hm1 hm2 HRES HPP
      obtain ⟨en, hen⟩ : ∃ en, en = mid + m - j := ⟨_, rfl⟩
      have henz : (mid : Int) + (m : Int) - (j : Int) = (en : Int) := by omega
      have hen1 : en + j ≤ mid + m := by omega
      have hen2 : mid + m ≤ en + j := by omega
      have HE2 := HEE.out
      have HT2 := HT.out
      rw [← hen] at HE2 HT2
      have HEE2 := Lib.hid HE2
      clear HEE HT HE2 hen
      by_cases hA1 : j < m
      · by_cases hA2 : j < mid
        · by_cases hB1 : a < j
          · by_cases hC2 : en < b
            · have hTs2 : T.size = L := by rw [hTs]; exact hs
              clear hTs
              have hTT : T = Stab.rotate (Stab.arrO α) j m en d := by rw [HT2, if_pos ⟨by omega, by omega⟩]
              clear HT2
              have HTT := Lib.hid hTT
              clear hTT
              have za1 : (j : Int) < (m : Int) := by omega
              have za1b : (mid : Int) < (en : Int) := by omega
              have za2 : (j : Int) < (mid : Int) := by omega
              have za2b : (m : Int) < (en : Int) := by omega
              have zb1 : (a : Int) < (j : Int) := by omega
              have zc2 : (en : Int) < (b : Int) := by omega
              go_wp2_with fail
              refine (RT.out d _ hs S1.out _ _ _ j m en (by omega) (by omega) (by omega) (by omega) (by omega) (by omega)).mono ?_
              rintro e w2 ⟨rfl, S2⟩
              rw [← HTT.out] at S2
              have S2 := (show Aside _ from S2)
              go_wp2_with fail
              refine (SY.out T _ hTs2 S2.out _ _ _ a j mid (by omega) (by omega) (by omega) (by omega) (by omega) (by omega) (by omega)).mono ?_
              rintro e w3 ⟨rfl, S3⟩
              have S3 := (show Aside _ from S3)
              go_wp2_with fail
              refine (SY.out (Stab.sym (Stab.arrO α) (ltOf cf) f a j mid T) _ (by rw [Stab.sym_size]; exact hTs2) S3.out _ _ _ mid en b (by omega) (by omega) (by omega) (by omega) (by omega) (by omega) (by omega)).mono ?_
              rintro e w4 ⟨rfl, S4⟩
              have S4 := (show Aside _ from S4)
              go_wp2_with fail
              go_end0
              exact ⟨rfl, by rw [HEE2.out, if_pos ⟨by omega, by omega⟩, if_pos ⟨by omega, by omega⟩]; exact S4.out⟩
            · have hTs2 : T.size = L := by rw [hTs]; exact hs
              clear hTs
              have hTT : T = Stab.rotate (Stab.arrO α) j m en d := by rw [HT2, if_pos ⟨by omega, by omega⟩]
              clear HT2
              have HTT := Lib.hid hTT
              clear hTT
              have za1 : (j : Int) < (m : Int) := by omega
              have za1b : (mid : Int) < (en : Int) := by omega
              have za2 : (j : Int) < (mid : Int) := by omega
              have za2b : (m : Int) < (en : Int) := by omega
              have zb1 : (a : Int) < (j : Int) := by omega
              have zc2 : ¬ (en : Int) < (b : Int) := by omega
              go_wp2_with fail
              refine (RT.out d _ hs S1.out _ _ _ j m en (by omega) (by omega) (by omega) (by omega) (by omega) (by omega)).mono ?_
              rintro e w2 ⟨rfl, S2⟩
              rw [← HTT.out] at S2
              have S2 := (show Aside _ from S2)
              go_wp2_with fail
              refine (SY.out T _ hTs2 S2.out _ _ _ a j mid (by omega) (by omega) (by omega) (by omega) (by omega) (by omega) (by omega)).mono ?_
              rintro e w3 ⟨rfl, S3⟩
              have S3 := (show Aside _ from S3)
              go_wp2_with fail
              go_end0
              exact ⟨rfl, by rw [HEE2.out, if_neg (by omega), if_pos ⟨by omega, by omega⟩]; exact S3.out⟩
          · by_cases hC2 : en < b
            · have hTs2 : T.size = L := by rw [hTs]; exact hs
              clear hTs
              have hTT : T = Stab.rotate (Stab.arrO α) j m en d := by rw [HT2, if_pos ⟨by omega, by omega⟩]
              clear HT2
              have HTT := Lib.hid hTT
              clear hTT
              have za1 : (j : Int) < (m : Int) := by omega
              have za1b : (mid : Int) < (en : Int) := by omega
              have za2 : (j : Int) < (mid : Int) := by omega
              have za2b : (m : Int) < (en : Int) := by omega
              have zb1 : ¬ (a : Int) < (j : Int) := by omega
              have zc2 : (en : Int) < (b : Int) := by omega
              go_wp2_with fail
              refine (RT.out d _ hs S1.out _ _ _ j m en (by omega) (by omega) (by omega) (by omega) (by omega) (by omega)).mono ?_
              rintro e w2 ⟨rfl, S2⟩
              rw [← HTT.out] at S2
              have S2 := (show Aside _ from S2)
              go_wp2_with fail
              refine (SY.out T _ hTs2 S2.out _ _ _ mid en b (by omega) (by omega) (by omega) (by omega) (by omega) (by omega) (by omega)).mono ?_
              rintro e w4 ⟨rfl, S4⟩
              have S4 := (show Aside _ from S4)
              go_wp2_with fail
              go_end0
              exact ⟨rfl, by rw [HEE2.out, if_pos ⟨by omega, by omega⟩, if_neg (by omega)]; exact S4.out⟩
            · have hTs2 : T.size = L := by rw [hTs]; exact hs
              clear hTs
              have hTT : T = Stab.rotate (Stab.arrO α) j m en d := by rw [HT2, if_pos ⟨by omega, by omega⟩]
              clear HT2
              have HTT := Lib.hid hTT
              clear hTT
              have za1 : (j : Int) < (m : Int) := by omega
              have za1b : (mid : Int) < (en : Int) := by omega
              have za2 : (j : Int) < (mid : Int) := by omega
              have za2b : (m : Int) < (en : Int) := by omega
              have zb1 : ¬ (a : Int) < (j : Int) := by omega
              have zc2 : ¬ (en : Int) < (b : Int) := by omega
              go_wp2_with fail
              refine (RT.out d _ hs S1.out _ _ _ j m en (by omega) (by omega) (by omega) (by omega) (by omega) (by omega)).mono ?_
              rintro e w2 ⟨rfl, S2⟩
              rw [← HTT.out] at S2
              have S2 := (show Aside _ from S2)
              go_wp2_with fail
              go_end0
              exact ⟨rfl, by rw [HEE2.out, if_neg (by omega), if_neg (by omega)]; exact S2.out⟩
        · exfalso; omega
      · by_cases hA2 : j < mid
        · by_cases hB1 : a < j
          · have hTs2 : T.size = L := by rw [hTs]; exact hs
            clear hTs
            have hTT : T = d := by rw [HT2, if_neg (by omega)]
            clear HT2
            have HTT := Lib.hid hTT
            clear hTT
            have za1 : ¬ (j : Int) < (m : Int) := by omega
            have za1b : ¬ (mid : Int) < (en : Int) := by omega
            have za2 : (j : Int) < (mid : Int) := by omega
            have za2b : (m : Int) < (en : Int) := by omega
            have zb1 : (a : Int) < (j : Int) := by omega
            go_wp2_with fail
            have S2 : Aside (SW enc w0 blk off T wr) := (show SW enc w0 blk off T wr by rw [HTT.out]; exact S1.out)
            refine (SY.out T _ hTs2 S2.out _ _ _ a j mid (by omega) (by omega) (by omega) (by omega) (by omega) (by omega) (by omega)).mono ?_
            rintro e w3 ⟨rfl, S3⟩
            have S3 := (show Aside _ from S3)
            go_wp2_with fail
            go_end0
            exact ⟨rfl, by rw [HEE2.out, if_neg (by omega), if_pos ⟨by omega, by omega⟩]; exact S3.out⟩
          · exfalso; omega
        · have hTs2 : T.size = L := by rw [hTs]; exact hs
          clear hTs
          have hTT : T = d := by rw [HT2, if_neg (by omega)]
          clear HT2
          have HTT := Lib.hid hTT
          clear hTT
          have za1 : ¬ (j : Int) < (m : Int) := by omega
          have za1b : ¬ (mid : Int) < (en : Int) := by omega
          have za2 : ¬ (j : Int) < (mid : Int) := by omega
          have za2b : ¬ (m : Int) < (en : Int) := by omega
          go_wp2_with fail
          have S2 : Aside (SW enc w0 blk off T wr) := (show SW enc w0 blk off T wr by rw [HTT.out]; exact S1.out)
          go_end0
          exact ⟨rfl, by rw [HEE2.out, if_neg (by omega), if_neg (by omega)]; exact S2.out⟩

theorem sym_rec (enc : α → Value) (cf : α → α → Int) (g : Nat) (cb : Array Value) (blk off cap L : Nat) (d0 : Array α) (w0 : World)
    (eg : ∀ args w, (callFunc g args).run Try.prog w = .ok (.enter g args) w) (hcmp : CmpLays1 Try.prog g cb enc cf blk off d0.size w0) (R : Row1 enc w0 blk off d0) (h0 : d0.size = L) (hL : L ≤ 256) : ∀ f, SymRec enc cf g cb blk off cap L w0 f := by
  intro f
  induction f with
  | zero => intro d w hd S xi yi zi a m b hx hy hz h1 h2 h3 h4; omega
  | succ f ih =>
    intro d w hd S xi yi zi a m b hx hy hz h1 h2 h3 h4
    subst hx; subst hy; subst hz
    by_cases c1 : m - a = 1
    · have := sym_one enc cf g cb blk off cap L d0 d w0 w eg hcmp R h0 hd hL S a m b (by omega) h3 h4
      rwa [show Stab.sym (Stab.arrO α) (ltOf cf) (f + 1) a m b d = _ by rw [Stab.sym, if_pos c1]]
    · by_cases c2 : b - m = 1
      · have := sym_two enc cf g cb blk off cap L d0 d w0 w eg hcmp R h0 hd hL S a m b (by omega) (by omega) h4
        rwa [show Stab.sym (Stab.arrO α) (ltOf cf) (f + 1) a m b d = _ by rw [Stab.sym, if_neg c1, if_pos c2]]
      · by_cases c3 : (a + b) / 2 < m
        · exact sym_gt enc cf g cb blk off cap L d0 d w0 w eg hcmp R h0 hd hL S f a m b (by omega) (by omega) h4 h1 ih c3
        · exact sym_le enc cf g cb blk off cap L d0 d w0 w eg hcmp R h0 hd hL S f a m b (by omega) (by omega) h4 h1 ih c3
end Go.Proofs.Ytjbjmoghloabpaa
set_option linter.unusedVariables false
set_option linter.unusedSimpArgs false
namespace Go.Proofs.Ytjbjmoghloabpaa
open Go.RowKit Go.Proofs
open Go.Shelf Go.RowKit Go.Lib Go.Sort
variable {α : Type} [Inhabited α]

def SortPost (enc : α → Value) (w0 : World) (blk off : Nat) (d : Array α) (e : Ending) (w' : World) : Prop := e = .returned (.tuple #[]) ∧ SW enc w0 blk off d w'
theorem ins_size (lt : α → α → Bool) (a b : Nat) (d : Array α) : (Stab.ins (Stab.arrO α) lt d a b).size = d.size := by
  have hI : ∀ (j : Nat) (d : Array α), (Stab.insI (Stab.arrO α) lt a j d).size = d.size := by
    intro j; induction j with
    | zero => intro d; rfl
    | succ j ih => intro d; rw [Stab.insI]; split
                   · rw [ih]; exact size_swp _ _ _
                   · rfl
  have hO : ∀ (f i : Nat) (d : Array α), (Stab.insO (Stab.arrO α) lt a b f i d).size = d.size := by
    intro f; induction f with
    | zero => intro i d; rfl
    | succ f ih => intro i d; rw [Stab.insO]; split
                   · rw [ih, hI]
                   · rfl
  exact hO _ _ _
theorem blocks_size (lt : α → α → Bool) (n : Nat) : ∀ (f a : Nat) (d : Array α), (Stab.blocks (Stab.arrO α) lt n f a d).size = d.size
  | 0, _, _ => rfl
  | f + 1, a, d => by
    rw [Stab.blocks]; split
    · rw [blocks_size, ins_size]
    · rw [ins_size]
theorem pass_size (lt : α → α → Bool) (n bz : Nat) : ∀ (f a : Nat) (d : Array α), (Stab.pass (Stab.arrO α) lt n bz f a d).size = d.size
  | 0, _, _ => rfl
  | f + 1, a, d => by
    rw [Stab.pass]; split
    · rw [pass_size, Stab.sym_size]
    · split
      · rw [Stab.sym_size]
      · rfl
theorem passes_stop (lt : α → α → Bool) (n f bz : Nat) (d : Array α) (h : ¬ bz < n) : Stab.passes (Stab.arrO α) lt n f bz d = d := by
  cases f with
  | zero => rfl
  | succ f => rw [Stab.passes, if_neg h]
set_option maxHeartbeats 8000000 in
set_option maxRecDepth 100000 in
theorem stable_w (enc : α → Value) (cf : α → α → Int) (g : Nat) (cb : Array Value) (blk off cap L : Nat) (d0 d : Array α) (w0 w : World)
    (eg : ∀ args w, (callFunc g args).run Try.prog w = .ok (.enter g args) w) (hcmp : CmpLays1 Try.prog g cb enc cf blk off d0.size w0) (R : Row1 enc w0 blk off d0) (h0 : d0.size = L) (hs : d.size = L) (hL : L ≤ 256) (S : SW enc w0 blk off d w) :
    Calls Try.prog 101 #[.slice (some ⟨blk, off, none⟩) L cap, .int .i64 L, .func (.func g) #[] cb] w (SortPost enc w0 blk off (Stab.stable (Stab.arrO α) (ltOf cf) L d)) := by
  have mixed : Try.prog.follows Departure.mixedOrders = true := by kernel_rfl
  have hcl0 := R.hO.cells
  simp only [Value.cells] at hcl0
  have hst := R.hO.store Try.prog
  have HC : Aside _ := hcmp
  have S0 : Aside (SW enc w0 blk off d w) := S
  clear S
  clear hcmp
  have INS : Hid (∀ (dk : Array α) W, dk.size = L → SW enc w0 blk off dk W → ∀ (xi yi : Int) (x y : Nat), xi = x → yi = y → x ≤ y → y ≤ L → Calls Try.prog 108 #[.slice (some ⟨blk, off, none⟩) L cap, .int .i64 xi, .int .i64 yi, .func (.func g) #[] cb] W fun e w' => e = .returned (.tuple #[]) ∧ SW enc w0 blk off (Stab.ins (Stab.arrO α) (ltOf cf) dk x y) w') := by
    intro dk W hk S xi yi x y hx hy h1 h2
    subst hx; subst hy
    exact ins_w enc cf g cb blk off cap L d0 dk w0 W eg HC.out R h0 hk hL S x y h1 h2
  have SY := Lib.hid (sym_rec enc cf g cb blk off cap L d0 w0 eg HC.out R h0 hL)
  have HFIN : Hid (Stab.stable (Stab.arrO α) (ltOf cf) L d = Stab.passes (Stab.arrO α) (ltOf cf) L (L + 1) 20 (Stab.blocks (Stab.arrO α) (ltOf cf) L (L + 1) 0 d)) := rfl
  have hbs := blocks_size (ltOf cf) L (L + 1) 0 d
  rw [hs] at hbs
  generalize Stab.stable (Stab.arrO α) (ltOf cf) L d = FIN at *
  obtain ⟨BL, hBL⟩ : ∃ B, B = Stab.blocks (Stab.arrO α) (ltOf cf) L (L + 1) 0 d := ⟨_, rfl⟩
  rw [← hBL] at hbs HFIN
  have HBL : Hid (Stab.blocks (Stab.arrO α) (ltOf cf) L (L + 1) 0 d = BL) := hBL.symm
  clear hBL
  go_enter Try.func101, Try.ntmps101
  go_wp2
  go_loopg [7, 8] (L + 1) (fun g1 va vb wr => ∃ (a b : Nat) (dk : Array α), va = .int .i64 a ∧ vb = .int .i64 b ∧ a + 20 ≤ b ∧ b ≤ a + 20 ∧ a ≤ L ∧ L - a < g1 ∧ dk.size = L ∧ Aside (SW enc w0 blk off dk wr) ∧ Hid (Stab.blocks (Stab.arrO α) (ltOf cf) L g1 a dk = BL))
  case atStart => exact ⟨0, 20, d, rfl, rfl, by omega, by omega, by omega, by omega, hs, S0, HBL⟩
  case round =>
    clear S0 HBL
    obtain ⟨a, b, dk, rfl, rfl, hb1, hb2, ha, hg1, hsk, S1, HB⟩ := hrel
    obtain ⟨f1, rfl⟩ : ∃ f1, gk = f1 + 1 := ⟨gk - 1, by omega⟩
    by_cases hlt : b ≤ L
    · have hltz : (b : Int) ≤ (L : Int) := by omega
      have HB2 : Hid (Stab.blocks (Stab.arrO α) (ltOf cf) L f1 b (Stab.ins (Stab.arrO α) (ltOf cf) dk a b) = BL) := by
        show _ = _; have := HB.out; rw [Stab.blocks, if_pos (by omega)] at this; rwa [show a + 20 = b by omega] at this
      have hs2 := ins_size (ltOf cf) a b dk
      clear HB
      go_wp2_with fail
      refine (INS.out dk _ hsk S1.out _ _ a b (by omega) (by omega) (by omega) (by omega)).mono ?_
      rintro e w2 ⟨rfl, S2⟩
      have S2 := (show Aside _ from S2)
      go_wp2_with fail
      go_roundg f1
      case measure => omega
      case rel => exact ⟨b, b + 20, _, by go_num, by go_num, by omega, by omega, by omega, by omega, by rw [hs2]; exact hsk, S2, HB2⟩
    · have hltz : ¬ (b : Int) ≤ (L : Int) := by omega
      have HB2 : Hid (Stab.ins (Stab.arrO α) (ltOf cf) dk a L = BL) := by
        show _ = _; have := HB.out; rwa [Stab.blocks, if_neg (by omega)] at this
      clear HB
      go_wp2_with fail
      refine (INS.out dk _ hsk S1.out _ _ a L (by omega) (by omega) (by omega) (by omega)).mono ?_
      rintro e w2 ⟨rfl, S2⟩
      rw [HB2.out] at S2
      have S2 := (show Aside _ from S2)
      clear HB2 S1 hsk
      go_wp2_with fail
      go_loopg [6] (L + 1) (fun g1 vz wr => ∃ (bz : Nat) (dk : Array α), vz = .int .i64 bz ∧ 20 ≤ bz ∧ L < bz + g1 ∧ bz ≤ 2 * L + 20 ∧ dk.size = L ∧ Aside (SW enc w0 blk off dk wr) ∧ Hid (Stab.passes (Stab.arrO α) (ltOf cf) L g1 bz dk = FIN))
      case atStart => exact ⟨20, BL, rfl, by omega, by omega, by omega, hbs, S2, (show _ = _ from HFIN.out.symm)⟩
      case round =>
        clear S2 HFIN hbs
        obtain ⟨bz, dk, rfl, hz1, hz2, hz3, hsk, S1, HB⟩ := hrel
        by_cases hlt : bz < L
        · have hltz : (bz : Int) < (L : Int) := by omega
          obtain ⟨f1, rfl⟩ : ∃ f1, gk = f1 + 1 := ⟨gk - 1, by omega⟩
          obtain ⟨PS, hPS⟩ : ∃ B, B = Stab.pass (Stab.arrO α) (ltOf cf) L bz (L + 1) 0 dk := ⟨_, rfl⟩
          have HB2 : Hid (Stab.passes (Stab.arrO α) (ltOf cf) L f1 (2 * bz) PS = FIN) := by
            show _ = _; have := HB.out; rwa [Stab.passes, if_pos hlt, ← hPS] at this
          have hps := pass_size (ltOf cf) L bz (L + 1) 0 dk
          rw [← hPS, hsk] at hps
          have HPS : Hid (Stab.pass (Stab.arrO α) (ltOf cf) L bz (L + 1) 0 dk = PS) := hPS.symm
          clear hPS HB
          go_wp2_with fail
          go_loopg [7, 8] (L + 1) (fun g1 va vb wr => ∃ (a b : Nat) (dk : Array α), va = .int .i64 a ∧ vb = .int .i64 b ∧ a + 2 * bz ≤ b ∧ b ≤ a + 2 * bz ∧ a ≤ L ∧ L - a < g1 ∧ dk.size = L ∧ Aside (SW enc w0 blk off dk wr) ∧ Hid (Stab.pass (Stab.arrO α) (ltOf cf) L bz g1 a dk = PS))
          case atStart => exact ⟨0, 2 * bz, dk, rfl, by go_num, by omega, by omega, by omega, by omega, hsk, S1, HPS⟩
          case round =>
            clear S1 HPS hsk
            clear dk
            obtain ⟨a, b, dk, rfl, rfl, hb1, hb2, ha, hg1, hsk, S1, HB⟩ := hrel
            obtain ⟨f2, rfl⟩ : ∃ f2, gk = f2 + 1 := ⟨gk - 1, by omega⟩
            by_cases hlt2 : b ≤ L
            · have hltz2 : (b : Int) ≤ (L : Int) := by omega
              have HB3 : Hid (Stab.pass (Stab.arrO α) (ltOf cf) L bz f2 b (Stab.sym (Stab.arrO α) (ltOf cf) (2 * bz) a (a + bz) b dk) = PS) := by
                show _ = _; have := HB.out; rw [Stab.pass, if_pos (by omega)] at this; rwa [show a + 2 * bz = b by omega] at this
              have hs2 := Stab.sym_size (ltOf cf) (2 * bz) a (a + bz) b dk
              clear HB
              go_wp2_with fail
              refine (SY.out (2 * bz) dk _ hsk S1.out _ _ _ a (a + bz) b (by omega) (by omega) (by omega) (by omega) (by omega) (by omega) (by omega)).mono ?_
              rintro e w3 ⟨rfl, S3⟩
              have S3 := (show Aside _ from S3)
              go_wp2_with fail
              go_roundg f2
              case measure => omega
              case rel => exact ⟨b, b + 2 * bz, _, by go_num, by go_num, by omega, by omega, by omega, by omega, by rw [hs2]; exact hsk, S3, HB3⟩
            · have hltz2 : ¬ (b : Int) ≤ (L : Int) := by omega
              by_cases hm : a + bz < L
              · have hmz : (a : Int) + (bz : Int) < (L : Int) := by omega
                have HB3 : Hid (Stab.sym (Stab.arrO α) (ltOf cf) (L - a) a (a + bz) L dk = PS) := by
                  show _ = _; have := HB.out; rwa [Stab.pass, if_neg (by omega), if_pos hm] at this
                clear HB
                go_wp2_with fail
                refine (SY.out (L - a) dk _ hsk S1.out _ _ _ a (a + bz) L (by omega) (by omega) (by omega) (by omega) (by omega) (by omega) (by omega)).mono ?_
                rintro e w3 ⟨rfl, S3⟩
                rw [HB3.out] at S3
                have S3 := (show Aside _ from S3)
                go_wp2_with fail
                go_roundg f1
                case measure => omega
                case rel => exact ⟨2 * bz, PS, by first | go_num | (congr 1; omega), by omega, by omega, by omega, hps, S3, HB2⟩
              · have hmz : ¬ (a : Int) + (bz : Int) < (L : Int) := by omega
                have HB3 : dk = PS := by
                  have := HB.out; rwa [Stab.pass, if_neg (by omega), if_neg hm] at this
                subst HB3
                clear HB
                go_wp2_with fail
                go_roundg f1
                case measure => omega
                case rel => exact ⟨2 * bz, dk, by first | go_num | (congr 1; omega), by omega, by omega, by omega, hps, S1, HB2⟩
        · have hltz : ¬ (bz : Int) < (L : Int) := by omega
          go_wp2_with fail
          go_end0
          exact ⟨rfl, by rw [← HB.out, passes_stop _ _ _ _ _ hlt]; exact S1.out⟩
theorem sortStable_w (enc : α → Value) (cf : α → α → Int) (g : Nat) (cb : Array Value) (blk off cap L : Nat) (d0 d : Array α) (w0 w : World)
    (eg : ∀ args w, (callFunc g args).run Try.prog w = .ok (.enter g args) w) (hcmp : CmpLays1 Try.prog g cb enc cf blk off d0.size w0) (R : Row1 enc w0 blk off d0) (h0 : d0.size = L) (hs : d.size = L) (hL : L ≤ 256) (S : SW enc w0 blk off d w) :
    Calls Try.prog 84 #[.slice (some ⟨blk, off, none⟩) L cap, .func (.func g) #[] cb] w (SortPost enc w0 blk off (Stab.stable (Stab.arrO α) (ltOf cf) L d)) := by
  have H := Lib.hid (stable_w enc cf g cb blk off cap L d0 d w0 w eg hcmp R h0 hs hL S)
  clear hcmp R h0 hs S
  go_enter Try.func84, Try.ntmps84
  go_wp2_with (go_at_call 101; refine H.out.mono ?_; rintro e w' ⟨rfl, S⟩)
  go_end0
  exact ⟨rfl, S⟩
end Go.Proofs.Ytjbjmoghloabpaa
set_option linter.unusedVariables false
set_option linter.unusedSimpArgs false
namespace Go.Proofs.Ytjbjmoghloabpaa
open Go.RowKit Go.Proofs
attribute [local irreducible] Ord.walk
open Go.Sort Go.Shelf Go.Lib
def u64V (n : Nat) : Value := .int .u64 (n : Nat)
/-- A row of uints. -/
def USl (w : World) (g : Nat) (l : List Nat) : Prop := ∀ i, (h : i < l.length) → w.cell? ⟨g, i, none⟩ = some (.int .u64 (l[i] : Nat))
theorem USl.below {w w' : World} {g : Nat} {l : List Nat} {n : Nat} (h : USl w g l) (hb : Below n w w') (hg : g < n) : USl w' g l := fun i hi => (hb.cell (p := ⟨g, i, none⟩) hg).trans (h i hi)
theorem below_sort {α : Type} [Inhabited α] (enc : α → Value) (w : World) (g n : Nat) (d : Array α) (os : Array Obj) (base : Nat) (hb : base ≤ g) (hg : g < w.heap.size) : Below base w (sortWorld enc w g 0 n d os) := by
  refine ⟨rfl, rfl, rfl, ?_, ?_⟩
  · unfold sortWorld; rw [size_grow, size_putRow]; show w.heap.size ≤ w.heap.size + _; omega
  · intro k hk
    show ((putRow enc (Sort.ahead w n) g 0 d).heap ++ os)[k]? = _
    rw [Array.getElem?_append_left (by rw [size_putRow]; show k < w.heap.size; omega)]
    show (w.heap.modify g _)[k]? = _
    rw [Array.getElem?_modify, if_neg (by omega)]
def SortedAll (base g k : Nat) (w : World) (e : Ending) (w' : World) : Prop := e = .returned (.tuple #[]) ∧ Below base w w' ∧ USl w' g (Stab.bySize k) ∧ g < w'.heap.size
theorem b_sortAll (w : World) (base : Nat) (v : Value) (k : Nat) (hk : k ≤ 8) (h : w.ownsRow base 73 1 v (2 ^ k) ((List.range (2 ^ k)).map u64V)) :
    ∃ g cap, v = .slice (some ⟨g, 0, none⟩) (2 ^ k) cap ∧ base ≤ g ∧ Calls Try.prog 84 #[v, .func (.func 85) #[] #[]] w (SortedAll base g k w) := by
  obtain ⟨h1, h2⟩ := h
  have hp : 0 < 2 ^ k := Nat.pow_pos (by omega)
  have hp8 : 2 ^ k ≤ 2 ^ 8 := Nat.pow_le_pow_right (by omega) hk
  have e8 : (2 : Nat) ^ 8 = 256 := rfl
  rcases h2 with ⟨_, h0⟩ | ⟨g, cap, cur, rfl, hg, hh, hn, hc, hs, ht⟩
  · omega
  · refine ⟨g, cap, rfl, hg, ?_⟩
    have hB : Blk w g cur 73 := hh
    have hcur : ∀ j, j < 2 ^ k → cur[j]? = some (u64V j) := by
      intro j hj
      have : (cur.toList.take (2 ^ k * 1))[j]? = ((List.range (2 ^ k)).map u64V)[j]? := by rw [ht]
      rw [List.getElem?_take, if_pos (by omega), List.getElem?_map, List.getElem?_range hj] at this
      simpa using this
    have hsz : (Stab.to8 (List.range (2 ^ k))).toArray.size = 2 ^ k := by simp [Stab.to8]
    have hH : Holds enc8 w g 0 (Stab.to8 (List.range (2 ^ k))).toArray := by
      intro j hj
      rw [hsz] at hj
      refine ⟨?_, ?_⟩
      · rw [Nat.zero_add, hB.cell, hcur j hj]
        congr 1
        have : (Stab.to8 (List.range (2 ^ k))).toArray[j]! = Fin.ofNat 256 j := by
          rw [getElem!_pos _ j (by rw [hsz]; exact hj)]; simp [Stab.to8]
        rw [this]
        show Value.int .u64 (j : Nat) = Value.int .u64 ((Fin.ofNat 256 j).val : Nat)
        rw [Fin.val_ofNat, Nat.mod_eq_of_lt (by omega)]
      · rw [Nat.zero_add]; exact hB.free j
    have R : Row1 enc8 w g 0 (Stab.to8 (List.range (2 ^ k))).toArray := ⟨fun _ => rfl, hH, hB.lt⟩
    have eg : ∀ args w, (callFunc 85 args).run Try.prog w = .ok (.enter 85 args) w := fun args W => Try.call85 args W
    refine (sortStable_w enc8 cf8 85 #[] g 0 cap (2 ^ k) _ (Stab.to8 (List.range (2 ^ k))).toArray w w eg (cmp8 g 0 _ w) R hsz hsz (by omega) (SW.start hH)).mono ?_
    rintro e w' ⟨rfl, S⟩
    rw [Stab.stable_all k hk] at S
    have hH2 := S.holds hB.lt hH (by simp [Stab.to8, (Stab.bySize_all k hk).2.1])
    refine ⟨rfl, ?_, ?_, S.lt hB.lt⟩
    · obtain ⟨n, os, rfl⟩ := S
      exact below_sort enc8 w g n _ os base hg hB.lt
    · intro i hi
      have := (hH2 i (by simpa [Stab.to8] using hi)).1
      rw [Nat.zero_add] at this
      rw [this]
      congr 1
      have hb := List.all_eq_true.1 (Stab.bySize_all k hk).2.2 _ (List.getElem_mem hi)
      rw [Nat.blt_eq] at hb
      rw [getElem!_pos _ i (by simpa [Stab.to8] using hi)]
      show Value.int .u64 (((Stab.to8 (Stab.bySize k)).toArray[i]'(by simpa [Stab.to8] using hi)).val : Nat) = _
      simp only [Stab.to8, List.getElem_toArray, List.getElem_map, Fin.val_ofNat]
      rw [Nat.mod_eq_of_lt (by omega)]

set_option maxHeartbeats 1000000 in
set_option maxRecDepth 100000 in
theorem b_idx (F : FuncId) (cb : Array Value) (p : Nat → Bool) (l : List Nat) (g cap n : Nat) (r : Int) (w : World) (hl : l.length ≤ 256) (hx : ∀ x ∈ l, x < 256) (hn : n ≤ l.length) (hlo : ∀ j, (h : j < n) → p (l[j]'(by omega)) = false) (hhi : (h : n < l.length) → p l[n] = true) (hr1 : n < l.length → r = n) (hr2 : n = l.length → r = -1)
    (hcf : ∀ (args : Array Value) (W : World), (callFunc F args).run Try.prog W = .ok (.enter F args) W) (hU : USl w g l) (hg : g < w.heap.size)
    (HP : ∀ w' x, Below w.heap.size w w' → x < 256 → Calls Try.prog F (#[.int .u64 (x : Nat)] ++ cb) w' (Gives (.bool (p x)) w')) :
    Calls Try.prog 104 #[.slice (some ⟨g, 0, none⟩) l.length cap, .func (.func F) #[] cb] w (Gives (.int .i64 r) w) := by
  have HU := Lib.hid hU
  have HPP := Lib.hid HP
  have HX := Lib.hid hx
  have HLO := Lib.hid hlo
  have HHI := Lib.hid hhi
  have HR1 := Lib.hid hr1
  have HR2 := Lib.hid hr2
  clear hU HP hx hlo hhi hr1 hr2
  go_enter Try.func104, Try.ntmps104
  go_wp2_with fail
  go_loopw [8] (fun i wr => ∃ k : Nat, k ≤ n ∧ i = .int .i64 k ∧ Below w.heap.size w wr) (fun i _ => n + 1 - (intOf i).toNat)
  case atStart => exact ⟨0, by omega, rfl, Below.refl _ _⟩
  case round =>
    obtain ⟨k, hk, rfl, hbw⟩ := hrel
    by_cases hlt : k < l.length
    · have hlti : (k : Int) < (l.length : Int) := by omega
      have cu := (HU.out.below hbw hg) k hlt
      have HPk := Lib.hid (HPP.out wr (l[k]) hbw (HX.out _ (List.getElem_mem hlt)))
      obtain ⟨x, hxk⟩ : ∃ x, l[k] = x := ⟨_, rfl⟩
      by_cases hkn : k < n
      · have hpf := HLO.out k hkn
        rw [hpf] at HPk
        rw [hxk] at HPk cu
        clear hpf hxk
        go_wp2_with fail
        refine HPk.out.mono ?_
        rintro e w2 ⟨rfl, hb2⟩
        go_wp2_with fail
        exact ⟨⟨k + 1, by omega, by go_num, hbw.trans (hb2.mono hbw.size)⟩, by simp [intOf]; omega⟩
      · have e : k = n := by omega
        subst e
        have hpt := HHI.out hlt
        rw [hpt] at HPk
        rw [hxk] at HPk cu
        clear hpt hxk
        go_wp2_with fail
        refine HPk.out.mono ?_
        rintro e w2 ⟨rfl, hb2⟩
        go_wp2_with fail
        go_ret
        have e3 := HR1.out hlt
        subst e3
        exact ⟨rfl, hbw.trans (hb2.mono hbw.size)⟩
    · have hlti : ¬ (k : Int) < (l.length : Int) := by omega
      have e : k = n := by omega
      subst e
      have e2 : k = l.length := by omega
      have hr := HR2.out e2
      clear HR1 HR2 HLO HHI
      go_wp2_with fail
      go_ret
      subst hr
      exact ⟨rfl, hbw⟩
end Go.Proofs.Ytjbjmoghloabpaa
