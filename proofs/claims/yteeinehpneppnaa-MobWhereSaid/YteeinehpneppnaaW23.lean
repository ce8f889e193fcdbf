/- Parts of a proof: StabF, MoCA, MpS, OrdV. -/
import Derived.Test.YteeinehpneppnaaW22
import Derived.Test.YteeinehpneppnaaW14
import Derived.Test.YteeinehpneppnaaW18
import Derived.Test.YteeinehpneppnaaW02
/- slices' stable sort: blocks, then merges. (Printed by mkStab.py) -/
set_option linter.unusedVariables false
set_option linter.unusedSimpArgs false
namespace Go.Proofs.Yteeinehpneppnaa
open Go.RowKit Go.Proofs
open Go.Shelf Go.RowKit Go.Lib Go.Sort
variable {α : Type} [Inhabited α]

def SortPost (enc : α → Value) (w0 : World) (blk off : Nat) (d : Array α) (e : Ending) (w' : World) : Prop := e = .returned (.tuple #[]) ∧ SW enc w0 blk off d w'
theorem ins_size (lt : α → α → Bool) (a b : Nat) (d : Array α) : (Stab.ins (Stab.arrO α) lt d a b).size = d.size := by
  have hI : ∀ (j : Nat) (d : Array α), (Stab.insI (Stab.arrO α) lt a j d).size = d.size := by
    intro j; induction j with
    | zero => intro d; rfl
    | succ j ih => intro d; rw [Stab.insI]; split
                   · rw [ih]; exact size_swp _ _ _
                   · rfl
  have hO : ∀ (f i : Nat) (d : Array α), (Stab.insO (Stab.arrO α) lt a b f i d).size = d.size := by
    intro f; induction f with
    | zero => intro i d; rfl
    | succ f ih => intro i d; rw [Stab.insO]; split
                   · rw [ih, hI]
                   · rfl
  exact hO _ _ _
theorem blocks_size (lt : α → α → Bool) (n : Nat) : ∀ (f a : Nat) (d : Array α), (Stab.blocks (Stab.arrO α) lt n f a d).size = d.size
  | 0, _, _ => rfl
  | f + 1, a, d => by
    rw [Stab.blocks]; split
    · rw [blocks_size, ins_size]
    · rw [ins_size]
theorem pass_size (lt : α → α → Bool) (n bz : Nat) : ∀ (f a : Nat) (d : Array α), (Stab.pass (Stab.arrO α) lt n bz f a d).size = d.size
  | 0, _, _ => rfl
  | f + 1, a, d => by
    rw [Stab.pass]; split
    · rw [pass_size, Stab.sym_size]
    · split
      · rw [Stab.sym_size]
      · rfl
theorem passes_stop (lt : α → α → Bool) (n f bz : Nat) (d : Array α) (h : ¬ bz < n) : Stab.passes (Stab.arrO α) lt n f bz d = d := by
  cases f with
  | zero => rfl
  | succ f => rw [Stab.passes, if_neg h]
set_option maxHeartbeats 8000000 in
set_option maxRecDepth 100000 in
theorem stable_w (enc : α → Value) (cf : α → α → Int) (g : Nat) (cb : Array Value) (blk off cap L : Nat) (d0 d : Array α) (w0 w : World)
    (eg : ∀ args w, (callFunc g args).run Try.prog w = .ok (.enter g args) w) (hcmp : CmpLays1 Try.prog g cb enc cf blk off d0.size w0) (R : Row1 enc w0 blk off d0) (h0 : d0.size = L) (hs : d.size = L) (hL : L ≤ 256) (S : SW enc w0 blk off d w) :
    Calls Try.prog 98 #[.slice (some ⟨blk, off, none⟩) L cap, .int .i64 L, .func (.func g) #[] cb] w (SortPost enc w0 blk off (Stab.stable (Stab.arrO α) (ltOf cf) L d)) := by
  have mixed : Try.prog.follows Departure.mixedOrders = true := by kernel_rfl
  have hcl0 := R.hO.cells
  simp only [Value.cells] at hcl0
  have hst := R.hO.store Try.prog
  have HC : Aside _ := hcmp
  have S0 : Aside (SW enc w0 blk off d w) := S
  clear S
  clear hcmp
  have INS : Hid (∀ (dk : Array α) W, dk.size = L → SW enc w0 blk off dk W → ∀ (xi yi : Int) (x y : Nat), xi = x → yi = y → x ≤ y → y ≤ L → Calls Try.prog 111 #[.slice (some ⟨blk, off, none⟩) L cap, .int .i64 xi, .int .i64 yi, .func (.func g) #[] cb] W fun e w' => e = .returned (.tuple #[]) ∧ SW enc w0 blk off (Stab.ins (Stab.arrO α) (ltOf cf) dk x y) w') := by
    intro dk W hk S xi yi x y hx hy h1 h2
    subst hx; subst hy
    exact ins_w enc cf g cb blk off cap L d0 dk w0 W eg HC.out R h0 hk hL S x y h1 h2
  have SY := Lib.hid (sym_rec enc cf g cb blk off cap L d0 w0 eg HC.out R h0 hL)
  have HFIN : Hid (Stab.stable (Stab.arrO α) (ltOf cf) L d = Stab.passes (Stab.arrO α) (ltOf cf) L (L + 1) 20 (Stab.blocks (Stab.arrO α) (ltOf cf) L (L + 1) 0 d)) := rfl
  have hbs := blocks_size (ltOf cf) L (L + 1) 0 d
  rw [hs] at hbs
  generalize Stab.stable (Stab.arrO α) (ltOf cf) L d = FIN at *
  obtain ⟨BL, hBL⟩ : ∃ B, B = Stab.blocks (Stab.arrO α) (ltOf cf) L (L + 1) 0 d := ⟨_, rfl⟩
  rw [← hBL] at hbs HFIN
  have HBL : Hid (Stab.blocks (Stab.arrO α) (ltOf cf) L (L + 1) 0 d = BL) := hBL.symm
  clear hBL
  go_enter Try.func98, Try.ntmps98
  go_wp2
  go_loopg [7, 8] (L + 1) (fun g1 va vb wr => ∃ (a b : Nat) (dk : Array α), va = .int .i64 a ∧ vb = .int .i64 b ∧ a + 20 ≤ b ∧ b ≤ a + 20 ∧ a ≤ L ∧ L - a < g1 ∧ dk.size = L ∧ Aside (SW enc w0 blk off dk wr) ∧ Hid (Stab.blocks (Stab.arrO α) (ltOf cf) L g1 a dk = BL))
  case atStart => exact ⟨0, 20, d, rfl, rfl, by omega, by omega, by omega, by omega, hs, S0, HBL⟩
  case round =>
    clear S0 HBL
    obtain ⟨a, b, dk, rfl, rfl, hb1, hb2, ha, hg1, hsk, S1, HB⟩ := hrel
    obtain ⟨f1, rfl⟩ : ∃ f1, gk = f1 + 1 := ⟨gk - 1, by omega⟩
    by_cases hlt : b ≤ L
    · have hltz : (b : Int) ≤ (L : Int) := by omega
      have HB2 : Hid (Stab.blocks (Stab.arrO α) (ltOf cf) L f1 b (Stab.ins (Stab.arrO α) (ltOf cf) dk a b) = BL) := by
        show _ = _; have := HB.out; rw [Stab.blocks, if_pos (by omega)] at this; rwa [show a + 20 = b by omega] at this
      have hs2 := ins_size (ltOf cf) a b dk
      clear HB
      go_wp2_with fail
      refine (INS.out dk _ hsk S1.out _ _ a b (by omega) (by omega) (by omega) (by omega)).mono ?_
      rintro e w2 ⟨rfl, S2⟩
      have S2 := (show Aside _ from S2)
      go_wp2_with fail
      go_roundg f1
      case measure => omega
      case rel => exact ⟨b, b + 20, _, by go_num, by go_num, by omega, by omega, by omega, by omega, by rw [hs2]; exact hsk, S2, HB2⟩
    · have hltz : ¬ (b : Int) ≤ (L : Int) := by omega
      have HB2 : Hid (Stab.ins (Stab.arrO α) (ltOf cf) dk a L = BL) := by
        show _ = _; have := HB.out; rwa [Stab.blocks, if_neg (by omega)] at this
      clear HB
      go_wp2_with fail
      refine (INS.out dk _ hsk S1.out _ _ a L (by omega) (by omega) (by omega) (by omega)).mono ?_
      rintro e w2 ⟨rfl, S2⟩
      rw [HB2.out] at S2
      have S2 := (show Aside _ from S2)
      clear HB2 S1 hsk
      go_wp2_with fail
      go_loopg [6] (L + 1) (fun g1 vz wr => ∃ (bz : Nat) (dk : Array α), vz = .int .i64 bz ∧ 20 ≤ bz ∧ L < bz + g1 ∧ bz ≤ 2 * L + 20 ∧ dk.size = L ∧ Aside (SW enc w0 blk off dk wr) ∧ Hid (Stab.passes (Stab.arrO α) (ltOf cf) L g1 bz dk = FIN))
      case atStart => exact ⟨20, BL, rfl, by omega, by omega, by omega, hbs, S2, (show _ = _ from HFIN.out.symm)⟩
      case round =>
        clear S2 HFIN hbs
        obtain ⟨bz, dk, rfl, hz1, hz2, hz3, hsk, S1, HB⟩ := hrel
        by_cases hlt : bz < L
        · have hltz : (bz : Int) < (L : Int) := by omega
          obtain ⟨f1, rfl⟩ : ∃ f1, gk = f1 + 1 := ⟨gk - 1, by omega⟩
          obtain ⟨PS, hPS⟩ : ∃ B, B = Stab.pass (Stab.arrO α) (ltOf cf) L bz (L + 1) 0 dk := ⟨_, rfl⟩
          have HB2 : Hid (Stab.passes (Stab.arrO α) (ltOf cf) L f1 (2 * bz) PS = FIN) := by
            show _ = _; have := HB.out; rwa [Stab.passes, if_pos hlt, ← hPS] at this
          have hps := pass_size (ltOf cf) L bz (L + 1) 0 dk
          rw [← hPS, hsk] at hps
          have HPS : Hid (Stab.pass (Stab.arrO α) (ltOf cf) L bz (L + 1) 0 dk = PS) := hPS.symm
          clear hPS HB
          go_wp2_with fail
          go_loopg [7, 8] (L + 1) (fun g1 va vb wr => ∃ (a b : Nat) (dk : Array α), va = .int .i64 a ∧ vb = .int .i64 b ∧ a + 2 * bz ≤ b ∧ b ≤ a + 2 * bz ∧ a ≤ L ∧ L - a < g1 ∧ dk.size = L ∧ Aside (SW enc w0 blk off dk wr) ∧ Hid (Stab.pass (Stab.arrO α) (ltOf cf) L bz g1 a dk = PS))
          case atStart => exact ⟨0, 2 * bz, dk, rfl, by go_num, by omega, by omega, by omega, by omega, hsk, S1, HPS⟩
          case round =>
            clear S1 HPS hsk
            clear dk
            obtain ⟨a, b, dk, rfl, rfl, hb1, hb2, ha, hg1, hsk, S1, HB⟩ := hrel
            obtain ⟨f2, rfl⟩ : ∃ f2, gk = f2 + 1 := ⟨gk - 1, by omega⟩
            by_cases hlt2 : b ≤ L
            · have hltz2 : (b : Int) ≤ (L : Int) := by omega
              have HB3 : Hid (Stab.pass (Stab.arrO α) (ltOf cf) L bz f2 b (Stab.sym (Stab.arrO α) (ltOf cf) (2 * bz) a (a + bz) b dk) = PS) := by
                show _ = _; have := HB.out; rw [Stab.pass, if_pos (by omega)] at this; rwa [show a + 2 * bz = b by omega] at this
              have hs2 := Stab.sym_size (ltOf cf) (2 * bz) a (a + bz) b dk
              clear HB
              go_wp2_with fail
              refine (SY.out (2 * bz) dk _ hsk S1.out _ _ _ a (a + bz) b (by omega) (by omega) (by omega) (by omega) (by omega) (by omega) (by omega)).mono ?_
              rintro e w3 ⟨rfl, S3⟩
              have S3 := (show Aside _ from S3)
              go_wp2_with fail
              go_roundg f2
              case measure => omega
              case rel => exact ⟨b, b + 2 * bz, _, by go_num, by go_num, by omega, by omega, by omega, by omega, by rw [hs2]; exact hsk, S3, HB3⟩
            · have hltz2 : ¬ (b : Int) ≤ (L : Int) := by omega
              by_cases hm : a + bz < L
              · have hmz : (a : Int) + (bz : Int) < (L : Int) := by omega
                have HB3 : Hid (Stab.sym (Stab.arrO α) (ltOf cf) (L - a) a (a + bz) L dk = PS) := by
                  show _ = _; have := HB.out; rwa [Stab.pass, if_neg (by omega), if_pos hm] at this
                clear HB
                go_wp2_with fail
                refine (SY.out (L - a) dk _ hsk S1.out _ _ _ a (a + bz) L (by omega) (by omega) (by omega) (by omega) (by omega) (by omega) (by omega)).mono ?_
                rintro e w3 ⟨rfl, S3⟩
                rw [HB3.out] at S3
                have S3 := (show Aside _ from S3)
                go_wp2_with fail
                go_roundg f1
                case measure => omega
                case rel => exact ⟨2 * bz, PS, by first | go_num | (congr 1; omega), by omega, by omega, by omega, hps, S3, HB2⟩
              · have hmz : ¬ (a : Int) + (bz : Int) < (L : Int) := by omega
                have HB3 : dk = PS := by
                  have := HB.out; rwa [Stab.pass, if_neg (by omega), if_neg hm] at this
                subst HB3
                clear HB
                go_wp2_with fail
                go_roundg f1
                case measure => omega
                case rel => exact ⟨2 * bz, dk, by first | go_num | (congr 1; omega), by omega, by omega, by omega, hps, S1, HB2⟩
        · have hltz : ¬ (bz : Int) < (L : Int) := by omega
          go_wp2_with fail
          go_end0
          exact ⟨rfl, by rw [← HB.out, passes_stop _ _ _ _ _ hlt]; exact S1.out⟩
theorem sortStable_w (enc : α → Value) (cf : α → α → Int) (g : Nat) (cb : Array Value) (blk off cap L : Nat) (d0 d : Array α) (w0 w : World)
    (eg : ∀ args w, (callFunc g args).run Try.prog w = .ok (.enter g args) w) (hcmp : CmpLays1 Try.prog g cb enc cf blk off d0.size w0) (R : Row1 enc w0 blk off d0) (h0 : d0.size = L) (hs : d.size = L) (hL : L ≤ 256) (S : SW enc w0 blk off d w) :
    Calls Try.prog 62 #[.slice (some ⟨blk, off, none⟩) L cap, .func (.func g) #[] cb] w (SortPost enc w0 blk off (Stab.stable (Stab.arrO α) (ltOf cf) L d)) := by
  have H := Lib.hid (stable_w enc cf g cb blk off cap L d0 d w0 w eg hcmp R h0 hs hL S)
  clear hcmp R h0 hs S
  go_enter Try.func62, Try.ntmps62
  go_wp2_with (go_at_call 98; refine H.out.mono ?_; rintro e w' ⟨rfl, S⟩)
  go_end0
  exact ⟨rfl, S⟩
end Go.Proofs.Yteeinehpneppnaa
/- How many bits are set: math/bits.OnesCount; the comparison that Clash sorts by; what the sorted row holds. -/
set_option linter.unusedVariables false
set_option linter.unusedSimpArgs false
namespace Go.Proofs.Yteeinehpneppnaa
open Go.RowKit Go.Proofs
attribute [local irreducible] Ord.walk
open Go.Sort Go.Shelf Go.Lib
theorem b_ones64 (x : Nat) (hx : x < 256) (w : World) :
    Calls Try.prog 100 #[.int .u64 x] w (Same (.int .i64 (Stab.pop x : Nat)) w) := by
  have h0 : (0 : Int) ≤ (x : Int) := by omega
  have h1 : (x : Int) ≤ 255 := by omega
  go_enter Try.func100, Try.ntmps100
  go_wp2
  go_ret
  refine ⟨ret_int ?_, rfl⟩
  clear h0 h1
  revert hx
  revert x
  decide +kernel
theorem b_ones (x : Nat) (hx : x < 256) (w : World) :
    Calls Try.prog 64 #[.int .u64 x] w (Same (.int .i64 (Stab.pop x : Nat)) w) := by
  have H := Lib.hid (fun W => b_ones64 x hx W)
  generalize Stab.pop x = p at *
  go_enter Try.func64, Try.ntmps64
  go_wp2_with (go_at_call 100; refine (H.out _).mono ?_; rintro e w' ⟨rfl, rfl⟩)
  go_ret
  exact ⟨rfl, rfl⟩
theorem pop_le (x : Nat) : Stab.pop x ≤ 8 := by unfold Stab.pop; omega
theorem b_cmp (x y : Nat) (hx : x < 256) (hy : y < 256) (w : World) :
    Calls Try.prog 63 #[.int .u64 x, .int .u64 y] w (Same (.int .i64 ((Stab.pop x : Int) - (Stab.pop y : Int))) w) := by
  have H : Hid (∀ z W, z < 256 → Calls Try.prog 64 #[.int .u64 (z : Nat)] W (Same (.int .i64 (Stab.pop z : Nat)) W)) := fun z W hz => b_ones z hz W
  have p1 := pop_le x
  have p2 := pop_le y
  go_enter Try.func63, Try.ntmps63
  go_wp2_with (go_at_call 64; refine (H.out _ _ (by assumption)).mono ?_; rintro e w' ⟨rfl, rfl⟩)
  go_ret
  exact ⟨rfl, rfl⟩

def enc8 (x : Fin 256) : Value := .int .u64 (x.val : Nat)
def cf8 (x y : Fin 256) : Int := (Stab.pop x.val : Int) - (Stab.pop y.val : Int)
theorem cmp8 (blk off size : Nat) (w : World) : CmpLays1 Try.prog 63 #[] enc8 cf8 blk off size w := by
  intro m os dk _ x y
  refine (b_cmp x.val y.val x.isLt y.isLt _).mono ?_
  rintro e w' ⟨rfl, rfl⟩
  exact ⟨rfl, 0, #[], by rw [grow_empty]; rfl⟩
theorem lt8 (x y : Fin 256) : ltOf cf8 x y = Stab.ltp x.val y.val := by
  unfold ltOf cf8 Stab.ltp
  rw [Bool.eq_iff_iff, decide_eq_true_iff, Nat.blt_eq]
  omega
namespace Stab
def to8 (l : List Nat) : List (Fin 256) := l.map (Fin.ofNat 256)
theorem coded_inj (l m : List (Fin 256)) (hl : l.length = m.length) (h : coded l = coded m) : l = m := by
  apply List.ext_getElem hl
  intro i h1 h2
  have a := coded_get l i
  have b := coded_get m i
  rw [h] at a
  rw [List.getElem?_eq_getElem h1, Option.getD_some] at a
  rw [List.getElem?_eq_getElem h2, Option.getD_some] at b
  exact Fin.ext (a.symm.trans b)
set_option maxRecDepth 100000 in
theorem bySize_all : ∀ k, k ≤ 8 → Stab.stable (natO (2 ^ k)) ltp (2 ^ k) (coded (to8 (List.range (2 ^ k)))) = coded (to8 (bySize k)) ∧ (bySize k).length = 2 ^ k ∧ (bySize k).all (fun x => Nat.blt x (2 ^ k)) = true := by
  intro k hk
  rcases (show k = 0 ∨ k = 1 ∨ k = 2 ∨ k = 3 ∨ k = 4 ∨ k = 5 ∨ k = 6 ∨ k = 7 ∨ k = 8 by omega) with rfl | rfl | rfl | rfl | rfl | rfl | rfl | rfl | rfl <;> decide +kernel
theorem stable_all (k : Nat) (hk : k ≤ 8) : Stab.stable (arrO (Fin 256)) (ltOf cf8) (2 ^ k) (to8 (List.range (2 ^ k))).toArray = (to8 (bySize k)).toArray := by
  obtain ⟨h1, h2, _⟩ := bySize_all k hk
  have hs := (sim_nat (2 ^ k) (ltOf cf8) ltp lt8).stable (2 ^ k) (s := (to8 (List.range (2 ^ k))).toArray) (t := coded (to8 (List.range (2 ^ k)))) ⟨by simp [to8], rfl⟩
  obtain ⟨h3, h4⟩ := hs
  rw [h1] at h4
  have := coded_inj _ _ (by rw [Array.length_toList, h3]; simp [to8, h2]) h4
  apply Array.toList_inj.1
  exact this
end Stab
def u64V (n : Nat) : Value := .int .u64 (n : Nat)
/-- A row of uints. -/
def USl (w : World) (g : Nat) (l : List Nat) : Prop := ∀ i, (h : i < l.length) → w.cell? ⟨g, i, none⟩ = some (.int .u64 (l[i] : Nat))
theorem USl.below {w w' : World} {g : Nat} {l : List Nat} {n : Nat} (h : USl w g l) (hb : Below n w w') (hg : g < n) : USl w' g l := fun i hi => (hb.cell (p := ⟨g, i, none⟩) hg).trans (h i hi)
theorem below_sort {α : Type} [Inhabited α] (enc : α → Value) (w : World) (g n : Nat) (d : Array α) (os : Array Obj) (base : Nat) (hb : base ≤ g) (hg : g < w.heap.size) : Below base w (sortWorld enc w g 0 n d os) := by
  refine ⟨rfl, rfl, rfl, ?_, ?_⟩
  · unfold sortWorld; rw [size_grow, size_putRow]; show w.heap.size ≤ w.heap.size + _; omega
  · intro k hk
    show ((putRow enc (Sort.ahead w n) g 0 d).heap ++ os)[k]? = _
    rw [Array.getElem?_append_left (by rw [size_putRow]; show k < w.heap.size; omega)]
    show (w.heap.modify g _)[k]? = _
    rw [Array.getElem?_modify, if_neg (by omega)]
def SortedAll (g k : Nat) (w : World) (e : Ending) (w' : World) : Prop := e = .returned (.tuple #[]) ∧ Below g w w' ∧ USl w' g (Stab.bySize k) ∧ g < w'.heap.size
theorem m_sortAll (w : World) (k g cap : Nat) (cur : Array Value) (hk : k ≤ 8) (hB : Blk w g cur 87) (hcur : ∀ j, j < 2 ^ k → cur[j]? = some (u64V j)) :
    Calls Try.prog 62 #[.slice (some ⟨g, 0, none⟩) (2 ^ k : Nat) cap, .func (.func 63) #[] #[]] w (SortedAll g k w) := by
  have hp : 0 < 2 ^ k := Nat.pow_pos (by omega)
  have hp8 : 2 ^ k ≤ 2 ^ 8 := Nat.pow_le_pow_right (by omega) hk
  have e8 : (2 : Nat) ^ 8 = 256 := rfl
  have hsz : (Stab.to8 (List.range (2 ^ k))).toArray.size = 2 ^ k := by simp [Stab.to8]
  have hH : Holds enc8 w g 0 (Stab.to8 (List.range (2 ^ k))).toArray := by
    intro j hj
    rw [hsz] at hj
    refine ⟨?_, ?_⟩
    · rw [Nat.zero_add, hB.cell, hcur j hj]
      congr 1
      have : (Stab.to8 (List.range (2 ^ k))).toArray[j]! = Fin.ofNat 256 j := by
        rw [getElem!_pos _ j (by rw [hsz]; exact hj)]; simp [Stab.to8]
      rw [this]
      show Value.int .u64 (j : Nat) = Value.int .u64 ((Fin.ofNat 256 j).val : Nat)
      rw [Fin.val_ofNat, Nat.mod_eq_of_lt (by omega)]
    · rw [Nat.zero_add]; exact hB.free j
  have R : Row1 enc8 w g 0 (Stab.to8 (List.range (2 ^ k))).toArray := ⟨fun _ => rfl, hH, hB.lt⟩
  have eg : ∀ args w, (callFunc 63 args).run Try.prog w = .ok (.enter 63 args) w := fun args W => Try.call63 args W
  refine (sortStable_w enc8 cf8 63 #[] g 0 cap (2 ^ k) _ (Stab.to8 (List.range (2 ^ k))).toArray w w eg (cmp8 g 0 _ w) R hsz hsz (by omega) (SW.start hH)).mono ?_
  rintro e w' ⟨rfl, S⟩
  rw [Stab.stable_all k hk] at S
  have hH2 := S.holds hB.lt hH (by simp [Stab.to8, (Stab.bySize_all k hk).2.1])
  refine ⟨rfl, ?_, ?_, S.lt hB.lt⟩
  · obtain ⟨n, os, rfl⟩ := S
    exact below_sort enc8 w g n _ os g (Nat.le_refl _) hB.lt
  · intro i hi
    have := (hH2 i (by simpa [Stab.to8] using hi)).1
    rw [Nat.zero_add] at this
    rw [this]
    congr 1
    have hb := List.all_eq_true.1 (Stab.bySize_all k hk).2.2 _ (List.getElem_mem hi)
    rw [Nat.blt_eq] at hb
    rw [getElem!_pos _ i (by simpa [Stab.to8] using hi)]
    show Value.int .u64 (((Stab.to8 (Stab.bySize k)).toArray[i]'(by simpa [Stab.to8] using hi)).val : Nat) = _
    simp only [Stab.to8, List.getElem_toArray, List.getElem_map, Fin.val_ofNat]
    rw [Nat.mod_eq_of_lt (by omega)]

set_option maxHeartbeats 1000000 in
set_option maxRecDepth 100000 in
theorem m_idx (F : FuncId) (cb : Array Value) (p : Nat → Bool) (l : List Nat) (g cap n : Nat) (r : Int) (w : World) (hl : l.length ≤ 256) (hx : ∀ x ∈ l, x < 256) (hn : n ≤ l.length) (hlo : ∀ j, (h : j < n) → p (l[j]'(by omega)) = false) (hhi : (h : n < l.length) → p l[n] = true) (hr1 : n < l.length → r = n) (hr2 : n = l.length → r = -1)
    (hcf : ∀ (args : Array Value) (W : World), (callFunc F args).run Try.prog W = .ok (.enter F args) W) (hU : USl w g l) (hg : g < w.heap.size)
    (W0 : World) (mb : Nat) (m : Mb) (hmb : mb < W0.heap.size) (hW : Way W0 mb m w) (hgb : W0.heap.size ≤ g)
    (HP : ∀ w' x, Way W0 mb m w' → Lets (fun j _ => j = mb) w w' → x < 256 → Calls Try.prog F (#[.int .u64 (x : Nat)] ++ cb) w' (GivesW W0 mb m (.bool (p x)) w')) :
    Calls Try.prog 65 #[.slice (some ⟨g, 0, none⟩) l.length cap, .func (.func F) #[] cb] w (GivesW W0 mb m (.int .i64 r) w) := by
  have HU := Lib.hid hU
  have HPP := Lib.hid HP
  have HX := Lib.hid hx
  have HLO := Lib.hid hlo
  have HHI := Lib.hid hhi
  have HR1 := Lib.hid hr1
  have HR2 := Lib.hid hr2
  have hlU : ∀ w', Lets (fun j _ => j = mb) w w' → USl w' g l := fun w' hl i hi => hl.cell (hU i hi) (fun e => by simp only at e; omega)
  have HLU := Lib.hid hlU
  clear hU HP hx hlo hhi hr1 hr2 hlU
  go_enter Try.func65, Try.ntmps65
  go_wp2_with fail
  go_loopw [8] (fun i wr => ∃ k : Nat, k ≤ n ∧ i = .int .i64 k ∧ Way W0 mb m wr ∧ Lets (fun j _ => j = mb) w wr) (fun i _ => n + 1 - (intOf i).toNat)
  case atStart => exact ⟨0, by omega, rfl, hW, Lets.refl _ _⟩
  case round =>
    obtain ⟨k, hk, rfl, hWw, hbw⟩ := hrel
    by_cases hlt : k < l.length
    · have hlti : (k : Int) < (l.length : Int) := by omega
      have cu := HLU.out wr hbw k hlt
      have HPk := Lib.hid (HPP.out wr (l[k]) hWw hbw (HX.out _ (List.getElem_mem hlt)))
      obtain ⟨x, hxk⟩ : ∃ x, l[k] = x := ⟨_, rfl⟩
      by_cases hkn : k < n
      · have hpf := HLO.out k hkn
        rw [hpf] at HPk
        rw [hxk] at HPk cu
        clear hpf hxk
        go_wp2_with fail
        refine HPk.out.mono ?_
        rintro e w2 ⟨rfl, hW2, hb2⟩
        go_wp2_with fail
        exact ⟨⟨k + 1, by omega, by go_num, hW2, hbw.trans hb2⟩, by simp [intOf]; omega⟩
      · have e : k = n := by omega
        subst e
        have hpt := HHI.out hlt
        rw [hpt] at HPk
        rw [hxk] at HPk cu
        clear hpt hxk
        go_wp2_with fail
        refine HPk.out.mono ?_
        rintro e w2 ⟨rfl, hW2, hb2⟩
        go_wp2_with fail
        go_ret
        have e3 := HR1.out hlt
        subst e3
        exact ⟨rfl, hW2, hbw.trans hb2⟩
    · have hlti : ¬ (k : Int) < (l.length : Int) := by omega
      have e : k = n := by omega
      subst e
      have e2 : k = l.length := by omega
      have hr := HR2.out e2
      clear HR1 HR2 HLO HHI
      go_wp2_with fail
      go_ret
      subst hr
      exact ⟨rfl, hWw, hbw⟩

set_option maxHeartbeats 4000000 in
set_option maxRecDepth 100000 in
theorem m_clash3 {m : Mb} {A : Ma} {pa : Option Addr} {pc wp mb : Nat} {W0 : World} (hv : validM m = true) (hO : Opened W0 wp m A pa pc mb) (p4 : Nat) (x : Nat) (hx : x < 256) (w : World) (hW : Way W0 mb m w) (hp : w.cell? ⟨p4, 0, none⟩ = some (.pointer (some ⟨wp, 0, none⟩))) :
    Calls Try.prog 66 #[.int .u64 (x : Nat), .pointer (some ⟨p4, 0, none⟩)] w (GivesW W0 mb m (.bool (!canM m x)) w) := by
  have HC := Lib.hid (fun w' (hW : Way W0 mb m w') => m_can hv hO x (by omega) w' hW)
  generalize canM m x = c at *
  go_enter Try.func66, Try.ntmps66
  go_wp2_with (first
    | (go_at_call 67; refine (HC.out _ hW).mono ?_; rintro e w1 ⟨rfl, hW1, hl1⟩))
  go_ret
  exact ⟨rfl, hW1, hl1⟩
end Go.Proofs.Yteeinehpneppnaa
/- Plain laws: the sets by their sizes. (Printed by mkMpS.py) -/
set_option linter.unusedVariables false
set_option linter.unusedSimpArgs false
namespace Go.Proofs.Yteeinehpneppnaa
open Go.RowKit Go.Proofs
attribute [local irreducible] Ord.walk
def bestF (f : Nat → Bool) (b : Nat) : Nat → Nat
  | 0 => b
  | k + 1 => if sz k < sz (bestF f b k) ∧ f k = true then k else bestF f b k
/- The sets by their sizes. -/
theorem sz_pop : ∀ x, x < 256 → sz x = Stab.pop x := by decide +kernel
set_option maxRecDepth 100000 in
theorem pop_pow : ∀ k, k ≤ 8 → (List.range (2 ^ k)).all (fun x => Nat.ble (Stab.pop x) k && (Nat.beq x (2 ^ k - 1) || Nat.blt (Stab.pop x) k)) = true := by
  intro k hk
  rcases (show k = 0 ∨ k = 1 ∨ k = 2 ∨ k = 3 ∨ k = 4 ∨ k = 5 ∨ k = 6 ∨ k = 7 ∨ k = 8 by omega) with rfl | rfl | rfl | rfl | rfl | rfl | rfl | rfl | rfl <;> decide +kernel
theorem pop_le_k {k x : Nat} (hk : k ≤ 8) (hx : x < 2 ^ k) : Stab.pop x ≤ k := by
  have := List.all_eq_true.1 (pop_pow k hk) x (List.mem_range.2 hx)
  rw [Bool.and_eq_true, Nat.ble_eq] at this
  exact this.1
theorem pop_lt_k {k x : Nat} (hk : k ≤ 8) (hx : x < 2 ^ k) (hne : x ≠ 2 ^ k - 1) : Stab.pop x < k := by
  have := List.all_eq_true.1 (pop_pow k hk) x (List.mem_range.2 hx)
  simp only [Bool.and_eq_true, Bool.or_eq_true, Nat.ble_eq, Nat.beq_eq, Nat.blt_eq] at this
  rcases this.2 with h | h
  · exact absurd h hne
  · exact h
theorem mem_bySize {k x : Nat} (hk : k ≤ 8) : x ∈ Stab.bySize k ↔ x < 2 ^ k := by
  unfold Stab.bySize
  simp only [List.mem_flatMap, List.mem_filter, List.mem_range, beq_iff_eq]
  constructor
  · rintro ⟨s, _, h, _⟩; exact h
  · intro h; exact ⟨Stab.pop x, by have := pop_le_k hk h; omega, h, rfl⟩
theorem bySize_pair (k : Nat) : (Stab.bySize k).Pairwise fun x y => Stab.pop x < Stab.pop y ∨ (Stab.pop x = Stab.pop y ∧ x < y) := by
  unfold Stab.bySize
  rw [List.pairwise_flatMap]
  refine ⟨fun s _ => ?_, ?_⟩
  · refine List.Pairwise.imp_of_mem ?_ (List.Pairwise.filter _ List.pairwise_lt_range)
    intro x y hx hy h
    have h1 := (List.mem_filter.1 hx).2
    have h2 := (List.mem_filter.1 hy).2
    simp only [beq_iff_eq] at h1 h2
    right; omega
  · refine List.Pairwise.imp ?_ List.pairwise_lt_range
    intro s t hst x hx y hy
    have h1 := (List.mem_filter.1 hx).2
    have h2 := (List.mem_filter.1 hy).2
    simp only [beq_iff_eq] at h1 h2
    left; omega
/-- The first of a row that is sorted is the least. -/
theorem find_least {l : List Nat} {R : Nat → Nat → Prop} (hl : l.Pairwise R) {p : Nat → Bool} {y : Nat} (hy : y ∈ l) (hp : p y = true) (hm : ∀ x, R x y → p x = false) : l.find? p = some y := by
  induction l with
  | nil => simp at hy
  | cons a l ih =>
    rw [List.pairwise_cons] at hl
    rcases List.mem_cons.1 hy with rfl | hy
    · simp [hp]
    · rw [List.find?_cons, hm a (hl.1 y hy)]
      exact ih hl.2 hy
theorem bestF_prop (f : Nat → Bool) (K : Nat) (hK : K ≤ 8) (hf : f (2 ^ K - 1) = true) : ∀ k, k ≤ 2 ^ K →
    f (bestF f (2 ^ K - 1) k) = true ∧ bestF f (2 ^ K - 1) k < 2 ^ K ∧ ∀ x, x < k → f x = true → sz (bestF f (2 ^ K - 1) k) < sz x ∨ (sz (bestF f (2 ^ K - 1) k) = sz x ∧ bestF f (2 ^ K - 1) k ≤ x) := by
  have hp8 : 2 ^ K ≤ 2 ^ 8 := Nat.pow_le_pow_right (by omega) hK
  have e8 : (2 : Nat) ^ 8 = 256 := rfl
  have hp0 : 0 < 2 ^ K := Nat.two_pow_pos K
  intro k
  induction k with
  | zero => intro _; exact ⟨hf, by show 2 ^ K - 1 < 2 ^ K; omega, fun x hx => absurd hx (by omega)⟩
  | succ k ih =>
    intro hk
    obtain ⟨h1, h2, h3⟩ := ih (by omega)
    rw [bestF]
    by_cases hc : sz k < sz (bestF f (2 ^ K - 1) k) ∧ f k = true
    · rw [if_pos hc]
      refine ⟨hc.2, by omega, fun x hx hfx => ?_⟩
      rcases Nat.lt_or_ge x k with h | h
      · rcases h3 x h hfx with h | ⟨h, _⟩ <;> left <;> omega
      · right
        have : x = k := by omega
        subst this; exact ⟨rfl, Nat.le_refl _⟩
    · rw [if_neg hc]
      refine ⟨h1, h2, fun x hx hfx => ?_⟩
      rcases Nat.lt_or_ge x k with h | h
      · exact h3 x h hfx
      · have : x = k := by omega
        subst this
        have hn : ¬ sz x < sz (bestF f (2 ^ K - 1) x) := fun h => hc ⟨h, hfx⟩
        rcases Nat.lt_or_ge (sz (bestF f (2 ^ K - 1) x)) (sz x) with h | h
        · exact .inl h
        · have he : sz (bestF f (2 ^ K - 1) x) = sz x := by omega
          -- the best so far is either below x, or all there are
          right
          refine ⟨he, ?_⟩
          rcases Nat.lt_or_ge x (bestF f (2 ^ K - 1) x) with h' | h'
          · exfalso
            -- then it is all there are
            have hall : ∀ j, j ≤ x → bestF f (2 ^ K - 1) j = 2 ^ K - 1 ∨ bestF f (2 ^ K - 1) j < j := by
              intro j
              induction j with
              | zero => intro _; left; rfl
              | succ j ihj =>
                intro hj
                rw [bestF]
                split
                · right; omega
                · rcases ihj (by omega) with h | h
                  · left; exact h
                  · right; omega
            rcases hall x (Nat.le_refl _) with h4 | h4
            · rw [h4] at he h'
              have := pop_lt_k hK (show x < 2 ^ K by omega) (by omega)
              have h5 := pop_le_k hK (show 2 ^ K - 1 < 2 ^ K by omega)
              rw [sz_pop _ (by omega), sz_pop _ (by omega)] at he
              have h6 : Stab.pop (2 ^ K - 1) = K := by
                clear h1 h2 h3 hc hn he h' h4 this h5 ih hk hfx hx h hall
                rcases (show K = 0 ∨ K = 1 ∨ K = 2 ∨ K = 3 ∨ K = 4 ∨ K = 5 ∨ K = 6 ∨ K = 7 ∨ K = 8 by omega) with rfl | rfl | rfl | rfl | rfl | rfl | rfl | rfl | rfl <;> decide
              omega
            · omega
          · exact h'
theorem clash_find (f : Nat → Bool) (K : Nat) (hK : K ≤ 8) (hf : f (2 ^ K - 1) = true) : (Stab.bySize K).find? f = some (bestF f (2 ^ K - 1) (2 ^ K)) := by
  have hp8 : 2 ^ K ≤ 2 ^ 8 := Nat.pow_le_pow_right (by omega) hK
  have e8 : (2 : Nat) ^ 8 = 256 := rfl
  obtain ⟨h1, h2, h3⟩ := bestF_prop f K hK hf (2 ^ K) (Nat.le_refl _)
  refine find_least (R := fun x y => x < 2 ^ K ∧ (Stab.pop x < Stab.pop y ∨ (Stab.pop x = Stab.pop y ∧ x < y))) ?_ ((mem_bySize hK).2 h2) h1 ?_
  · exact List.Pairwise.imp_of_mem (fun hx _ h => ⟨(mem_bySize hK).1 hx, h⟩) (bySize_pair K)
  · rintro x ⟨hx, h⟩
    cases hfx : f x
    · rfl
    · exfalso
      have := h3 x hx hfx
      rw [sz_pop _ (by omega), sz_pop _ (by omega)] at this
      omega
end Go.Proofs.Yteeinehpneppnaa
/- Drawn regions by an invariant: what holds whichever operations have come up. -/
set_option linter.unusedVariables false
set_option linter.unusedSimpArgs false
namespace Go.Ord
variable {P : Program} {ops : Array Oper} {Q : Exit → Act → World → Prop}
/-- One more operation has come up. -/
def upd (ls : Nat → Bool) (i : Nat) : Nat → Bool := fun j => j == i || ls j
def unl (n : Nat) (listed : Array Bool) : Nat := ((List.range n).filter fun i => !listed.getD i false).length
theorem upd_set {listed : Array Bool} {i : Nat} (hi : i < listed.size) : (fun j => (listed.setIfInBounds i true).getD j false) = upd (fun j => listed.getD j false) i := by
  funext j
  unfold upd
  by_cases h : j = i
  · subst h; simp [hi]
  · rw [getD_set_ne false (Ne.symm h)]; simp [h]
theorem unl_set {n : Nat} {listed : Array Bool} {i : Nat} (hn : i < n) (hi : i < listed.size) (h : listed.getD i false = false) : unl n (listed.setIfInBounds i true) + 1 ≤ unl n listed := by
  unfold unl
  have key : ∀ l : List Nat, l.Nodup → i ∈ l → (l.filter fun j => !(listed.setIfInBounds i true).getD j false).length + 1 ≤ (l.filter fun j => !listed.getD j false).length := by
    intro l
    induction l with
    | nil => intro _ h; cases h
    | cons x l ih =>
      intro hnd hm
      have hx := List.nodup_cons.1 hnd
      by_cases hxi : x = i
      · subst hxi
        have e1 : (listed.setIfInBounds x true).getD x false = true := by simp [hi]
        have e2 : (l.filter fun j => !(listed.setIfInBounds x true).getD j false) = (l.filter fun j => !listed.getD j false) := by
          apply List.filter_congr
          intro j hj
          rw [getD_set_ne false (show x ≠ j from fun e => hx.1 (e ▸ hj))]
        rw [List.filter_cons, List.filter_cons, e1, h, e2]
        simp
      · have hm2 : i ∈ l := by
          rcases List.mem_cons.1 hm with h | h
          · exact absurd h.symm hxi
          · exact h
        have ih2 := ih hx.2 hm2
        have e1 : (listed.setIfInBounds i true).getD x false = listed.getD x false := getD_set_ne false (Ne.symm hxi)
        rw [List.filter_cons, List.filter_cons, e1]
        split
        · simp only [List.length_cons]; omega
        · exact ih2
  exact key _ List.nodup_range (List.mem_range.2 hn)
theorem wpOp_mono' {i : Nat} {K K' : Act → World → Prop} {a : Act} {w : World} (h : ∀ a w, K a w → K' a w) (hh : wpOp P ops Q i K a w) : wpOp P ops Q i K' a w := by
  unfold wpOp at *
  cases ho : ops[i]? with
  | none => simp only [ho] at hh ⊢; exact h _ _ hh
  | some o =>
    simp only [ho] at hh ⊢
    split
    · rename_i hw
      simp only [hw, if_true] at hh
      exact hh.imp (Oper.wp_mono h) id
    · rename_i hw
      simp only [hw] at hh
      exact h _ _ hh
theorem any_inv {Inv : (Nat → Bool) → Act → World → Prop} (topo : ∀ (i : Nat) (o : Oper), ops[i]? = some o → ∀ e ∈ o.after, e.on < i)
    (hstep : ∀ (i : Nat) (o : Oper) ls a w, ops[i]? = some o → ls i = false → (∀ e ∈ o.after, Region.binds .any e = true → ls e.on = true) → Inv ls a w → wpOp P ops Q i (Inv (upd ls i)) a w)
    (hend : ∀ ls a w, (∀ i, i < ops.size → ls i = true) → Inv ls a w → Q .normal a w) :
    ∀ (fuel : Nat) (listed : Array Bool) (a : Act) (w : World), listed.size = ops.size → unl ops.size listed ≤ fuel → Inv (fun j => listed.getD j false) a w → wpAny P .any ops Q fuel listed a w := by
  have hall : ∀ (listed : Array Bool), listed.size = ops.size → Region.ready .any ops listed = [] → ∀ i, i < ops.size → listed.getD i false = true := by
    intro listed hs hr i
    induction i using Nat.strongRecOn with
    | _ i ih =>
      intro hi
      cases hx : listed.getD i false with
      | true => rfl
      | false =>
        exfalso
        have : i ∈ Region.ready .any ops listed := by
          refine mem_ready.2 ⟨by rw [getD_sw (by rw [hs]; exact hi)]; exact hx, ops[i], by simp [hi], fun e he _ => ?_⟩
          have hlt := topo i ops[i] (by simp [hi]) e he
          exact ih e.on hlt (by omega)
        rw [hr] at this
        cases this
  intro fuel
  induction fuel with
  | zero =>
    intro listed a w hs hu hI
    have hr : Region.ready .any ops listed = [] := by
      apply List.eq_nil_iff_forall_not_mem.2
      intro i hi
      obtain ⟨h1, o, ho, -⟩ := mem_ready.1 hi
      have hlt : i < ops.size := (Array.getElem?_eq_some_iff.1 ho).1
      rw [getD_sw (by rw [hs]; exact hlt)] at h1
      have : i ∈ (List.range ops.size).filter fun i => !listed.getD i false := List.mem_filter.2 ⟨List.mem_range.2 hlt, by simp only [h1]; rfl⟩
      have h0 : ((List.range ops.size).filter fun i => !listed.getD i false) = [] := List.eq_nil_of_length_eq_zero (by unfold unl at hu; omega)
      rw [h0] at this
      cases this
    exact ⟨hr, hend _ a w (hall listed hs hr) hI⟩
  | succ fuel ih =>
    intro listed a w hs hu hI
    refine ⟨fun hr => hend _ a w (hall listed hs hr) hI, fun i hi => ?_⟩
    obtain ⟨h1, o, ho, hp⟩ := mem_ready.1 hi
    have hlt : i < ops.size := (Array.getElem?_eq_some_iff.1 ho).1
    rw [getD_sw (by rw [hs]; exact hlt)] at h1
    refine wpOp_mono' (fun a w h => ih (listed.setIfInBounds i true) a w (by simp [hs]) (by have := unl_set hlt (by rw [hs]; exact hlt) h1; omega) ?_) (hstep i o _ a w ho h1 hp hI)
    rw [upd_set (by rw [hs]; exact hlt)]
    exact h
theorem wpOp_of_walk {R : Act → World → Prop} {k : Nat} {a : Act} {w : World} (h : walk P ops (fun _ => True) (Qn Q R) [(k, 2)] a w) : wpOp P ops Q k R a w := by
  rw [walk] at h
  unfold wpOp
  cases ho : ops[k]? with
  | none => simp only [ho] at h
  | some o =>
    simp only [ho] at h ⊢
    split
    · rename_i hwt
      simp only [hwt, if_true] at h
      exact h.imp (fun h => Two.wp_qn (Oper.wp_mono (fun a w hk => hk.2) h)) (fun h => ⟨h.1, letsOut_qn h.2⟩)
    · rename_i hwt
      simp only [hwt] at h
      exact h
def topoB (lo : List Oper) : Bool := (List.range lo.length).all fun i => ((lo[i]?).map fun o => o.after.all fun e => decide (e.on < i)).getD true
/-- What has to have come up ahead of an operation. -/
def predsB (lo : List Oper) (ls : Nat → Bool) (i : Nat) : Bool := ((lo[i]?).map fun o => o.after.all fun e => !Region.binds .any e || ls e.on).getD false
theorem wp_regionI {id : Nat} {a : Act} {w : World} {lo : List Oper} (Inv : (Nat → Bool) → Act → World → Prop) (hm : P.follows .mixedOrders = true) (ht : topoB lo = true) (h0 : Inv (fun _ => false) a w.drew)
    (hstep : ∀ i, i < lo.length → ∀ ls a w, ls i = false → predsB lo ls i = true → Inv ls a w → walk P lo.toArray (fun _ => True) (Qn Q (Inv (upd ls i))) [(i, 2)] a w)
    (hend : ∀ ls a w, (∀ i, i < lo.length → ls i = true) → Inv ls a w → Q .normal a w) : (Code.region id lo.toArray true).wp P Q a w := by
  refine wp_region_any hm (any_inv (Inv := Inv) ?_ ?_ (fun ls a w h hI => hend ls a w (by simpa using h) hI) _ _ a _ (by simp) ?_ ?_)
  · intro i o ho e he
    have hlt : i < lo.length := by have := (Array.getElem?_eq_some_iff.1 ho).1; simpa using this
    unfold topoB at ht
    have h1 := List.all_eq_true.1 ht i (List.mem_range.2 hlt)
    have ho' : lo[i]? = some o := by simpa using ho
    rw [ho'] at h1
    simp only [Option.map_some, Option.getD_some] at h1
    have h2 := Array.all_eq_true_iff_forall_mem.1 h1 e he
    simpa using h2
  · intro i o ls a w ho hi hp hI
    have hlt : i < lo.length := by have := (Array.getElem?_eq_some_iff.1 ho).1; simpa using this
    have ho' : lo[i]? = some o := by simpa using ho
    refine wpOp_of_walk (hstep i hlt ls a w hi ?_ hI)
    unfold predsB
    rw [ho']
    simp only [Option.map_some, Option.getD_some]
    refine Array.all_eq_true_iff_forall_mem.2 fun e he => ?_
    cases hb : Region.binds .any e with
    | false => rfl
    | true => simp [hp e he hb]
  · unfold unl
    exact Nat.le_trans (List.length_filter_le _ _) (by simp)
  · have : (fun j => (Array.replicate lo.toArray.size false).getD j false) = fun _ => false := by
      funext j
      by_cases h : j < lo.length <;> simp [h]
    rw [this]; exact h0
theorem wpIn_regionI {l n : Nat} {id : Nat} {a : Act} {w : World} {lo : List Oper} (hO : ¬ LetsOut Q) (Inv : (Nat → Bool) → Act → World → Prop) (hm : P.follows .mixedOrders = true) (ht : topoB lo = true) (hd : lo.all noDefer = true) (h0 : Inv (fun _ => false) a w.drew)
    (hstep : ∀ i, i < lo.length → ∀ ls a w, ls i = false → predsB lo ls i = true → Inv ls a w → walk P lo.toArray (fun _ => True) (Qn Q (Inv (upd ls i))) [(i, 2)] a w)
    (hend : ∀ ls a w, (∀ i, i < lo.length → ls i = true) → Inv ls a w → Q .normal a w) : (Code.region id lo.toArray true).wpIn (Fence.wide.inRound l) n P Q a w := by
  refine wpIn_region_any hm (wpAnyIn_of hO (fun i o ho => List.all_eq_true.1 hd o (List.mem_of_getElem? (by simpa using ho))) _ _ _ _ ?_)
  refine any_inv (Inv := Inv) ?_ ?_ (fun ls a w h hI => hend ls a w (by simpa using h) hI) _ _ a _ (by simp) ?_ ?_
  · intro i o ho e he
    have hlt : i < lo.length := by have := (Array.getElem?_eq_some_iff.1 ho).1; simpa using this
    unfold topoB at ht
    have h1 := List.all_eq_true.1 ht i (List.mem_range.2 hlt)
    have ho' : lo[i]? = some o := by simpa using ho
    rw [ho'] at h1
    simp only [Option.map_some, Option.getD_some] at h1
    have h2 := Array.all_eq_true_iff_forall_mem.1 h1 e he
    simpa using h2
  · intro i o ls a w ho hi hp hI
    have hlt : i < lo.length := by have := (Array.getElem?_eq_some_iff.1 ho).1; simpa using this
    have ho' : lo[i]? = some o := by simpa using ho
    refine wpOp_of_walk (hstep i hlt ls a w hi ?_ hI)
    unfold predsB
    rw [ho']
    simp only [Option.map_some, Option.getD_some]
    refine Array.all_eq_true_iff_forall_mem.2 fun e he => ?_
    cases hb : Region.binds .any e with
    | false => rfl
    | true => simp [hp e he hb]
  · unfold unl
    exact Nat.le_trans (List.length_filter_le _ _) (by simp)
  · have : (fun j => (Array.replicate lo.toArray.size false).getD j false) = fun _ => false := by
      funext j
      by_cases h : j < lo.length <;> simp [h]
    rw [this]; exact h0
end Go.Ord
