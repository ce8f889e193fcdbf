/- Parts of a proof: MwK, MwD, MwE. -/
import Derived.Test.YteeinehpneppnaaW48
import Derived.Test.YteeinehpneppnaaW30
import Derived.Test.YteeinehpneppnaaW44
import Derived.Test.YteeinehpneppnaaW27
import Derived.Test.YteeinehpneppnaaW28
import Derived.Test.YteeinehpneppnaaW50
import Derived.Test.YteeinehpneppnaaW08
/- MobWhere: what the program's functions return, in letters; heavy of the bare way. -/
set_option linter.unusedVariables false
set_option linter.unusedSimpArgs false
namespace Go.Proofs.Yteeinehpneppnaa
open Go.RowKit Go.Proofs
attribute [local irreducible] Ord.walk
theorem low_neg {s : Nat} (hs : s < 64) : 0 ≤ bits .and .i64 (s : Int) (-(s : Int)) ∧ bits .and .i64 (s : Int) (-(s : Int)) ≤ 64 := by
  have key : ∀ s : Nat, s < 64 → 0 ≤ bits .and .i64 (s : Int) (-(s : Int)) ∧ bits .and .i64 (s : Int) (-(s : Int)) ≤ 64 := by decide +kernel
  exact key s hs
theorem bit_eq {x p : Nat} (hx : x < 64) (hp : p < 6) : (bits .and .i64 ((x : Int) / 2 ^ p) 1 == 1) = x.testBit p := by
  rw [bit_of hx hp]
  cases x.testBit p <;> rfl
theorem canB_lt {m : Mb} (hv : validM m = true) {i : Nat} (hi : i < m.herds.length) (day : Int) (Ls : List (List Int)) : canB m i day Ls < 64 := by
  have hst := start_le hv hi
  have hlen := validM_len hv
  unfold canB
  refine orL_lt (by omega) _ fun p h => ?_
  obtain ⟨L, _, hp⟩ := List.mem_flatMap.1 h
  split at hp
  · unfold nowsB at hp
    obtain ⟨d, _, rfl⟩ := List.mem_map.1 hp
    have := (nowTo_in (m := m) L (startN m i) d day (m.places.length - startN m i) (by omega) (by omega)).2
    unfold nowP
    omega
  · cases hp
/-- All that the law MobWhere asks, in letters. -/
structure WhC (mm mh : Value) (w0 : World) (sh i day can set nx su pe : Nat) (lo hi e y : Int) (p1 p2 : Bool) : Prop where
  where0 : ∀ W, Below w0.heap.size w0 W → Calls Try.prog 23 #[mm, .int .i64 (i : Int), .int .i64 (day : Int)] W (Gives2 (.int .i64 (set : Int)) (.int .i64 e) W)
  where1 : ∀ W, Below w0.heap.size w0 W → Calls Try.prog 23 #[mm, .int .i64 (i : Int), .int .i64 ((day : Int) + 1)] W (Gives2 (.int .i64 (nx : Int)) (.int .i64 e) W)
  there : ∀ W, Below w0.heap.size w0 W → Calls Try.prog 15 #[mm, .int .i64 (day : Int)] W (Gives3 (.int .i64 (su : Int)) (.int .i64 (pe : Int)) (.int .i64 e) W)
  comes : ∀ W, Below w0.heap.size w0 W → Calls Try.prog 22 #[mm, .int .i64 (i : Int), .int .i64 (sh : Int)] W (Gives2 (.agg #[.int .i64 lo, .int .i64 hi]) (.int .i64 e) W)
  heavy : ∀ W, Below w0.heap.size w0 W → Calls Try.prog 11 #[mh, .int .i64 90] W (fun e w' => ∃ b, e = .returned (.bool b) ∧ Below W.heap.size W w')
  case : (e = 10 ∧ can = 0 ∧ set = 0) ∨ (e = 0 ∧ can = set ∧ 0 < set ∧ set < 64 ∧ nx < 64 ∧ bits .and .i64 (set : Int) (-(set : Int)) = y ∧ 0 ≤ y ∧ y ≤ 64 ∧ bits .and .i64 (nx : Int) (y - 1) = 0 ∧ su < 16 ∧ pe < 16 ∧
    (bits .and .i64 ((su : Int) / 2 ^ i) 1 == 1) = p1 ∧ (bits .and .i64 ((pe : Int) / 2 ^ i) 1 == 1) = p2 ∧ (bits .and .i64 ((set : Int) / 2 ^ sh) 1 == 1) = p2 ∧
    (((set : Int) == ((2 ^ sh : Nat) : Int)) = p1) ∧ (decide (hi ≤ (day : Int)) = p1) ∧ (decide (lo ≤ (day : Int)) = p2))
theorem wh_c {m : Mb} {A : Ma} (hv : validM m = true) {i day : Nat} (hi : i < m.herds.length) (hd : day ≤ 44) {w0 : World} (hm : MbAt w0 m A) :
    ∃ set nx su pe lo hi' e y p1 p2, WhC (mv m A) (.agg #[.slice A.pa m.places.length A.pc, .slice A.la m.legs.length A.lc, .slice none 0 0, .slice none 0 0]) w0 (shedN m) i day (canB m i day (prodL m.legs)) set nx su pe lo hi' e y p1 p2 := by
  obtain ⟨set, nx, su, pe, lo, hi', e, F⟩ := wf hv hi hd
  have hM := validM_Mlen hv
  have hlen := validM_len hv
  refine ⟨set, nx, su, pe, lo, hi', e, bits .and .i64 (set : Int) (-(set : Int)), su.testBit i, pe.testBit i, fun W hb => ?_, fun W hb => ?_, fun W hb => ?_, fun W hb => ?_, fun W hb => ?_, ?_⟩
  · have := m_Where (i : Int) (day : Int) W hM (hm.below hb)
    rw [F.w0] at this
    exact this
  · have := m_Where (i : Int) ((day : Int) + 1) W hM (hm.below hb)
    rw [F.w1] at this
    exact this
  · have := m_There (day : Int) W hM (hm.below hb)
    rw [F.there] at this
    exact this
  · have := m_Comes (i : Int) (shedN m : Int) W hM (hm.below hb)
    rw [F.comes] at this
    exact this
  · have hmb := hm.below hb
    have := l_heavy ⟨m.places, m.legs, [], []⟩ ⟨A.pa, A.pc, A.la, A.lc, none, 0, none, 0⟩ 90 W (by unfold maxLen; show m.places.length ≤ _; omega) (by unfold maxLen; show m.legs.length ≤ _; omega) (by unfold maxLen; simp) (by unfold maxLen; simp) ⟨hmb.places, hmb.legs, fun i hi => absurd hi (Nat.not_lt_zero i), fun i hi => absurd hi (Nat.not_lt_zero i)⟩
    refine this.mono ?_
    rintro e' w' ⟨b, h1, _, h3⟩
    exact ⟨b, h1, h3⟩
  · rcases F.case with ⟨h1, h2, h3⟩ | ⟨h1, h2, h3, h4, h5, h6, h7, h8, h9, h10, h11, h12⟩
    · exact .inl ⟨h1, h2, h3⟩
    · have hy := low_neg h4
      have hsh : shedN m < 6 := by unfold shedN; omega
      refine .inr ⟨h1, h2, by omega, h4, h5, rfl, hy.1, hy.2, h6, h7, h8, bit_eq (by omega) (by omega), bit_eq (by omega) (by omega), ?_, ?_, ?_, ?_⟩
      · rw [bit_eq h4 hsh]
        have : pe.testBit i = set.testBit (shedN m) := by rw [Bool.eq_iff_iff]; exact h10
        rw [this]
      · rw [Bool.eq_iff_iff, h9, beq_iff_eq]
        omega
      · rw [Bool.eq_iff_iff, h11, decide_eq_true_eq]
      · rw [Bool.eq_iff_iff, h12, decide_eq_true_eq]
end Go.Proofs.Yteeinehpneppnaa
/- The law MobWhere walked. (Printed by mkMwD.py) -/
namespace Go.Ord
theorem wp_regionGN {P : Program} {Q : Exit → Act → World → Prop} {id : Nat} {a : Act} {w : World} {lo : List Oper} (F : Nat) (l : List (Nat × Nat)) (H : World → Prop) (hm : P.follows .mixedOrders = true) (hp : planOkG F lo.toArray l = true)
    (hH : H w.drew) (h : walk P lo.toArray H (Nm Q) l a w.drew) : (Code.region id lo.toArray true).wp P Q a w := by
  refine wp_mono (wp_regionG (Q := Nm Q) F l H hm hp (fun c a d v w h => h.elim) hH h) ?_
  intro e a w h
  cases e <;> first | exact h | exact h.elim
end Go.Ord
set_option linter.unusedVariables false
set_option linter.unusedSimpArgs false
namespace Go.Proofs.Yteeinehpneppnaa
open Go.RowKit Go.Proofs
attribute [local irreducible] Ord.walk
theorem yields_conv8 {o : Oper} {a : Act} {W : World} {x : Operand} {n : Nat} (ho : o.op = .convert 5 3 x) (hx : a.eval x = .int .u8 (n : Int)) (hn : n < 256) : Ord.yields Try.prog o a W (.int .i64 (n : Int)) := by
  have h : (n : Int) < 256 := by omega
  unfold Ord.yields
  generalize a.eval = ev at *
  simp [execOp, ho, hx, go_sem, Ord.yieldUpon]
  exact Lib.wrap_i64_small _ (by omega)
theorem yields_len {o : Oper} {a : Act} {W : World} {x : Operand} {t e : TypeId} {p : Option Addr} {n c : Nat} (hu : Try.prog.underlying t = some (.slice e)) (ho : o.op = .call { callee := .builtin .len, args := [x].toArray, argTypes := #[t] }) (hx : a.eval x = .slice p n c) : Ord.yields Try.prog o a W (.int .i64 (n : Int)) := by
  unfold Ord.yields
  generalize a.eval = ev at *
  simp [execOp, ho, hx, go_sem, Ord.yieldUpon, Builtin.len_, run_underlying hu]
theorem yields_rem {o : Oper} {a : Act} {W : World} {x y : Operand} {p q r : Nat} (ho : o.op = .binOp .rem 3 x y 3) (hx : a.eval x = .int .i64 (p : Int)) (hy : a.eval y = .int .i64 (q : Int)) (hp : p < 256) (hq : 0 < q) (hr : (p : Int).tmod (q : Int) = (r : Int)) (hr2 : r < 256) : Ord.yields Try.prog o a W (.int .i64 (r : Int)) := by
  have h0 : ¬ q = 0 := by omega
  have h1 : (p : Int) < 256 := by omega
  have h2 : (r : Int) < 256 := by omega
  unfold Ord.yields
  generalize a.eval = ev at *
  simp [execOp, ho, hx, hy, hr, go_sem, Ord.yieldUpon, h0]
theorem yields_less {o : Oper} {a : Act} {W : World} {x : Operand} {p r : Nat} (ho : o.op = .binOp .sub 3 x (.const (.int .i64 1)) 3) (hx : a.eval x = .int .i64 (p : Int)) (hp : p ≤ 6) (hr : (p : Int) - 1 = (r : Int)) : Ord.yields Try.prog o a W (.int .i64 (r : Int)) := by
  have h1 : (p : Int) ≤ 6 := by omega
  have h2 : (r : Int) ≤ 6 := by omega
  have hc : ∀ v, a.eval (.const v) = v := fun v => rfl
  unfold Ord.yields
  generalize a.eval = ev at *
  simp [execOp, ho, hx, hc, hr, go_sem, Ord.yieldUpon]
  exact Lib.wrap_i64_small _ (by omega)
theorem pow_le32D {q : Nat} (h : q < 6) : ((2 ^ q : Nat) : Int) ≤ 32 := by
  have h1 : 2 ^ q ≤ 2 ^ 5 := Nat.pow_le_pow_right (by omega) (by omega)
  omega
def EachW (m : Mb) (A : Ma) (i day : Nat) (w0 : World) : Prop := ∀ W pm pd pi ca, Below w0.heap.size w0 W → w0.heap.size ≤ ca → pm ≠ ca → pd ≠ ca → pi ≠ ca → Blk W pm (mcells m A) 27 → Blk W pd #[.int .i64 (day : Int)] 3 → Blk W pi #[.int .i64 (i : Int)] 3 → Blk W ca #[.int .i64 0] 3 →
  Calls Try.prog 35 #[mv m A, .func (.func 36) #[] #[.pointer (some ⟨pm, 0, none⟩), .pointer (some ⟨pd, 0, none⟩), .pointer (some ⟨pi, 0, none⟩), .pointer (some ⟨ca, 0, none⟩)]] W (fun e w' => e = .returned (.tuple #[]) ∧ Blk w' ca #[.int .i64 (canB m i day (prodL m.legs) : Int)] 3 ∧ Off [ca] W.heap.size W w')
set_option maxHeartbeats 40000000 in
set_option maxRecDepth 100000 in
theorem w_Where_main (m : Mb) (A : Ma) (n1 n2 : Nat) (hn1 : n1 < 256) (hn2 : n2 < 256) (w : World) (hm : MbAt w m A) (hv : validM m = true) (hh : 1 ≤ m.herds.length ∧ m.herds.length ≤ 2) (HEW : EachW m A (n1 % m.herds.length) (n2 % 45) w) :
    Calls Try.prog 7 #[mv m A, .int .u8 n1, .int .u8 n2] w (Gives (.bool true) w) := by
  have hln := validM_len hv
  have HL : Hid (∀ W, Calls Try.prog 27 #[mv m A] W (Gives (.bool false) W)) := fun W => by
    have := l_long m A W (by unfold maxLen; omega) (by unfold maxLen; omega) (by unfold maxLen; omega) (by unfold maxLen; omega)
    rwa [longB_okV hv] at this
  have HBn : Hid (∀ W, Below w.heap.size w W → Calls Try.prog 28 #[mv m A] W (Gives (.bool true) W)) := fun W hb => by
    have := r_mob m A (long_len (longB_okV hv)) W (hm.below hb)
    rwa [hv] at this
  have hi : n1 % m.herds.length < m.herds.length := Nat.mod_lt _ (by omega)
  have hd : n2 % 45 ≤ 44 := by have := Nat.mod_lt n2 (show 0 < 45 by omega); omega
  obtain ⟨set, nx, su, pe, lo, hi', e, y, q1, q2, C⟩ := wh_c hv hi hd hm
  have hr1 : (n1 : Int).tmod (m.herds.length : Int) = ((n1 % m.herds.length : Nat) : Int) := by rw [Int.tmod_eq_emod_of_nonneg (by omega)]; rfl
  have hr2 : (n2 : Int).tmod ((45 : Nat) : Int) = ((n2 % 45 : Nat) : Int) := by rw [Int.tmod_eq_emod_of_nonneg (by omega)]; rfl
  have hcl := canB_lt hv hi ((n2 % 45 : Nat) : Int) (prodL m.legs)
  unfold EachW at HEW
  generalize canB m (n1 % m.herds.length) ((n2 % 45 : Nat) : Int) (prodL m.legs) = can at *
  generalize n1 % m.herds.length = i at *
  generalize n2 % 45 = day at *
  have hsh : (m.places.length : Int) - 1 = ((shedN m : Nat) : Int) := by unfold shedN; omega
  have hsh6 : shedN m < 6 := by unfold shedN; omega
  generalize shedN m = sh at *
  obtain ⟨hw0, hw1, hth, hco, hhv, hcase⟩ := C
  have HW0 := Lib.hid hw0
  have HW1 := Lib.hid hw1
  have HTh := Lib.hid hth
  have HCo := Lib.hid hco
  have HHv := Lib.hid hhv
  have HCase := Lib.hid hcase
  have HE := Lib.hid HEW
  have HA := Lib.hid l_alive
  have hz1 : ((m.herds.length : Int) == 0) = false := by rw [beq_eq_false_iff_ne]; omega
  have hz2 : ¬ (2 : Int) < (m.herds.length : Int) := by omega
  clear hw0 hw1 hth hco hhv hcase HEW hm hv
  rcases A with ⟨pa, pc, la, lc, ha, hc, sa, sc⟩
  rcases m with ⟨ps, ls, hs, ss⟩
  unfold mv mcells at *
  simp only at *
  have hp6 : ps.length ≤ 6 := by omega
  go_enter Try.func7, Try.ntmps7
  go_wp2_with (first
    | (go_at_call 27; refine (HL.out _).mono ?_; rintro e w1 ⟨rfl, hb1⟩; refine at_stop ?_))
  unfold Stop
  have bb := (Blk.new w #[.slice pa ps.length pc, .slice la ls.length lc, .slice ha hs.length hc, .slice sa ss.length sc] 27).below hb1 (by first | omega | (simp; done) | (simp; omega))
  have hB := ((Below.refl w.heap.size w).alloc (Nat.le_refl _) _).trans (hb1.mono (by first | omega | (simp; done) | (simp; omega)))
  clear hb1
  have rb := bb.cell
  go_wp2_with (first
    | (go_at_call 28; refine (HBn.out _ hB).mono ?_; rintro e w2 ⟨rfl, hb2⟩; have rb2 := (bb.below hb2 bb.lt).cell; replace hB := hB.trans (hb2.mono hB.size))
    | (go_at_call 11; refine (HHv.out _ hB).mono ?_; rintro e w3 ⟨bh, rfl, hb3⟩; refine at_stop ?_))
  unfold Stop
  clear rb rb2
  replace bb := (bb.below hb2 bb.lt).below hb3 (by have := bb.lt; have := hb2.size; omega)
  replace hB := hB.trans (hb3.mono hB.size)
  clear hb2 hb3 HL HBn HHv
  cases bh
  · go_upto_region 3 with fail
    have hlb := bb.lt
    have hBs := hB.size
    go_cut [7, 8, 9] from 48 to 60 (fun x7 x8 x9 wx => ∃ (p7 p8 : Nat), x7 = .pointer (some ⟨p7, 0, none⟩) ∧ x8 = .pointer (some ⟨p8, 0, none⟩) ∧ x9 = .int .i64 (sh : Int) ∧ Blk wx p7 #[.int .i64 (i : Int)] 3 ∧ Blk wx p8 #[.int .i64 (day : Int)] 3 ∧ w3.heap.size ≤ p7 ∧ w3.heap.size ≤ p8 ∧ Below w3.heap.size w3 wx)
    case first =>
      as_aux_lemma =>
        have hl2 : 0 < hs.length := by omega
        have hi256 : i < 256 := by omega
        have hd256 : day < 256 := by omega
        clear HW0 HW1 HTh HCo HCase HE HA hz1 hz2 hcl hB hBs
        refine Ord.wp_regionTN 4 (.fork2 [(0, 1), (1, 1), (2, 1), (3, 1), (4, 1), (5, 1), (6, 1), (7, 1), (8, 1), (9, 1), (10, 1), (11, 1), (12, 1)] 13 (.leaf [(14, 2), (15, 2), (16, 2), (17, 0)]) 14 (.leaf [(13, 2), (15, 2), (16, 2), (17, 0)])) (fun W => Below w3.heap.size w3 W) (by kernel_rfl) (by kernel_rfl) (Below.refl _ _).drew ?_
        have hb0 : Below w3.heap.size w3 w3.drew := (Below.refl _ _).drew
        go_wp2_with (first
          | ((with_reducible refine Ord.at_wild ?_); refine Ord.wild_load (ad := ⟨w.heap.size, 2, none⟩) (.slice ha hs.length hc) rfl rfl ?_ ?_; (focus (intro W hW; have r := (bb.below hW hlb).cell; simp [go_sem, r]; done)); intro K hK)
          | ((with_reducible refine Ord.at_wild ?_); refine Ord.wild_load (ad := ⟨w.heap.size, 0, none⟩) (.slice pa ps.length pc) rfl rfl ?_ ?_; (focus (intro W hW; have r := (bb.below hW hlb).cell; simp [go_sem, r]; done)); intro K hK)
          | ((with_reducible refine Ord.at_wild ?_); refine Ord.walk_wild_as rfl (.int .i64 (n1 : Int)) ?_ ?_; (focus (intro W hW; exact yields_conv8 rfl rfl hn1)); intro K hK)
          | ((with_reducible refine Ord.at_wild ?_); refine Ord.walk_wild_as rfl (.int .i64 (n2 : Int)) ?_ ?_; (focus (intro W hW; exact yields_conv8 rfl rfl hn2)); intro K hK)
          | ((with_reducible refine Ord.at_wild ?_); refine Ord.walk_wild_as rfl (.int .i64 (hs.length : Int)) ?_ ?_; (focus (intro W hW; exact yields_len Try.underlying24 rfl rfl)); intro K hK)
          | ((with_reducible refine Ord.at_wild ?_); refine Ord.walk_wild_as rfl (.int .i64 (ps.length : Int)) ?_ ?_; (focus (intro W hW; exact yields_len Try.underlying22 rfl rfl)); intro K hK)
          | ((with_reducible refine Ord.at_wild ?_); refine Ord.walk_wild_as rfl (.int .i64 (i : Int)) ?_ ?_; (focus (intro W hW; exact yields_rem rfl rfl rfl hn1 hl2 hr1 hi256)); intro K hK)
          | ((with_reducible refine Ord.at_wild ?_); refine Ord.walk_wild_as rfl (.int .i64 (day : Int)) ?_ ?_; (focus (intro W hW; exact yields_rem (q := 45) rfl rfl rfl hn2 (by omega) hr2 hd256)); intro K hK)
          | ((with_reducible refine Ord.at_wild ?_); refine Ord.walk_wild_as rfl (.int .i64 (sh : Int)) ?_ ?_; (focus (intro W hW; exact yields_less rfl rfl hp6 hsh)); intro K hK)
          | (with_reducible refine Ord.at_nm ?_)
          | with_reducible refine Ord.top_two ?_ | with_reducible refine Ord.top_three ?_ | with_reducible refine Ord.at_two ?_ ?_ | with_reducible refine Ord.at_three ?_ ?_ ?_ | with_reducible refine Ord.tree_leaf ?_ | with_reducible refine Ord.tree_two ?_ | ((with_reducible refine Ord.at_calm ?_); refine Ord.calm_skip rfl ?_ (fun K hK => ?_); (focus (simp [Region.wanted, yielded]; done))) | with_reducible refine Ord.walk_calm rfl rfl (fun K hK => ?_) | ((with_reducible refine Ord.at_wild ?_); refine Ord.wild_fieldAddr rfl rfl (fun W => by simp [go_sem]; rfl) (fun K hK => ?_)) | ((with_reducible refine Ord.at_wild ?_); refine Ord.wild_move rfl rfl (fun K hK => ?_)) | ((with_reducible refine Ord.at_wild ?_); refine Ord.wild_nilCheck rfl rfl (fun K hK => ?_)) | with_reducible refine Ord.walk_eff rfl (by first | (simp; done) | assumption | (go_simp; done) | (repeat (first | assumption | exact Below.refl _ _ | refine Below.drew ?_ | refine Below.alloc ?_ (by first | omega | (simp; done) | (simp; omega)) _ | refine Below.setCell ?_ (by first | omega | (simp; done) | (simp; omega)) _ | refine Below.trans ?_ (Below.mono (by assumption) (by first | omega | (simp; done) | (simp; omega)))))) (fun K hK => ?_) | with_reducible refine Ord.at_fork ?_ ?_ | with_reducible refine Ord.walk_nil ?_ | (with_reducible refine Ord.next_of (by first | (simp; done) | (go_simp; done) | (repeat (first | assumption | exact Below.refl _ _ | refine Below.drew ?_ | refine Below.alloc ?_ (by first | omega | (simp; done) | (simp; omega)) _ | refine Below.setCell ?_ (by first | omega | (simp; done) | (simp; omega)) _ | refine Below.trans ?_ (Below.mono (by assumption) (by first | omega | (simp; done) | (simp; omega)))))) (fun _ => ?_)))
        all_goals go_meet
        · exact ⟨_, _, rfl, rfl, rfl, ((Blk.new _ _ _).drew.alloc _), Blk.new' _ _ _ _ (by simp), by simp, by simp, by (repeat (first | assumption | exact Below.refl _ _ | refine Below.drew ?_ | refine Below.alloc ?_ (by first | omega | (simp; done) | (simp; omega)) _ | refine Below.setCell ?_ (by first | omega | (simp; done) | (simp; omega)) _ | refine Below.trans ?_ (Below.mono (by assumption) (by first | omega | (simp; done) | (simp; omega)))))⟩
        · exact ⟨_, _, rfl, rfl, rfl, Blk.new' _ _ _ _ (by simp), ((Blk.new _ _ _).drew.alloc _), by simp, by simp, by (repeat (first | assumption | exact Below.refl _ _ | refine Below.drew ?_ | refine Below.alloc ?_ (by first | omega | (simp; done) | (simp; omega)) _ | refine Below.setCell ?_ (by first | omega | (simp; done) | (simp; omega)) _ | refine Below.trans ?_ (Below.mono (by assumption) (by first | omega | (simp; done) | (simp; omega)))))⟩
    case rest =>
      obtain ⟨p7, p8, rfl, rfl, rfl, b7, b8, hp7, hp8, hbx⟩ := hcut
      replace bb := bb.below hbx hlb
      replace hB := hB.trans (hbx.mono hBs)
      clear hbx hBs hr1 hr2 hn1 hn2
      have r7 := b7.cell
      have r8 := b8.cell
      go_wp2_with (first
        | (refine wpList_load_blk 27 (.tmp 3) agg_mob rfl rfl rfl bb rfl ?_)
        | (go_at_call 23; refine (HW0.out _ hB).mono ?_; rintro e w4 ⟨rfl, hb5⟩; replace bb := bb.below hb5 bb.lt; replace b7 := b7.below hb5 b7.lt; replace b8 := b8.below hb5 b8.lt; replace hB := hB.trans (hb5.mono hB.size); clear hb5; refine at_stop ?_))
      unfold Stop
      (try clear r7 r8)
      have r7 := b7.cell
      have r8 := b8.cell
      go_wp2_with (first
        | (refine wpList_load_blk 27 (.tmp 3) agg_mob rfl rfl rfl bb rfl ?_)
        | (go_at_call 23; refine (HW1.out _ hB).mono ?_; rintro e w5 ⟨rfl, hb5⟩; replace bb := bb.below hb5 bb.lt; replace b7 := b7.below hb5 b7.lt; replace b8 := b8.below hb5 b8.lt; replace hB := hB.trans (hb5.mono hB.size); clear hb5; refine at_stop ?_))
      unfold Stop
      (try clear r7 r8)
      have r7 := b7.cell
      have r8 := b8.cell
      go_wp2_with (first
        | (refine wpList_load_blk 27 (.tmp 3) agg_mob rfl rfl rfl bb rfl ?_)
        | (go_at_call 15; refine (HTh.out _ hB).mono ?_; rintro e w6 ⟨rfl, hb5⟩; replace bb := bb.below hb5 bb.lt; replace b7 := b7.below hb5 b7.lt; replace b8 := b8.below hb5 b8.lt; replace hB := hB.trans (hb5.mono hB.size); clear hb5; refine at_stop ?_))
      unfold Stop
      (try clear r7 r8)
      have r7 := b7.cell
      have r8 := b8.cell
      go_wp2_with (first
        | (refine wpList_load_blk 27 (.tmp 3) agg_mob rfl rfl rfl bb rfl ?_)
        | (go_at_call 22; refine (HCo.out _ hB).mono ?_; rintro e w7 ⟨rfl, hb5⟩; replace bb := bb.below hb5 bb.lt; replace b7 := b7.below hb5 b7.lt; replace b8 := b8.below hb5 b8.lt; replace hB := hB.trans (hb5.mono hB.size); clear hb5; refine at_stop ?_))
      unfold Stop
      clear r7 r8 HW0 HW1 HTh HCo
      go_wp2_with (first
        | (refine wpList_store_blk 39 (.tmp 17) (.tmp 88) agg_span rfl rfl rfl rfl (Blk.new _ _ _) rfl rfl (by simp [Value.oneCell']) ?_; intro w8 h; refine at_stop ?_))
      unfold Stop
      have b17 := h.blk
      replace bb := h.other (bb.alloc _) (by have := bb.lt; (try simp only [World.size_drew]); omega)
      replace b7 := h.other (b7.alloc _) (by have := b7.lt; (try simp only [World.size_drew]); omega)
      replace b8 := h.other (b8.alloc _) (by have := b8.lt; (try simp only [World.size_drew]); omega)
      replace hB := h.below (hB.alloc hB.size _) hB.size
      generalize hp17 : w7.heap.size = p17 at *
      clear h
      have hlb2 := bb.lt
      have hl7 := b7.lt
      have hl8 := b8.lt
      have hl17 := b17.lt
      have hBs := hB.size
      go_wp2_with (first
        | (refine wpList_load_blk 27 (.tmp 3) agg_mob rfl rfl rfl (bb.alloc _) rfl ?_)
        | (go_at_call 35; refine at_stop ?_))
      unfold Stop
      refine (HE.out _ _ _ _ _ (hB.alloc hBs _) hBs (by omega) (by omega) (by omega) (bb.alloc _) (b8.alloc _) (b7.alloc _) (Blk.new _ _ _)).mono ?_
      rintro e w9 ⟨rfl, bc, hO⟩
      replace bb := hO.blk (bb.alloc _) (by simp; omega) (by simp; omega)
      replace b7 := hO.blk (b7.alloc _) (by simp; omega) (by simp; omega)
      replace b8 := hO.blk (b8.alloc _) (by simp; omega) (by simp; omega)
      replace b17 := hO.blk (b17.alloc _) (by simp; omega) (by simp; omega)
      have hB9 : Below w.heap.size w w9 := (hB.alloc hBs _).trans (hO.below (by simp; omega) (by simp; omega))
      have r7 := b7.cell
      have r8 := b8.cell
      have r17 := b17.cell
      have rc := bc.cell
      have hcase := HCase.out
      clear HCase HE hO hB hlb2 hl7 hl8 hl17 hBs bb b7 b8 b17 bc
      rcases hcase with ⟨rfl, rfl, rfl⟩ | ⟨rfl, rfl, h3, h4, h5, h6, h6a, h6b, h7, h8, h9, h10, h11, h12, h13, h14, h15⟩
      · go_wp2_with (first
          | (go_at_call 12; refine (HA.out _).mono ?_; rintro e w31 ⟨rfl, hb31⟩))
        (try go_ret)
        exact ⟨rfl, hB9.trans (hb31.mono hB9.size)⟩
      · have hz0 : ((can : Int) == 0) = false := by rw [beq_eq_false_iff_ne]; omega
        have hwp := wrap_pow sh (by omega)
        have hwp3 : IntKind.i64.wrap ((2 : Int) ^ sh) = ((2 ^ sh : Nat) : Int) := by rw [pow_i64' sh (by omega)]; simp
        have h3i : 0 < (can : Int) := by omega
        have h4i : (can : Int) < 64 := by omega
        have h5i : (nx : Int) < 64 := by omega
        have h8i : (su : Int) < 16 := by omega
        have h9i : (pe : Int) < 16 := by omega
        have hi2 : (i : Int) < 2 := by omega
        have hsi : (sh : Int) < 6 := by omega
        have hPl := pow_le32D hsh6
        generalize hPw : 2 ^ sh = Pw at *
        clear hPw h3 h4 h5 h8 h9 hi
        go_upto_region 14 with fail
        as_aux_lemma =>
          refine Ord.wp_regionGN 4 [(0, 0), (1, 0), (2, 0), (3, 0), (4, 0), (5, 0), (6, 0), (7, 0), (8, 0), (9, 0), (10, 0), (11, 0), (12, 0), (13, 0), (14, 0), (15, 0), (16, 0), (17, 0), (18, 0), (19, 0), (20, 0), (21, 0), (22, 0), (23, 0), (24, 0), (25, 0), (26, 0), (27, 0), (28, 0), (29, 0), (30, 0), (31, 0), (32, 0), (33, 0), (34, 0), (35, 0), (36, 0), (37, 0), (38, 0), (39, 0), (40, 0), (41, 0), (42, 0), (43, 0), (44, 0), (45, 0), (46, 0), (47, 0), (48, 2), (49, 0), (50, 0)] (fun _ => True) (by kernel_rfl) (by kernel_rfl) trivial ?_
          go_wp2_with (first
            | (go_at_call 12; refine (HA.out _).mono ?_; rintro e w31 ⟨rfl, hb31⟩)
            | (with_reducible refine Ord.at_nm ?_)
            | ((with_reducible refine Ord.at_calm ?_); refine Ord.calm_skip rfl ?_ (fun K hK => ?_); (focus (simp [Region.wanted, yielded]; done))) | with_reducible refine Ord.walk_calm rfl rfl (fun K hK => ?_) | ((with_reducible refine Ord.at_wild ?_); refine Ord.wild_fieldAddr rfl rfl (fun W => by simp [go_sem]; rfl) (fun K hK => ?_)) | ((with_reducible refine Ord.at_wild ?_); refine Ord.wild_move rfl rfl (fun K hK => ?_)) | ((with_reducible refine Ord.at_wild ?_); refine Ord.wild_nilCheck rfl rfl (fun K hK => ?_)) | with_reducible refine Ord.walk_eff rfl (by first | (simp; done) | assumption | (go_simp; done) | (repeat (first | assumption | exact Below.refl _ _ | refine Below.drew ?_ | refine Below.alloc ?_ (by first | omega | (simp; done) | (simp; omega)) _ | refine Below.setCell ?_ (by first | omega | (simp; done) | (simp; omega)) _ | refine Below.trans ?_ (Below.mono (by assumption) (by first | omega | (simp; done) | (simp; omega)))))) (fun K hK => ?_) | with_reducible refine Ord.at_fork ?_ ?_ | with_reducible refine Ord.walk_nil ?_ | (with_reducible refine Ord.next_of (by first | (simp; done) | (go_simp; done) | (repeat (first | assumption | exact Below.refl _ _ | refine Below.drew ?_ | refine Below.alloc ?_ (by first | omega | (simp; done) | (simp; omega)) _ | refine Below.setCell ?_ (by first | omega | (simp; done) | (simp; omega)) _ | refine Below.trans ?_ (Below.mono (by assumption) (by first | omega | (simp; done) | (simp; omega)))))) (fun _ => ?_)))
          (try go_ret)
          exact ⟨rfl, hB9.trans (((Below.refl _ _).drew.trans hb31).mono hB9.size)⟩
  · go_wp2_with (first
      | (go_at_call 12; refine (HA.out _).mono ?_; rintro e w31 ⟨rfl, hb31⟩))
    (try go_ret)
    exact ⟨rfl, hB.trans (hb31.mono hB.size)⟩
end Go.Proofs.Yteeinehpneppnaa
/- The law MobWhere: what each gathers; all ways. -/
set_option linter.unusedVariables false
set_option linter.unusedSimpArgs false
namespace Go.Proofs.Yteeinehpneppnaa
open Go.RowKit Go.Proofs
attribute [local irreducible] Ord.walk
theorem each_w {m : Mb} {A : Ma} (hv : validM m = true) {i day : Nat} (hi : i < m.herds.length) (hd : day ≤ 44) {w0 : World} (hm : MbAt w0 m A) : EachW m A i day w0 := by
  intro W pm pd pi ca hb hca h1 h2 h3 bm bd bi bc
  refine (l_each _ _ _ _ ca w0 W hm hv hb hca bc.lt (fun Ls W' => Off [ca] W.heap.size W W' ∧ Blk W' ca #[.int .i64 (canB m i day Ls : Int)] 3) ?_ ?_ ⟨Off.refl _ _ _, bc⟩).mono ?_
  · rintro Ls W1 W2 ⟨h4, h5⟩ h6
    exact ⟨h4.trans (Off.of_below h6 (Nat.le_refl _)), h5.below h6 bc.lt⟩
  · rintro Ls L a c W1 ⟨h4, h5⟩ h6 hL hr
    have hm1 : MbAt W1 m A := hm.below (hb.trans (h4.below hb.size (by simpa using hca)))
    refine (l_where1 hv hi hd (canB_lt hv hi day Ls) W1 hm1 (h4.blk bm bm.lt (by simpa using h1)) (h4.blk bd bd.lt (by simpa using h2)) (h4.blk bi bi.lt (by simpa using h3)) h5 hL c hr).mono ?_
    rintro e w' ⟨h7, h8, h9⟩
    have hs := h4.size
    refine ⟨h7, ⟨h4.trans (h8.mono hs (fun _ _ h => h)), ?_⟩, h8⟩
    rw [canB_snoc]
    exact h9
  · rintro e w' ⟨h4, ⟨h5, h6⟩, h7⟩
    exact ⟨h4, h6, h7⟩
set_option maxHeartbeats 4000000 in
set_option maxRecDepth 100000 in
theorem w_Where_long (m : Mb) (A : Ma) (n1 n2 : Int) (w : World) (l1 : m.places.length ≤ maxLen) (l2 : m.legs.length ≤ maxLen) (l3 : m.herds.length ≤ maxLen) (l4 : m.seen.length ≤ maxLen) (hl : longB m = true) :
    Calls Try.prog 7 #[mv m A, .int .u8 n1, .int .u8 n2] w (Gives (.bool true) w) := by
  have HL : Hid (∀ W, Calls Try.prog 27 #[mv m A] W (Gives (.bool true) W)) := fun W => by
    have := l_long m A W l1 l2 l3 l4
    rwa [hl] at this
  have HA := Lib.hid l_alive
  clear l1 l2 l3 l4 hl
  rcases A with ⟨pa, pc, la, lc, ha, hc, sa, sc⟩
  unfold mv mcells at *
  simp only at *
  go_enter Try.func7, Try.ntmps7
  go_wp2_with (first
    | (go_at_call 27; refine (HL.out _).mono ?_; rintro e w1 ⟨rfl, hb1⟩)
    | (go_at_call 12; refine (HA.out _).mono ?_; rintro e w2 ⟨rfl, hb2⟩))
  go_ret
  have hB1 : Below w.heap.size w w1 := ((Below.refl w.heap.size w).alloc (Nat.le_refl _) _).trans (hb1.mono (by first | omega | (simp; done) | (simp; omega)))
  exact ⟨rfl, hB1.trans (hb2.mono hB1.size)⟩
set_option maxHeartbeats 4000000 in
set_option maxRecDepth 100000 in
theorem w_Where_no (m : Mb) (A : Ma) (n1 n2 : Int) (w : World) (hm : MbAt w m A) (hl : longB m = false) (hv : validM m = false ∨ (validM m = true ∧ (m.herds.length = 0 ∨ 2 < m.herds.length))) :
    Calls Try.prog 7 #[mv m A, .int .u8 n1, .int .u8 n2] w (Gives (.bool true) w) := by
  have hM := long_len hl
  have HL : Hid (∀ W, Calls Try.prog 27 #[mv m A] W (Gives (.bool false) W)) := fun W => by
    have := l_long m A W (by have := hM.places; unfold maxLen; omega) (by have := hM.legs; unfold maxLen; omega) (by have := hM.herds; unfold maxLen; omega) (by have := hM.seen; unfold maxLen; omega)
    rwa [hl] at this
  obtain ⟨v, hve⟩ : ∃ v, validM m = v := ⟨_, rfl⟩
  have HBn : Hid (∀ W, Below w.heap.size w W → Calls Try.prog 28 #[mv m A] W (Gives (.bool v) W)) := fun W hb => by
    have := r_mob m A hM W (hm.below hb)
    rwa [hve] at this
  have HA := Lib.hid l_alive
  rw [hve] at hv
  have HV := Lib.hid hv
  clear hl hv hm hM hve
  rcases A with ⟨pa, pc, la, lc, ha, hc, sa, sc⟩
  unfold mv mcells at *
  simp only at *
  go_enter Try.func7, Try.ntmps7
  go_wp2_with (first
    | (go_at_call 27; refine (HL.out _).mono ?_; rintro e w1 ⟨rfl, hb1⟩; refine at_stop ?_))
  unfold Stop
  have bb := (Blk.new w #[.slice pa m.places.length pc, .slice la m.legs.length lc, .slice ha m.herds.length hc, .slice sa m.seen.length sc] 27).below hb1 (by first | omega | (simp; done) | (simp; omega))
  have hB := ((Below.refl w.heap.size w).alloc (Nat.le_refl _) _).trans (hb1.mono (by first | omega | (simp; done) | (simp; omega)))
  clear hb1
  have rb := bb.cell
  go_wp2_with (first
    | (go_at_call 28; refine (HBn.out _ hB).mono ?_; rintro e w2 ⟨rfl, hb2⟩; refine at_stop ?_))
  unfold Stop
  replace bb := bb.below hb2 bb.lt
  replace hB := hB.trans (hb2.mono hB.size)
  clear rb hb2 HL HBn
  have rb := bb.cell
  rcases HV.out with rfl | ⟨rfl, h | h⟩
  · go_wp2_with (first
      | (go_at_call 12; refine (HA.out _).mono ?_; rintro e w3 ⟨rfl, hb3⟩))
    go_ret
    exact ⟨rfl, hB.trans (hb3.mono hB.size)⟩
  · have hz : ((m.herds.length : Int) == 0) = true := by rw [h]; rfl
    clear h
    go_wp2_with (first
      | (go_at_call 12; refine (HA.out _).mono ?_; rintro e w3 ⟨rfl, hb3⟩))
    go_ret
    exact ⟨rfl, hB.trans (hb3.mono hB.size)⟩
  · have hz : ((m.herds.length : Int) == 0) = false := by rw [beq_eq_false_iff_ne]; omega
    have hz2 : (2 : Int) < (m.herds.length : Int) := by omega
    clear h
    go_wp2_with (first
      | (go_at_call 12; refine (HA.out _).mono ?_; rintro e w3 ⟨rfl, hb3⟩))
    go_ret
    exact ⟨rfl, hB.trans (hb3.mono hB.size)⟩
theorem w_MobWhere (m : Mb) (A : Ma) (n1 n2 : Int) (w : World) (hm : MbAt w m A) (l1 : m.places.length ≤ maxLen) (l2 : m.legs.length ≤ maxLen) (l3 : m.herds.length ≤ maxLen) (l4 : m.seen.length ≤ maxLen) (wn1 : (Lit.int .u8 n1).wf = true) (wn2 : (Lit.int .u8 n2).wf = true) :
    Calls Try.prog 7 #[mv m A, .int .u8 n1, .int .u8 n2] w (Gives (.bool true) w) := by
  cases hl : longB m
  · cases hv : validM m
    · exact w_Where_no m A n1 n2 w hm hl (.inl hv)
    · have hb1 : 0 ≤ n1 ∧ n1 < 256 := by
        have := bounds_u8 wn1
        omega
      have hb2 : 0 ≤ n2 ∧ n2 < 256 := by
        have := bounds_u8 wn2
        omega
      obtain ⟨k1, rfl⟩ : ∃ k : Nat, n1 = (k : Int) := ⟨n1.toNat, by omega⟩
      obtain ⟨k2, rfl⟩ : ∃ k : Nat, n2 = (k : Int) := ⟨n2.toNat, by omega⟩
      by_cases h0 : m.herds.length = 0
      · exact w_Where_no m A _ _ w hm hl (.inr ⟨hv, .inl h0⟩)
      by_cases h2 : 2 < m.herds.length
      · exact w_Where_no m A _ _ w hm hl (.inr ⟨hv, .inr h2⟩)
      · exact w_Where_main m A k1 k2 (by omega) (by omega) w hm hv (by omega) (each_w hv (Nat.mod_lt _ (by omega)) (by have := Nat.mod_lt k2 (show 0 < 45 by omega); omega) hm)
  · exact w_Where_long m A n1 n2 w l1 l2 l3 l4 hl
end Go.Proofs.Yteeinehpneppnaa
