/- Parts of a proof: MxE. -/
import Derived.Test.YteeinehpneppnaaQ33
import Derived.Test.YteeinehpneppnaaQ38
import Derived.Test.YteeinehpneppnaaQ30
import Derived.Test.YteeinehpneppnaaQ36
import Derived.Test.YteeinehpneppnaaQ02
namespace Go.Ord.Two
theorem wp_regionNX {P : Program} {Q : Exit → Act → World → Prop} {id : Nat} {a : Act} {w : World} {lo : List Oper} (l1 l2 : List (Nat × Nat)) (H : World → Prop) (hm : P.follows .mixedOrders = true) (hp : planOk lo.toArray l1 l2 = true)
    (hH : H w.drew) (h : walk P lo.toArray H (Qn (Nm Q) (walk P lo.toArray (fun _ => True) (Nm Q) l2)) l1 a w.drew) : (Code.region id lo.toArray true).wp P Q a w := by
  refine wp_mono (wp_region (Q := Nm Q) l1 l2 H hm hp (fun c a d v w h => h.elim) hH h) ?_
  intro e a w h
  cases e <;> first | exact h | exact h.elim
end Go.Ord.Two
set_option linter.unusedVariables false
set_option linter.unusedSimpArgs false
namespace Go.Proofs.Yteeinehpneppnaa
open Go.RowKit Go.Proofs
attribute [local irreducible] Ord.walk
theorem min2_runX (a b : Int) (W : World) : (Builtin.min2 (.int .i64 a) (.int .i64 b)).run Try.prog W = .ok (.int .i64 (min a b)) W := by
  by_cases h : b < a
  · have : min a b = b := by omega
    simp [Builtin.min2, go_sem, h, this]
  · have : min a b = a := by omega
    simp [Builtin.min2, go_sem, h, this]
theorem wpList_min2X {ops : Array Oper} {Q : Exit → Act → World → Prop} {o : Oper} {rest : List Oper} {a : Act} {w : World} (x y : Operand) (hgd : o.guard = none) (ho : o.op = .call { callee := .builtin .min, args := [x, y].toArray, argTypes := #[3, 3] }) {p q : Int} (hx : a.eval x = .int .i64 p) (hy : a.eval y = .int .i64 q)
    (hK : wpList Try.prog ops Q rest (a.put o.dst (.int .i64 (min p q))) w) : wpList Try.prog ops Q (o :: rest) a w := by
  refine wpList_plain hgd fun K' hK' => ?_
  have := hK' _ _ hK
  unfold Oper.wp
  generalize a.eval = ev at *
  simp [execOp, ho, hx, hy, Builtin.min_, go_sem, min2_runX, Result.andThen]
  exact this
theorem yleg_lo {w : World} {gu p : Nat} {m : Mb} (h : RB w gu 39 2 spc m.legs) (hp : p < m.legs.length) : RB (w.setCell ⟨gu, p * 2, none⟩ (.int .i64 (min m.legs[p].2 (m.legs[p].1 + 1)))) gu 39 2 spc (yLeg m p true).legs := by
  have hg : m.legs.getD p (0, 0) = m.legs[p] := by rw [List.getD_eq_getElem?_getD, List.getElem?_eq_getElem hp]; rfl
  unfold yLeg
  rw [hg]
  exact RB.set (n := 2) (f := spc) (fun _ => rfl) h hp (j := 0) (x := nar true m.legs[p]) (v := .int .i64 (min m.legs[p].2 (m.legs[p].1 + 1))) (q := p * 2) (by omega) rfl (by omega)
theorem yleg_hi {w : World} {gu p : Nat} {m : Mb} (h : RB w gu 39 2 spc m.legs) (hp : p < m.legs.length) : RB (w.setCell ⟨gu, p * 2 + 1, none⟩ (.int .i64 (max m.legs[p].1 (m.legs[p].2 - 1)))) gu 39 2 spc (yLeg m p false).legs := by
  have hg : m.legs.getD p (0, 0) = m.legs[p] := by rw [List.getD_eq_getElem?_getD, List.getElem?_eq_getElem hp]; rfl
  unfold yLeg
  rw [hg]
  exact RB.set (n := 2) (f := spc) (fun _ => rfl) h hp (j := 1) (x := nar false m.legs[p]) (v := .int .i64 (max m.legs[p].1 (m.legs[p].2 - 1))) (q := p * 2 + 1) (by omega) rfl (by omega)
theorem yherd_lo {w : World} {gv i : Nat} {m : Mb} (h : RB w gv 56 4 i4c m.herds) (hi : i < m.herds.length) : RB (w.setCell ⟨gv, i * 4 + 1, none⟩ (.int .i64 (min m.herds[i].2.2.1 (m.herds[i].2.1 + 1)))) gv 56 4 i4c (yHerd m i true).herds := by
  have hg : m.herds.getD i (0, 0, 0, 0) = m.herds[i] := by rw [List.getD_eq_getElem?_getD, List.getElem?_eq_getElem hi]; rfl
  unfold yHerd
  rw [hg]
  exact RB.set (n := 4) (f := i4c) (fun _ => rfl) h hi (j := 1) (x := narH true m.herds[i]) (v := .int .i64 (min m.herds[i].2.2.1 (m.herds[i].2.1 + 1))) (q := i * 4 + 1) (by omega) rfl (by omega)
theorem yherd_hi {w : World} {gv i : Nat} {m : Mb} (h : RB w gv 56 4 i4c m.herds) (hi : i < m.herds.length) : RB (w.setCell ⟨gv, i * 4 + 1 + 1, none⟩ (.int .i64 (max m.herds[i].2.1 (m.herds[i].2.2.1 - 1)))) gv 56 4 i4c (yHerd m i false).herds := by
  have hg : m.herds.getD i (0, 0, 0, 0) = m.herds[i] := by rw [List.getD_eq_getElem?_getD, List.getElem?_eq_getElem hi]; rfl
  unfold yHerd
  rw [hg]
  exact RB.set (n := 4) (f := i4c) (fun _ => rfl) h hi (j := 2) (x := narH false m.herds[i]) (v := .int .i64 (max m.herds[i].2.1 (m.herds[i].2.2.1 - 1))) (q := i * 4 + 1 + 1) (by omega) rfl (by omega)
def so5 (j : Nat) : Option Nat := bif Nat.blt j 91 then (bif Nat.blt j 15 then none else bif Nat.blt j 19 then some (j - 9) else none) else bif Nat.blt j 97 then some (j - 91) else none
theorem so5_ok : ((List.range 545).all fun j => Ord.soL m5 j == so5 j) = true := by kernel_rfl
def so6 (j : Nat) : Option Nat := bif Nat.blt j 97 then none else bif Nat.blt j 112 then some (bif Nat.blt j 109 then j - 97 else bif Nat.blt j 110 then 12 else bif Nat.blt j 111 then 14 else 16) else none
theorem so6_ok : ((List.range 545).all fun j => Ord.soL m6 j == so6 j) = true := by kernel_rfl
set_option maxHeartbeats 40000000 in
set_option maxRecDepth 100000 in
theorem w_More_main (m : Mb) (A : Ma) (s : Int × Int × Int × Int) (n1 n2 n3 : Nat) (hn1 : n1 < 256) (hn2 : n2 < 256) (hn3 : n3 < 256) (w : World) (hm : MbAt w m A) (hv : validM m = true) (hh : 1 ≤ m.herds.length) :
    Calls Try.prog 10 #[mv m A, .agg #[.int .i64 s.1, .int .i64 s.2.1, .int .i64 s.2.2.1, .int .i64 s.2.2.2], .int .u8 n1, .int .u8 n2, .int .u8 n3] w (Gives (.bool true) w) := by
  have hln := validM_len hv
  have hM := validM_Mlen hv
  have HL : Hid (∀ W, Calls Try.prog 27 #[mv m A] W (Gives (.bool false) W)) := fun W => by
    have := l_long m A W (by unfold maxLen; omega) (by unfold maxLen; omega) (by unfold maxLen; omega) (by unfold maxLen; omega)
    rwa [longB_okV hv] at this
  have HBn : Hid (∀ W, Below w.heap.size w W → Calls Try.prog 28 #[mv m A] W (Gives (.bool true) W)) := fun W hb => by
    have := r_mob m A (long_len (longB_okV hv)) W (hm.below hb)
    rwa [hv] at this
  have hi : n1 % m.herds.length < m.herds.length := Nat.mod_lt _ (by omega)
  have hd : n2 % 45 ≤ 44 := by have := Nat.mod_lt n2 (show 0 < 45 by omega); omega
  have hr1 : (n1 : Int).tmod (m.herds.length : Int) = ((n1 % m.herds.length : Nat) : Int) := by rw [Int.tmod_eq_emod_of_nonneg (by omega)]; rfl
  have hr2 : (n2 : Int).tmod 45 = ((n2 % 45 : Nat) : Int) := by rw [Int.tmod_eq_emod_of_nonneg (by omega)]; rfl
  generalize n1 % m.herds.length = i at *
  generalize n2 % 45 = day at *
  have HMR : Hid (∀ W, Below w.heap.size w W → MbAt W m A) := fun W h => hm.below h
  have HR5 : Hid (∀ W, Below w.heap.size w W → MbAt W m A ∧ m.seen.length ≤ 40) := fun W h => ⟨hm.below h, by omega⟩
  have hsh : (m.places.length : Int) - 1 = ((shedN m : Nat) : Int) := by unfold shedN; omega
  have hsh6 : shedN m < 6 := by unfold shedN; omega
  generalize shedN m = sh at *
  have HA := Lib.hid l_alive
  have hz1 : ((m.herds.length : Int) == 0) = false := by rw [beq_eq_false_iff_ne]; omega
  have hz2 : ¬ (m.herds.length : Int) = 0 := by omega
  have hh4 : (m.herds.length : Int) ≤ 4 := by omega
  have HV := Lib.hid hv
  clear hm hv
  obtain ⟨s1, s2, s3, s4⟩ := s
  simp only
  have HMA : Hid (m = m) := rfl
  rcases A with ⟨pa, pc, la, lc, ha, hc, sa, sc⟩
  have hmve : mv m ⟨pa, pc, la, lc, ha, hc, sa, sc⟩ = .agg #[.slice pa m.places.length pc, .slice la m.legs.length lc, .slice ha m.herds.length hc, .slice sa m.seen.length sc] := rfl
  rw [hmve] at HL HBn ⊢
  clear hmve
  go_enter Try.func10, Try.ntmps10
  go_wp2_with (first
    | (go_at_call 27; refine (HL.out _).mono ?_; rintro e w1 ⟨rfl, hb1⟩; refine at_stop ?_))
  unfold Stop
  have bb := ((Blk.new w #[.slice pa m.places.length pc, .slice la m.legs.length lc, .slice ha m.herds.length hc, .slice sa m.seen.length sc] 27).alloc (.cells #[.int .i64 s1, .int .i64 s2, .int .i64 s3, .int .i64 s4] 64)).below hb1 (by first | omega | (simp; done) | (simp; omega))
  have b6 := (Blk.new' (w.alloc (.cells #[.slice pa m.places.length pc, .slice la m.legs.length lc, .slice ha m.herds.length hc, .slice sa m.seen.length sc] 27)) #[.int .i64 s1, .int .i64 s2, .int .i64 s3, .int .i64 s4] 64 (w.heap.size + 1) (by simp)).below hb1 (by first | omega | (simp; done) | (simp; omega))
  have hB : Below w.heap.size w w1 := (show Below w.heap.size w _ from by (repeat (first | assumption | exact Below.refl _ _ | refine Below.drew ?_ | refine Below.alloc ?_ (by first | omega | (simp; done) | (simp; omega)) _ | refine Below.setCell ?_ (by first | omega | (simp; done) | (simp; omega)) _ | refine Below.trans ?_ (Below.mono (by assumption) (by first | omega | (simp; done) | (simp; omega)))))).trans (hb1.mono (by first | omega | (simp; done) | (simp; omega)))
  clear hb1
  have rb := bb.cell
  go_wp2_with (first
    | (go_at_call 28; refine (HBn.out _ hB).mono ?_; rintro e w2 ⟨rfl, hb2⟩; refine at_stop ?_))
  unfold Stop
  clear rb
  replace bb := bb.below hb2 bb.lt
  replace b6 := b6.below hb2 b6.lt
  replace hB := hB.trans (hb2.mono hB.size)
  clear hb2 HL HBn
  have rb := bb.cell
  go_upto_region 4 with fail
  refine Ord.wp_regionN [(0, 0), (1, 0), (2, 0), (3, 0), (4, 0), (5, 0), (6, 0), (7, 0), (8, 0), (9, 0), (10, 0), (11, 0), (12, 0), (13, 0)] (fun _ => True) (by kernel_rfl) (by kernel_rfl) trivial ?_
  go_upto_region 5 with (first
    | (with_reducible refine Ord.at_nm ?_)
    | ((with_reducible refine Ord.at_calm ?_); refine Ord.calm_skip rfl ?_ (fun K hK => ?_); (focus (simp [Region.wanted, yielded]; done))) | with_reducible refine Ord.walk_calm rfl rfl (fun K hK => ?_) | ((with_reducible refine Ord.at_wild ?_); refine Ord.wild_fieldAddr rfl rfl (fun W => by simp [go_sem]; rfl) (fun K hK => ?_)) | ((with_reducible refine Ord.at_wild ?_); refine Ord.wild_move rfl rfl (fun K hK => ?_)) | ((with_reducible refine Ord.at_wild ?_); refine Ord.wild_nilCheck rfl rfl (fun K hK => ?_)) | with_reducible refine Ord.walk_eff rfl (by first | (simp; done) | assumption | (go_simp; done) | (repeat (first | assumption | exact Below.refl _ _ | refine Below.drew ?_ | refine Below.alloc ?_ (by first | omega | (simp; done) | (simp; omega)) _ | refine Below.setCell ?_ (by first | omega | (simp; done) | (simp; omega)) _ | refine Below.trans ?_ (Below.mono (by assumption) (by first | omega | (simp; done) | (simp; omega)))))) (fun K hK => ?_) | with_reducible refine Ord.at_fork ?_ ?_ | with_reducible refine Ord.walk_nil ?_ | (with_reducible refine Ord.next_of (by first | (simp; done) | (go_simp; done) | (repeat (first | assumption | exact Below.refl _ _ | refine Below.drew ?_ | refine Below.alloc ?_ (by first | omega | (simp; done) | (simp; omega)) _ | refine Below.setCell ?_ (by first | omega | (simp; done) | (simp; omega)) _ | refine Below.trans ?_ (Below.mono (by assumption) (by first | omega | (simp; done) | (simp; omega)))))) (fun _ => ?_)))
  have hlb := bb.lt
  have hl6 := b6.lt
  have hBs := hB.size
  replace bb := bb.drew
  replace b6 := b6.drew
  replace hB := hB.drew
  obtain ⟨wa, hwa⟩ : ∃ wa, w2.drew = wa := ⟨_, rfl⟩
  have hwas : w2.heap.size = wa.heap.size := by rw [← hwa]; simp
  rw [hwa] at bb b6 hB ⊢
  rw [hwas] at hlb hl6 hBs
  clear hwa hwas rb
  go_cut [15, 16, 17, 18] from 91 to 96 (fun x15 x16 x17 x18 wx => ∃ p15 p16 p17 p18 g c, x15 = .pointer (some ⟨p15, 0, none⟩) ∧ x16 = .pointer (some ⟨p16, 0, none⟩) ∧ x17 = .pointer (some ⟨p17, 0, none⟩) ∧ x18 = .pointer (some ⟨p18, 0, none⟩) ∧ Below wa.heap.size wa wx ∧
    Blk wx p15 (mcells (withM m (s1, s2, s3, s4)) (xMa ⟨pa, pc, la, lc, ha, hc, sa, sc⟩ g c)) 27 ∧ xRow wx wa.heap.size m (s1, s2, s3, s4) g c ∧ Blk wx p16 (mcells m ⟨pa, pc, la, lc, ha, hc, sa, sc⟩) 27 ∧ Blk wx p17 (mcells m ⟨pa, pc, la, lc, ha, hc, sa, sc⟩) 27 ∧ Blk wx p18 (mcells m ⟨pa, pc, la, lc, ha, hc, sa, sc⟩) 27 ∧ [p15, g, p16, p17, p18].Nodup ∧ (∀ k ∈ [p15, g, p16, p17, p18], wa.heap.size ≤ k))
  case first =>
    as_aux_lemma =>
      rename_i J1 K1 hJ1 hK1
      obtain ⟨hmW, hl40⟩ := HR5.out _ hB
      refine more_r5 (m := m) (A := ⟨pa, pc, la, lc, ha, hc, sa, sc⟩) (s := (s1, s2, s3, s4)) rfl rfl rfl bb b6 hmW hl40 ?_
      clear hmW hl40 HR5 HMR HV HA hB
      intro vals W p15 p16 p17 p18 g c hBx v6 v7 v8 v9 B15 row B16 B17 B18 hnd hge
      rw [Fr_fast so5_ok rfl]
      refine hK1 _ _ (show J1 _ _ from hJ1 _ _ ?_)
      (repeat apply Exists.intro)
      refine ⟨⟨p15, p16, p17, p18, g, c, v6, v7, v8, v9, hBx, B15, row, B16, B17, B18, hnd, hge⟩, ?_⟩
      rfl
  case rest =>
    obtain ⟨p15, p16, p17, p18, g, c, rfl, rfl, rfl, rfl, hBx, B15, row, B16, B17, B18, hnd, hge⟩ := hcut
    obtain ⟨z, hz⟩ : ∃ z, wa.heap.size = z := ⟨_, rfl⟩
    rw [hz] at hlb hl6 hBs hBx row hge
    clear hz
    replace bb := bb.below hBx hlb
    replace b6 := b6.below hBx hl6
    have hBc : Below w.heap.size w wc := hB.trans (hBx.mono hBs)
    simp only [List.nodup_cons, List.mem_cons, List.not_mem_nil, or_false, not_or, List.nodup_nil, and_true, not_false_eq_true, forall_eq_or_imp, forall_eq] at hnd hge
    have HND := Lib.hid hnd
    have HGE := Lib.hid hge
    clear hnd hge HR5 hB hBx b6
    go_upto_region 6 with fail
    generalize wc = wb at *
    clear wc
    have hl15 := B15.lt
    have hl16 := B16.lt
    have hl17 := B17.lt
    have hl18 := B18.lt
    have hlg := row.lt g (by simp)
    go_cut [] from 97 to 111 (fun wx => ∃ u bu v bv u2 b2, Below z wb wx ∧ Y2 wx wb.heap.size p16 m ⟨pa, pc, la, lc, ha, hc, sa, sc⟩ u bu v bv ∧ T1 wx wb.heap.size p18 m ⟨pa, pc, la, lc, ha, hc, sa, sc⟩ u2 b2 ∧ Blk wx p15 (mcells (withM m (s1, s2, s3, s4)) (xMa ⟨pa, pc, la, lc, ha, hc, sa, sc⟩ g c)) 27 ∧ xRow wx z m (s1, s2, s3, s4) g c ∧ Blk wx p17 (mcells m ⟨pa, pc, la, lc, ha, hc, sa, sc⟩) 27 ∧ (∀ k ∈ p16 :: (bu ++ bv), k ∉ p18 :: b2) ∧ (∀ k ∈ [p15, g, p17], k ∉ p16 :: (bu ++ bv) ∧ k ∉ p18 :: b2))
    case first =>
      as_aux_lemma =>
        rename_i J1 K1 hJ1 hK1
        have hmW : ∀ W, Below z wb W → MbAt W m ⟨pa, pc, la, lc, ha, hc, sa, sc⟩ := fun W h => HMR.out W (hBc.trans (h.mono hBs))
        obtain ⟨q1, q2, q3, q4⟩ := HND.out
        obtain ⟨g1, g2, g3, g4, g5⟩ := HGE.out
        refine more_r6 (m := m) (A := ⟨pa, pc, la, lc, ha, hc, sa, sc⟩) (z := z) (p5 := w.heap.size) (p16 := p16) (p18 := p18) (B := [p15, g, p17]) (K := fun w => Blk w p15 (mcells (withM m (s1, s2, s3, s4)) (xMa ⟨pa, pc, la, lc, ha, hc, sa, sc⟩ g c)) 27 ∧ xRow w z m (s1, s2, s3, s4) g c ∧ Blk w p17 (mcells m ⟨pa, pc, la, lc, ha, hc, sa, sc⟩) 27) rfl rfl rfl rfl bb hlb B16 B18 g3 g5 hmW hM (by omega) (by omega) ?_ ⟨B15, row, B17⟩ ?_ ?_ ?_ ?_ ?_ ?_
        · rintro w1 w2 h ⟨h1, h2, h3⟩
          exact ⟨(h p15 (by simp)).trans h1, OwnT.stay h2 (fun k hk => h k (by simp at hk; simp [hk])), (h p17 (by simp)).trans h3⟩
        · rintro w1 ⟨h1, h2, h3⟩
          exact ⟨h1.drew, OwnT.stay h2 (fun _ _ => rfl), h3.drew⟩
        · intro k hk
          simp only [List.mem_cons, List.not_mem_nil, or_false] at hk
          rcases hk with rfl | rfl | rfl
          · exact ⟨g1, hl15⟩
          · exact hlg
          · exact ⟨g4, hl17⟩
        · omega
        · simp only [List.mem_cons, List.not_mem_nil, or_false, not_or]; omega
        · simp only [List.mem_cons, List.not_mem_nil, or_false, not_or]; omega
        · clear hmW HMR HV HA hBc
          intro vals W u bu v bv u2 b2 hBx hY hT hK hd1 hd2
          rw [Fr_fast so6_ok rfl]
          refine hK1 _ _ (show J1 _ _ from hJ1 _ _ ?_)
          (repeat apply Exists.intro)
          refine ⟨⟨u, bu, v, bv, u2, b2, hBx, hY, hT, hK.1, hK.2.1, hK.2.2, hd1, hd2⟩, ?_⟩
          rfl
    case rest =>
      obtain ⟨u, bu, v, bv, u2, b2, hBy, ⟨C16, hu, hv, hdj⟩, ⟨C18, hu2⟩, C15, row2, C17, hd1, hd2⟩ := hcut
      obtain ⟨n0, hn0⟩ : ∃ n0, wb.heap.size = n0 := ⟨_, rfl⟩
      rw [hn0] at hu hv hu2
      have hzn : z ≤ n0 := by have := hlg.2; omega
      have hsy := hBy.size
      have hpn : p15 < n0 ∧ g < n0 ∧ p16 < n0 ∧ p17 < n0 ∧ p18 < n0 := by have := hlg.2; omega
      obtain ⟨gu, cu, rfl, hgu, RU⟩ := (CopyV.of_own hu.2).blk (by omega)
      obtain ⟨gv, cv, rfl, hgv, RV⟩ := (CopyV.of_own hv.2).blk (by omega)
      obtain ⟨gt, ct, rfl, hgt, RT⟩ := (CopyV.of_own hu2.2).blk (by omega)
      have RG : RB wc g 64 4 i4c (m.seen ++ [(s1, s2, s3, s4)]) := by
        obtain ⟨g', c', e', _, h⟩ := (CopyV.of_own row2.2).blk (by simp)
        simp only [Value.slice.injEq, Option.some.injEq, Addr.mk.injEq] at e'
        rw [e'.1.1]; exact h
      have hne : gu ≠ gv ∧ gu ≠ gt ∧ gv ≠ gt := by
        have e1 := hu.1
        have e2 := hv.1
        have e3 := hu2.1
        simp only [Value.ownBlock, Option.toList] at e1 e2 e3
        subst e1 e2 e3
        simp at hdj hd1
        omega
      have hBz : Below w.heap.size w wc := hBc.trans (hBy.mono hBs)
      have hbl : w.heap.size < z := hlb
      replace bb := bb.below hBy hbl
      obtain ⟨q1, q2, q3, q4⟩ := HND.out
      have hpz : z ≤ p15 ∧ z ≤ g ∧ z ≤ p16 ∧ z ≤ p17 ∧ z ≤ p18 := HGE.out
      have HGP : Hid (g ≠ p17 ∧ g ≠ p18) := ⟨q2.2.1, q2.2.2⟩
      have hq : p16 ≠ p17 ∧ p16 ≠ p18 ∧ p17 ≠ p18 ∧ p15 ≠ p16 ∧ p15 ≠ p17 ∧ p15 ≠ p18 := by omega
      clear q1 q2 q3 q4 hu hv hu2 hdj hd1 hd2 row2 row B15 B16 B17 B18 hlg hl15 hl16 hl17 hl18 HND HGE hBc hBy hsy hlb hn0
      obtain ⟨p, hp⟩ : ∃ p, n2 % m.legs.length = p := ⟨_, rfl⟩
      have hpl : p < m.legs.length := by rw [← hp]; exact Nat.mod_lt _ (by omega)
      have hr3 : (n2 : Int).tmod (m.legs.length : Int) = (p : Int) := by rw [← hp, Int.tmod_eq_emod_of_nonneg (by omega)]; rfl
      have hpli : (p : Int) < (m.legs.length : Int) := Int.ofNat_lt.2 hpl
      have hl5 : (m.legs.length : Int) ≤ 5 := by omega
      have hlz : ¬ (m.legs.length : Int) = 0 := by omega
      clear hp
      have r16 := C16.cell
      go_upto_region 7 with fail
      refine Ord.wp_regionN [(0, 0), (1, 0), (2, 0), (3, 0), (4, 0), (5, 0), (6, 0), (7, 0), (8, 0), (9, 0)] (fun _ => True) (by kernel_rfl) (by kernel_rfl) trivial ?_
      go_upto_region 8 with (first
        | (with_reducible refine Ord.at_nm ?_)
        | ((with_reducible refine Ord.at_calm ?_); refine Ord.calm_skip rfl ?_ (fun K hK => ?_); (focus (simp [Region.wanted, yielded]; done))) | with_reducible refine Ord.walk_calm rfl rfl (fun K hK => ?_) | ((with_reducible refine Ord.at_wild ?_); refine Ord.wild_fieldAddr rfl rfl (fun W => by simp [go_sem]; rfl) (fun K hK => ?_)) | ((with_reducible refine Ord.at_wild ?_); refine Ord.wild_move rfl rfl (fun K hK => ?_)) | ((with_reducible refine Ord.at_wild ?_); refine Ord.wild_nilCheck rfl rfl (fun K hK => ?_)) | with_reducible refine Ord.walk_eff rfl (by first | (simp; done) | assumption | (go_simp; done) | (repeat (first | assumption | exact Below.refl _ _ | refine Below.drew ?_ | refine Below.alloc ?_ (by first | omega | (simp; done) | (simp; omega)) _ | refine Below.setCell ?_ (by first | omega | (simp; done) | (simp; omega)) _ | refine Below.trans ?_ (Below.mono (by assumption) (by first | omega | (simp; done) | (simp; omega)))))) (fun K hK => ?_) | with_reducible refine Ord.at_fork ?_ ?_ | with_reducible refine Ord.walk_nil ?_ | (with_reducible refine Ord.next_of (by first | (simp; done) | (go_simp; done) | (repeat (first | assumption | exact Below.refl _ _ | refine Below.drew ?_ | refine Below.alloc ?_ (by first | omega | (simp; done) | (simp; omega)) _ | refine Below.setCell ?_ (by first | omega | (simp; done) | (simp; omega)) _ | refine Below.trans ?_ (Below.mono (by assumption) (by first | omega | (simp; done) | (simp; omega)))))) (fun _ => ?_)))
      clear r16
      replace bb := bb.drew
      replace C15 := C15.drew
      replace C16 := C16.drew
      replace C17 := C17.drew
      replace C18 := C18.drew
      replace RU := RU.move (fun _ h => h.drew)
      replace RV := RV.move (fun _ h => h.drew)
      replace RT := RT.move (fun _ h => h.drew)
      replace RG := RG.move (fun _ h => h.drew)
      replace hBz := hBz.drew
      generalize wc.drew = wy at *
      clear wc
      obtain ⟨leaf, HLf⟩ : ∃ leaf, Hid (((n3 : Int) % 2 = 0 ∧ leaf = true) ∨ ((n3 : Int) % 2 = 1 ∧ leaf = false)) := by
        rcases (show (n3 : Int) % 2 = 0 ∨ (n3 : Int) % 2 = 1 by omega) with h | h
        · exact ⟨true, .inl ⟨h, rfl⟩⟩
        · exact ⟨false, .inr ⟨h, rfl⟩⟩
      obtain ⟨low, HLw⟩ : ∃ low, Hid ((((n3 : Int) % 4 = 0 ∨ (n3 : Int) % 4 = 1) ∧ low = true) ∨ (((n3 : Int) % 4 = 2 ∨ (n3 : Int) % 4 = 3) ∧ low = false)) := by
        rcases (show ((n3 : Int) % 4 = 0 ∨ (n3 : Int) % 4 = 1) ∨ ((n3 : Int) % 4 = 2 ∨ (n3 : Int) % 4 = 3) by omega) with h | h
        · exact ⟨true, .inl ⟨h, rfl⟩⟩
        · exact ⟨false, .inr ⟨h, rfl⟩⟩
      have hii : (i : Int) < (m.herds.length : Int) := Int.ofNat_lt.2 hi
      go_upto_if 123 with fail
      go_cut [19] from 121 to 128 (fun x19 wx => wx = wy ∧ x19 = .pointer (some (if leaf = true then ⟨gv, i * 4 + 1, none⟩ else ⟨gu, p * 2, none⟩)))
      case first =>
        as_aux_lemma =>
          have r16 := C16.cell
          rcases HLf.out with ⟨h2, rfl⟩ | ⟨h2, rfl⟩
          all_goals
            go_wp2_with fail
            go_meet
            exact ⟨rfl, by simp⟩
      case rest =>
        obtain ⟨hw, rfl⟩ := hcut
        have hw2 := hw.symm
        clear hw
        subst hw2
        go_upto_if 131 with fail
        go_cut [] from 129 to 157 (fun wx => ∃ q : Mb, ((leaf = false ∧ q = yLeg m p low) ∨ (leaf = true ∧ q = yHerd m i low)) ∧ Off [gu, gv] wy.heap.size wy wx ∧ RB wx gu 39 2 spc q.legs ∧ RB wx gv 56 4 i4c q.herds)
        case first =>
          as_aux_lemma =>
            have hpl1 := (vparts HV.out).lg _ (List.getElem_mem hpl)
            have hhl1 := (vparts HV.out).hd _ (List.getElem_mem hi)
            obtain ⟨_, _, e1, cl, ch⟩ := (RB.rows (n := 2) (f := spc) (fun _ => rfl) RU).get2 hpl
            cases e1
            obtain ⟨_, _, e2, dl0, dl, dh, d4⟩ := (RB.rows (n := 4) (f := i4c) (fun _ => rfl) RV).get4 hi
            cases e2
            simp only [Nat.zero_add] at cl ch dl dh
            clear dl0 d4
            have fu := RU.free (p * 2)
            have fu1 := RU.free (p * 2 + 1)
            have fv := RV.free (i * 4 + 1)
            have fv1 := RV.free (i * 4 + 1 + 1)
            rcases HLf.out with ⟨h2, rfl⟩ | ⟨h2, rfl⟩ <;> rcases HLw.out with ⟨h4 | h4, rfl⟩ | ⟨h4 | h4, rfl⟩
            · go_upto_region 11 with fail
              refine Ord.wp_regionN [(0, 0), (1, 0), (2, 0), (3, 0), (4, 0), (5, 0), (6, 0), (7, 0), (8, 0), (9, 0), (10, 0), (11, 0), (12, 0), (13, 2)] (fun _ => True) (by kernel_rfl) (by kernel_rfl) trivial ?_
              go_wp2_with (first
                | (refine wpList_min2X (.tmp 136) (.tmp 141) rfl rfl rfl rfl ?_)
                | (with_reducible refine Ord.at_nm ?_)
                | ((with_reducible refine Ord.at_calm ?_); refine Ord.calm_skip rfl ?_ (fun K hK => ?_); (focus (simp [Region.wanted, yielded]; done))) | with_reducible refine Ord.walk_calm rfl rfl (fun K hK => ?_) | ((with_reducible refine Ord.at_wild ?_); refine Ord.wild_fieldAddr rfl rfl (fun W => by simp [go_sem]; rfl) (fun K hK => ?_)) | ((with_reducible refine Ord.at_wild ?_); refine Ord.wild_move rfl rfl (fun K hK => ?_)) | ((with_reducible refine Ord.at_wild ?_); refine Ord.wild_nilCheck rfl rfl (fun K hK => ?_)) | with_reducible refine Ord.walk_eff rfl (by first | (simp; done) | assumption | (go_simp; done) | (repeat (first | assumption | exact Below.refl _ _ | refine Below.drew ?_ | refine Below.alloc ?_ (by first | omega | (simp; done) | (simp; omega)) _ | refine Below.setCell ?_ (by first | omega | (simp; done) | (simp; omega)) _ | refine Below.trans ?_ (Below.mono (by assumption) (by first | omega | (simp; done) | (simp; omega)))))) (fun K hK => ?_) | with_reducible refine Ord.at_fork ?_ ?_ | with_reducible refine Ord.walk_nil ?_ | (with_reducible refine Ord.next_of (by first | (simp; done) | (go_simp; done) | (repeat (first | assumption | exact Below.refl _ _ | refine Below.drew ?_ | refine Below.alloc ?_ (by first | omega | (simp; done) | (simp; omega)) _ | refine Below.setCell ?_ (by first | omega | (simp; done) | (simp; omega)) _ | refine Below.trans ?_ (Below.mono (by assumption) (by first | omega | (simp; done) | (simp; omega)))))) (fun _ => ?_)))
              go_meet
              exact ⟨yHerd m i true, by simp, (Off.refl _ _ _).drew.setCell (.inl (by simp)) _, RU.move (fun _ h => h.drew.other (by first | exact hne.1 | exact hne.1.symm) _), yherd_lo (RV.move (fun _ h => h.drew)) hi⟩
            · exfalso; omega
            · go_upto_region 12 with fail
              refine Ord.wp_regionN [(0, 0), (1, 0), (2, 0), (3, 0), (4, 0), (5, 0), (6, 0), (7, 0), (8, 0), (9, 0), (10, 0), (11, 0), (12, 0), (13, 2)] (fun _ => True) (by kernel_rfl) (by kernel_rfl) trivial ?_
              go_wp2_with (first
                | (refine wpList_max2 (.tmp 149) (.tmp 154) rfl rfl rfl rfl ?_)
                | (with_reducible refine Ord.at_nm ?_)
                | ((with_reducible refine Ord.at_calm ?_); refine Ord.calm_skip rfl ?_ (fun K hK => ?_); (focus (simp [Region.wanted, yielded]; done))) | with_reducible refine Ord.walk_calm rfl rfl (fun K hK => ?_) | ((with_reducible refine Ord.at_wild ?_); refine Ord.wild_fieldAddr rfl rfl (fun W => by simp [go_sem]; rfl) (fun K hK => ?_)) | ((with_reducible refine Ord.at_wild ?_); refine Ord.wild_move rfl rfl (fun K hK => ?_)) | ((with_reducible refine Ord.at_wild ?_); refine Ord.wild_nilCheck rfl rfl (fun K hK => ?_)) | with_reducible refine Ord.walk_eff rfl (by first | (simp; done) | assumption | (go_simp; done) | (repeat (first | assumption | exact Below.refl _ _ | refine Below.drew ?_ | refine Below.alloc ?_ (by first | omega | (simp; done) | (simp; omega)) _ | refine Below.setCell ?_ (by first | omega | (simp; done) | (simp; omega)) _ | refine Below.trans ?_ (Below.mono (by assumption) (by first | omega | (simp; done) | (simp; omega)))))) (fun K hK => ?_) | with_reducible refine Ord.at_fork ?_ ?_ | with_reducible refine Ord.walk_nil ?_ | (with_reducible refine Ord.next_of (by first | (simp; done) | (go_simp; done) | (repeat (first | assumption | exact Below.refl _ _ | refine Below.drew ?_ | refine Below.alloc ?_ (by first | omega | (simp; done) | (simp; omega)) _ | refine Below.setCell ?_ (by first | omega | (simp; done) | (simp; omega)) _ | refine Below.trans ?_ (Below.mono (by assumption) (by first | omega | (simp; done) | (simp; omega)))))) (fun _ => ?_)))
              go_meet
              exact ⟨yHerd m i false, by simp, (Off.refl _ _ _).drew.setCell (.inl (by simp)) _, RU.move (fun _ h => h.drew.other (by first | exact hne.1 | exact hne.1.symm) _), yherd_hi (RV.move (fun _ h => h.drew)) hi⟩
            · exfalso; omega
            · exfalso; omega
            · go_upto_region 11 with fail
              refine Ord.wp_regionN [(0, 0), (1, 0), (2, 0), (3, 0), (4, 0), (5, 0), (6, 0), (7, 0), (8, 0), (9, 0), (10, 0), (11, 0), (12, 0), (13, 2)] (fun _ => True) (by kernel_rfl) (by kernel_rfl) trivial ?_
              go_wp2_with (first
                | (refine wpList_min2X (.tmp 136) (.tmp 141) rfl rfl rfl rfl ?_)
                | (with_reducible refine Ord.at_nm ?_)
                | ((with_reducible refine Ord.at_calm ?_); refine Ord.calm_skip rfl ?_ (fun K hK => ?_); (focus (simp [Region.wanted, yielded]; done))) | with_reducible refine Ord.walk_calm rfl rfl (fun K hK => ?_) | ((with_reducible refine Ord.at_wild ?_); refine Ord.wild_fieldAddr rfl rfl (fun W => by simp [go_sem]; rfl) (fun K hK => ?_)) | ((with_reducible refine Ord.at_wild ?_); refine Ord.wild_move rfl rfl (fun K hK => ?_)) | ((with_reducible refine Ord.at_wild ?_); refine Ord.wild_nilCheck rfl rfl (fun K hK => ?_)) | with_reducible refine Ord.walk_eff rfl (by first | (simp; done) | assumption | (go_simp; done) | (repeat (first | assumption | exact Below.refl _ _ | refine Below.drew ?_ | refine Below.alloc ?_ (by first | omega | (simp; done) | (simp; omega)) _ | refine Below.setCell ?_ (by first | omega | (simp; done) | (simp; omega)) _ | refine Below.trans ?_ (Below.mono (by assumption) (by first | omega | (simp; done) | (simp; omega)))))) (fun K hK => ?_) | with_reducible refine Ord.at_fork ?_ ?_ | with_reducible refine Ord.walk_nil ?_ | (with_reducible refine Ord.next_of (by first | (simp; done) | (go_simp; done) | (repeat (first | assumption | exact Below.refl _ _ | refine Below.drew ?_ | refine Below.alloc ?_ (by first | omega | (simp; done) | (simp; omega)) _ | refine Below.setCell ?_ (by first | omega | (simp; done) | (simp; omega)) _ | refine Below.trans ?_ (Below.mono (by assumption) (by first | omega | (simp; done) | (simp; omega)))))) (fun _ => ?_)))
              go_meet
              exact ⟨yLeg m p true, by simp, (Off.refl _ _ _).drew.setCell (.inl (by simp)) _, yleg_lo (RU.move (fun _ h => h.drew)) hpl, RV.move (fun _ h => h.drew.other (by first | exact hne.1 | exact hne.1.symm) _)⟩
            · exfalso; omega
            · go_upto_region 12 with fail
              refine Ord.wp_regionN [(0, 0), (1, 0), (2, 0), (3, 0), (4, 0), (5, 0), (6, 0), (7, 0), (8, 0), (9, 0), (10, 0), (11, 0), (12, 0), (13, 2)] (fun _ => True) (by kernel_rfl) (by kernel_rfl) trivial ?_
              go_wp2_with (first
                | (refine wpList_max2 (.tmp 149) (.tmp 154) rfl rfl rfl rfl ?_)
                | (with_reducible refine Ord.at_nm ?_)
                | ((with_reducible refine Ord.at_calm ?_); refine Ord.calm_skip rfl ?_ (fun K hK => ?_); (focus (simp [Region.wanted, yielded]; done))) | with_reducible refine Ord.walk_calm rfl rfl (fun K hK => ?_) | ((with_reducible refine Ord.at_wild ?_); refine Ord.wild_fieldAddr rfl rfl (fun W => by simp [go_sem]; rfl) (fun K hK => ?_)) | ((with_reducible refine Ord.at_wild ?_); refine Ord.wild_move rfl rfl (fun K hK => ?_)) | ((with_reducible refine Ord.at_wild ?_); refine Ord.wild_nilCheck rfl rfl (fun K hK => ?_)) | with_reducible refine Ord.walk_eff rfl (by first | (simp; done) | assumption | (go_simp; done) | (repeat (first | assumption | exact Below.refl _ _ | refine Below.drew ?_ | refine Below.alloc ?_ (by first | omega | (simp; done) | (simp; omega)) _ | refine Below.setCell ?_ (by first | omega | (simp; done) | (simp; omega)) _ | refine Below.trans ?_ (Below.mono (by assumption) (by first | omega | (simp; done) | (simp; omega)))))) (fun K hK => ?_) | with_reducible refine Ord.at_fork ?_ ?_ | with_reducible refine Ord.walk_nil ?_ | (with_reducible refine Ord.next_of (by first | (simp; done) | (go_simp; done) | (repeat (first | assumption | exact Below.refl _ _ | refine Below.drew ?_ | refine Below.alloc ?_ (by first | omega | (simp; done) | (simp; omega)) _ | refine Below.setCell ?_ (by first | omega | (simp; done) | (simp; omega)) _ | refine Below.trans ?_ (Below.mono (by assumption) (by first | omega | (simp; done) | (simp; omega)))))) (fun _ => ?_)))
              go_meet
              exact ⟨yLeg m p false, by simp, (Off.refl _ _ _).drew.setCell (.inl (by simp)) _, yleg_hi (RU.move (fun _ h => h.drew)) hpl, RV.move (fun _ h => h.drew.other (by first | exact hne.1 | exact hne.1.symm) _)⟩
        case rest =>
          obtain ⟨q, hq', hO, RU', RV'⟩ := hcut
          have HQ : Hid ((validM q = true → Like m q ∧ ∀ t ∈ TM q, t ∈ TM m) ∧ Mlen q ∧ q.places = m.places ∧ q.legs.length = m.legs.length ∧ q.herds.length = m.herds.length ∧ q.seen = m.seen) := by
            obtain ⟨l1, l2, l3, l4⟩ := hM
            rcases hq' with ⟨_, rfl⟩ | ⟨_, rfl⟩
            · have e : (yLeg m p low).legs.length = m.legs.length := by simp [yLeg]
              exact ⟨fun h => yleg_sub HV.out hpl h, ⟨l1, by rw [e]; exact l2, l3, l4⟩, rfl, e, rfl, rfl⟩
            · have e : (yHerd m i low).herds.length = m.herds.length := by simp [yHerd]
              exact ⟨fun h => yherd_sub HV.out hi h, ⟨l1, l2, by rw [e]; exact l3, l4⟩, rfl, rfl, e, rfl⟩
          have hOs := hO.size
          have hgl : gu < wy.heap.size ∧ gv < wy.heap.size := ⟨RU.lt, RV.lt⟩
          have mvb : ∀ {b : Nat} {C : Array Value} {t : TypeId}, Blk wy b C t → b < n0 → Blk wc b C t := fun h hb => hO.blk h h.lt (by simp; omega)
          replace bb := mvb bb (by omega)
          replace C15 := mvb C15 hpn.1
          replace C16 := mvb C16 hpn.2.2.1
          replace C17 := mvb C17 hpn.2.2.2.1
          replace C18 := mvb C18 hpn.2.2.2.2
          replace RT := RT.move (fun _ h => hO.blk h h.lt (by simp; omega))
          replace RG := RG.move (fun _ h => mvb h hpn.2.1)
          replace hBz := hBz.trans (hO.below (by have := hBz.size; omega) (by simp; omega))
          clear mvb hO hOs hgl hq' RU RV HLf HLw HMA
          generalize hx19 : (Value.pointer (some (if leaf = true then (⟨gv, i * 4 + 1, none⟩ : Addr) else ⟨gu, p * 2, none⟩))) = x19 at *
          clear hx19
          have r17 := C17.cell
          have r18 := C18.cell
          have f17 := C17.free
          have f18 := C18.free
          go_upto_region 14 with fail
          obtain ⟨W, hW⟩ : ∃ W, (((wc.setCell ⟨p17, 2, none⟩ (.slice none 0 0)).setCell ⟨p17, 3, none⟩ (.slice none 0 0)).setCell ⟨p18, 3, none⟩ (.slice none 0 0)) = W := ⟨_, rfl⟩
          have hOW : Off [p17, p18] wc.heap.size wc W := by rw [← hW]; exact (((Off.refl _ _ _).setCell (.inl (by simp)) _).setCell (.inl (by simp)) _).setCell (.inl (by simp)) _
          have D17 : Blk W p17 #[.slice pa m.places.length pc, .slice la m.legs.length lc, .slice none 0 0, .slice none 0 0] 27 := by rw [← hW]; exact ((C17.set 2 _).set 3 _).other (p := ⟨p18, 3, none⟩) (by show p17 ≠ p18; omega) _
          have D18 : Blk W p18 #[.slice pa m.places.length pc, .slice la m.legs.length lc, .slice (some ⟨gt, 0, none⟩) m.herds.length ct, .slice none 0 0] 27 := by rw [← hW]; exact ((C18.other (p := ⟨p17, 2, none⟩) (by show p18 ≠ p17; omega) _).other (p := ⟨p17, 3, none⟩) (by show p18 ≠ p17; omega) _).set 3 _
          rw [hW]
          have hOs := hOW.size
          have mvb : ∀ {b : Nat} {C : Array Value} {t : TypeId}, Blk wc b C t → b ≠ p17 → b ≠ p18 → Blk W b C t := fun h h1 h2 => hOW.blk h h.lt (by simp; omega)
          replace bb := mvb bb (by omega) (by omega)
          replace C15 := mvb C15 (by omega) (by omega)
          replace C16 := mvb C16 (by omega) (by omega)
          replace RT := RT.move (fun _ h => mvb h (by omega) (by omega))
          replace RU' := RU'.move (fun _ h => mvb h (by omega) (by omega))
          replace RV' := RV'.move (fun _ h => mvb h (by omega) (by omega))
          have hgp : g ≠ p17 ∧ g ≠ p18 := HGP.out
          replace RG := RG.move (fun _ h => mvb h hgp.1 hgp.2)
          replace hBz := hBz.trans (hOW.below (by have := hBz.size; omega) (by simp; omega))
          clear mvb hOW hOs hW C17 C18 r17 r18 f17 f18
          generalize W = wd at *
          clear W
          have HRv : Hid (∀ k, (h : k < m.herds.length) → ∃ j, ∃ hj : j < m.herds.length, (m.herds.length : Int) - 1 - (k : Int) = (j : Int) ∧ m.herds.reverse.take (k + 1) = m.herds.reverse.take k ++ [m.herds[j]]) := fun k h => ⟨m.herds.length - 1 - k, by omega, by omega, by
            rw [List.take_succ_eq_append_getElem (by rw [List.length_reverse]; exact h), List.getElem_reverse]⟩
          obtain ⟨ih, hih, hzh0, hzh1, hzh2⟩ := info_of Try.info56
          have rb := bb.cell
          have hl17 := D17.lt
          obtain ⟨zc, hzc'⟩ : ∃ z, wd.heap.size = z := ⟨_, rfl⟩
          have hzc : wd.heap.size ≤ zc ∧ zc ≤ wd.heap.size := by omega
          clear hzc'
          go_wp2_with fail
          clear rb
          go_loopw [20, 164] (fun x20 x164 wr => ∃ (k : Nat) (v : Value), k ≤ m.herds.length ∧ x164 = .int .i64 (k : Int) ∧ Off [p17] zc wd wr ∧ Blk wr p17 #[.slice pa m.places.length pc, .slice la m.legs.length lc, v, .slice none 0 0] 27 ∧ wr.ownsRow zc 56 4 v (m.herds.reverse.take k).length ((m.herds.reverse.take k).flatMap i4c)) (fun _ x164 _ => m.herds.length - (intOf x164).toNat)
          case atStart => exact ⟨0, .slice none 0 0, by omega, rfl, Off.refl _ _ _, D17, by simpa using World.ownsRow_nil _ _ _ _⟩
          case round =>
            as_aux_lemma =>
              obtain ⟨k, v, hk, rfl, hO, E17, own⟩ := hrel
              have hsO := hO.size
              have hBr : Below w.heap.size w wr := hBz.trans (hO.below (by have := hBz.size; omega) (by simp; omega))
              by_cases hlt : k < m.herds.length
              · have hlti : (k : Int) < (m.herds.length : Int) := Int.ofNat_lt.2 hlt
                obtain ⟨j, hj, hji, hta⟩ := HRv.out k hlt
                have hjl : (j : Int) < (m.herds.length : Int) := Int.ofNat_lt.2 hj
                obtain ⟨gh, goh, rfl, c1, c2, c3, c4⟩ := (HMR.out _ hBr).herds.get4 hj
                have bbr := hO.blk bb (by have := bb.lt; omega) (by simp; omega)
                have rb := bbr.cell
                have rv : wr.cell? ⟨p17, 2, none⟩ = some v := by rw [E17.cell]; rfl
                have hkl : (m.herds.reverse.take k).length = k := by rw [List.length_take, List.length_reverse]; omega
                rw [hkl] at own
                have HTA := Lib.hid hta
                have E17' := E17
                clear hta hkl
                obtain ⟨h1, h2, h3, h4, hje⟩ : ∃ h1 h2 h3 h4 : Int, m.herds[j] = (h1, h2, h3, h4) := ⟨_, _, _, _, rfl⟩
                rw [hje] at c1 c2 c3 c4
                simp only at c1 c2 c3 c4
                have hl17r : p17 < wr.heap.size := E17.lt
                have hH0 : (wr.drew).cell? ⟨p17, 2, none⟩ = some v := rv
                have hH1 : ∀ o, ((wr.alloc o).drew).cell? ⟨p17, 2, none⟩ = some v := fun o => (World.cell?_of_block (w := wr) (w' := wr.alloc o) (Below.heap_alloc wr o p17 hl17r)).trans rv
                have own1 : ∀ o, ((wr.alloc o).drew).ownsRow zc 56 4 v k ((m.herds.reverse.take k).flatMap i4c) := fun o => World.ownsRow.alloc own o
                have hgv : ∀ gg, v.ownBlock = some gg → zc ≤ gg := fun gg e => (own.lt gg e).1
                have hk4 : k ≤ 4 := by omega
                go_upto_region 17 with fail
                refine Ord.Two.wp_regionNX [(0, 1), (1, 1), (2, 0), (3, 0), (4, 0), (5, 0), (6, 0), (7, 0), (8, 0), (9, 0), (10, 2), (11, 2), (12, 0)] [(13, 2)] (fun W => W.cell? ⟨p17, 2, none⟩ = some v) (by kernel_rfl) (by kernel_rfl) hH0 ?_
                go_wp2_with (first
                  | (with_reducible refine Ord.Two.walk_next ?_)
                  | (with_reducible refine Ord.at_nm ?_)
                  | ((with_reducible refine Ord.at_wild ?_); refine Ord.wild_load (ad := ⟨p17, 2, none⟩) v rfl rfl ?_ ?_; (focus (intro W hW; have r := hW; simp [go_sem, r]; done)); intro K hK)
                  | (at_builtin; refine at_stop ?_)
                  | ((with_reducible refine Ord.walk_eff rfl ?_ (fun K hK => ?_)); (focus (first | exact hH0 | exact hH1 _)))
                  | ((with_reducible refine Ord.next_of ?_ (fun hOF => ?_)); (focus (first | exact hH0 | exact hH1 _)))
                  | ((with_reducible refine Ord.at_calm ?_); refine Ord.calm_skip rfl ?_ (fun K hK => ?_); (focus (simp [Region.wanted, yielded]; done))) | with_reducible refine Ord.walk_calm rfl rfl (fun K hK => ?_) | ((with_reducible refine Ord.at_wild ?_); refine Ord.wild_fieldAddr rfl rfl (fun W => by simp [go_sem]; rfl) (fun K hK => ?_)) | ((with_reducible refine Ord.at_wild ?_); refine Ord.wild_move rfl rfl (fun K hK => ?_)) | ((with_reducible refine Ord.at_wild ?_); refine Ord.wild_nilCheck rfl rfl (fun K hK => ?_)) | with_reducible refine Ord.walk_eff rfl (by first | (simp; done) | assumption | (go_simp; done) | (repeat (first | assumption | exact Below.refl _ _ | refine Below.drew ?_ | refine Below.alloc ?_ (by first | omega | (simp; done) | (simp; omega)) _ | refine Below.setCell ?_ (by first | omega | (simp; done) | (simp; omega)) _ | refine Below.trans ?_ (Below.mono (by assumption) (by first | omega | (simp; done) | (simp; omega)))))) (fun K hK => ?_) | with_reducible refine Ord.at_fork ?_ ?_ | with_reducible refine Ord.walk_nil ?_ | (with_reducible refine Ord.next_of (by first | (simp; done) | (go_simp; done) | (repeat (first | assumption | exact Below.refl _ _ | refine Below.drew ?_ | refine Below.alloc ?_ (by first | omega | (simp; done) | (simp; omega)) _ | refine Below.setCell ?_ (by first | omega | (simp; done) | (simp; omega)) _ | refine Below.trans ?_ (Below.mono (by assumption) (by first | omega | (simp; done) | (simp; omega)))))) (fun _ => ?_)))
                unfold Stop
                refine wpList_appendW rfl (.tmp 168) (.tmp 177) 24 rfl zc 56 ih (.agg #[.int .i64 0, .int .i64 0, .int .i64 0, .int .i64 0]) 4 32 Try.underlying24 hih hzh0 hzh1 hzh2 rfl (by decide) v k ((m.herds.reverse.take k).flatMap i4c) rfl (own1 _) (.slice (some ⟨_, 0, none⟩) 1 1) 1 (i4c (h1, h2, h3, h4)) rfl ⟨rfl, .inr ⟨_, _, rfl, news_blk (A := #[.int .i64 h1, .int .i64 h2, .int .i64 h3, .int .i64 h4]) (Blk.new wr _ _).drew⟩⟩ (i4c_one _) (by unfold maxLen; omega) (by omega) (by simp; omega) ?_
                intro va wa owna hga hwa
                obtain ⟨gz, cz, rfl⟩ := own_slice owna (by omega)
                have E17a : Blk wa p17 #[.slice pa m.places.length pc, .slice la m.legs.length lc, v, .slice none 0 0] 27 := (hga.block p17 (by simp; omega) (fun e => by have := hgv _ e.symm; omega)).trans (E17.alloc _).drew
                have ra := E17a.cell
                have fa := E17a.free
                have hH2 : wa.cell? ⟨p17, 2, none⟩ = some v := by rw [E17a.cell]; rfl
                have hOa : Off [p17] zc wd wa := (Off.grown ((hO.alloc (by omega) _).drew) hga (by simp; omega) (fun gg e => .inr (hgv gg e)))
                go_wp2_with (first
                  | (with_reducible refine Ord.Two.walk_next ?_)
                  | (with_reducible refine Ord.at_nm ?_)
                  | ((with_reducible refine Ord.walk_eff rfl ?_ (fun K hK => ?_)); (focus (first | exact hH2 | trivial)))
                  | ((with_reducible refine Ord.next_of ?_ (fun hOF => ?_)); (focus (first | exact hH2 | trivial)))
                  | ((with_reducible refine Ord.at_calm ?_); refine Ord.calm_skip rfl ?_ (fun K hK => ?_); (focus (simp [Region.wanted, yielded]; done))) | with_reducible refine Ord.walk_calm rfl rfl (fun K hK => ?_) | ((with_reducible refine Ord.at_wild ?_); refine Ord.wild_fieldAddr rfl rfl (fun W => by simp [go_sem]; rfl) (fun K hK => ?_)) | ((with_reducible refine Ord.at_wild ?_); refine Ord.wild_move rfl rfl (fun K hK => ?_)) | ((with_reducible refine Ord.at_wild ?_); refine Ord.wild_nilCheck rfl rfl (fun K hK => ?_)) | with_reducible refine Ord.walk_eff rfl (by first | (simp; done) | assumption | (go_simp; done) | (repeat (first | assumption | exact Below.refl _ _ | refine Below.drew ?_ | refine Below.alloc ?_ (by first | omega | (simp; done) | (simp; omega)) _ | refine Below.setCell ?_ (by first | omega | (simp; done) | (simp; omega)) _ | refine Below.trans ?_ (Below.mono (by assumption) (by first | omega | (simp; done) | (simp; omega)))))) (fun K hK => ?_) | with_reducible refine Ord.at_fork ?_ ?_ | with_reducible refine Ord.walk_nil ?_ | (with_reducible refine Ord.next_of (by first | (simp; done) | (go_simp; done) | (repeat (first | assumption | exact Below.refl _ _ | refine Below.drew ?_ | refine Below.alloc ?_ (by first | omega | (simp; done) | (simp; omega)) _ | refine Below.setCell ?_ (by first | omega | (simp; done) | (simp; omega)) _ | refine Below.trans ?_ (Below.mono (by assumption) (by first | omega | (simp; done) | (simp; omega)))))) (fun _ => ?_)))
                refine ⟨⟨k + 1, _, by omega, by go_num, hOa.setCell (.inl (by simp)) _, E17a.set 2 _, ?_⟩, by simp [intOf]; omega⟩
                have hl : (m.herds.reverse.take (k + 1)).length = k + 1 := by rw [List.length_take, List.length_reverse]; omega
                have ho2 := ownsRow_offN owna ((Off.refl [p17] wa.heap.size wa).setCell (p := ⟨p17, 2, none⟩) (.inl (by simp)) (.slice (some ⟨gz, 0, none⟩) (k + 1) cz)) (fun gg e => by have := (owna.lt gg e).1; simp; omega)
                rw [hl, HTA.out, List.flatMap_append]
                simpa [hje] using ho2
              · have hlti : ¬ (k : Int) < (m.herds.length : Int) := by omega
                have hkn : k = m.herds.length := by omega
                have hta : m.herds.reverse.take k = m.herds.reverse := List.take_of_length_le (by rw [List.length_reverse]; omega)
                rw [hta] at own
                obtain ⟨gz, cz, rfl, hgz, RZ⟩ := (CopyV.of_own own).blk (by rw [List.length_reverse]; omega)
                rw [List.length_reverse] at E17
                have mvb : ∀ {b : Nat} {C : Array Value} {t : TypeId}, Blk wd b C t → b ≠ p17 → Blk wr b C t := fun h h1 => hO.blk h (by have := h.lt; omega) (by simp; omega)
                replace bb := mvb bb (by omega)
                replace C15 := mvb C15 (by omega)
                replace C16 := mvb C16 (by omega)
                replace D18 := mvb D18 (by omega)
                replace RT := RT.move (fun _ h => mvb h (by omega))
                replace RU' := RU'.move (fun _ h => mvb h (by omega))
                replace RV' := RV'.move (fun _ h => mvb h (by omega))
                replace RG := RG.move (fun _ h => mvb h HGP.out.1)
                have hgzn : zc ≤ gz ∧ gz < wr.heap.size := ⟨hgz, RZ.lt⟩
                clear mvb hO hsO hta own hBz D17 HRv hk hkn
                generalize wr = we at *
                clear wr
                have rb := bb.cell
                go_upto_region 19 with fail
                have HSv : Hid (∀ k, (h : k < m.seen.length) → ∃ j, ∃ hj : j < m.seen.length, (m.seen.length : Int) - 1 - (k : Int) = (j : Int) ∧ (flipM m).seen.take (k + 1) = (flipM m).seen.take k ++ [flipS m.herds.length m.seen[j]] ∧ 0 ≤ m.seen[j].1 ∧ m.seen[j].1 ≤ 4) := fun k h => ⟨m.seen.length - 1 - k, by omega, by omega, by
                  have hl : k < (flipM m).seen.length := by simp [flipM]; exact h
                  rw [List.take_succ_eq_append_getElem hl]
                  simp [flipM, List.getElem_reverse], by
                  have h1 := ((vparts HV.out).sn _ (List.getElem_mem (show m.seen.length - 1 - k < m.seen.length by omega))).1
                  obtain ⟨a1, a2, _⟩ := from_herd h1
                  omega⟩
                have hfl : (flipM m).seen.length = m.seen.length := by simp [flipM]
                have HFL := Lib.hid hfl
                clear hfl
                obtain ⟨is, his, hzs0, hzs1, hzs2⟩ := info_of Try.info64
                have hs5 : (m.seen.length : Int) ≤ 5 := by omega
                obtain ⟨zd, hzd'⟩ : ∃ z, we.heap.size = z := ⟨_, rfl⟩
                have hzd : we.heap.size ≤ zd ∧ zd ≤ we.heap.size := by omega
                clear hzd'
                have hl17e := E17.lt
                go_wp2_with fail
                clear rb
                go_loopw [21, 22, 184] (fun x21 x22 x184 wr => ∃ (k : Nat) (v : Value), k ≤ m.seen.length ∧ x184 = .int .i64 (k : Int) ∧ Off [p17] zd we wr ∧ Blk wr p17 #[.slice pa m.places.length pc, .slice la m.legs.length lc, .slice (some ⟨gz, 0, none⟩) m.herds.length cz, v] 27 ∧ wr.ownsRow zd 64 4 v ((flipM m).seen.take k).length (((flipM m).seen.take k).flatMap i4c)) (fun _ _ x184 _ => m.seen.length - (intOf x184).toNat)
                case atStart => exact ⟨0, .slice none 0 0, by omega, rfl, Off.refl _ _ _, E17, by simpa using World.ownsRow_nil _ _ _ _⟩
                case round =>
                  as_aux_lemma =>
                    obtain ⟨k, v, hk, rfl, hO, F17, own⟩ := hrel
                    have hsO := hO.size
                    have hBs := hBr.size
                    have hBk : Below w.heap.size w wr := hBr.trans (hO.below (by omega) (by simp; omega))
                    by_cases hlt : k < m.seen.length
                    · have hlti : (k : Int) < (m.seen.length : Int) := Int.ofNat_lt.2 hlt
                      obtain ⟨j, hj, hji, hta, hs0, hs4⟩ := HSv.out k hlt
                      have hjl : (j : Int) < (m.seen.length : Int) := Int.ofNat_lt.2 hj
                      obtain ⟨gs, gos, rfl, c1, c2, c3, c4⟩ := (HMR.out _ hBk).seen.get4 hj
                      have bbr := hO.blk bb (by have := bb.lt; omega) (by simp; omega)
                      have rb := bbr.cell
                      have hkl : ((flipM m).seen.take k).length = k := by rw [List.length_take, HFL.out]; omega
                      rw [hkl] at own
                      have HTA := Lib.hid hta
                      clear hta hkl
                      obtain ⟨h1, h2, h3, h4, hje⟩ : ∃ h1 h2 h3 h4 : Int, m.seen[j] = (h1, h2, h3, h4) := ⟨_, _, _, _, rfl⟩
                      rw [hje] at c1 c2 c3 c4 hs0 hs4
                      simp only at c1 c2 c3 c4 hs0 hs4
                      have hl17r : p17 < wr.heap.size := F17.lt
                      have r17 := F17.cell
                      have hgv : ∀ gg, v.ownBlock = some gg → zd ≤ gg := fun gg e => (own.lt gg e).1
                      have hk5 : k ≤ 5 := by omega
                      go_wp2_with (first
                        | (refine wpList_store_blk 64 (.tmp 22) (.tmp 196) agg_seen rfl rfl rfl rfl (Blk.new _ _ _) rfl rfl (by simp [Value.oneCell']) ?_; intro wx h; refine at_stop ?_))
                      unfold Stop
                      have b22 := h.blk
                      have hbx : Below wr.heap.size wr wx := h.below ((Below.refl _ _).alloc (Nat.le_refl _) _) (Nat.le_refl _)
                      have hgv2 : ∀ gg, v.ownBlock = some gg → gg < wr.heap.size := fun gg e => (own.lt gg e).2
                      have F17x := F17.below hbx hl17r
                      have ownx := ownsRow_below own hbx
                      have hOx : Off [p17] zd we wx := hO.trans (Off.of_below hbx (by omega))
                      have hsx := hbx.size
                      have l22 := b22.lt
                      obtain ⟨p22, hp22⟩ : ∃ p, wr.heap.size = p := ⟨_, rfl⟩
                      rw [hp22] at b22 hgv2 hl17r l22 hsx
                      try simp only [hp22]
                      have rbx := (bbr.below hbx bbr.lt).cell
                      have hbb : w.heap.size < p22 := by rw [← hp22]; exact bbr.lt
                      have hzp : zd ≤ p22 := by rw [← hp22]; omega
                      clear h hp22 F17 own hO hbx rb r17 c1 c2 c3 c4 bbr hBk hsO
                      have r17 := F17x.cell
                      have r22 := b22.cell
                      have f22 := b22.free
                      obtain ⟨wz, hwz⟩ : ∃ wz, wx.setCell ⟨p22, 0, none⟩ (.int .i64 ((m.herds.length : Int) - 1 - h1)) = wz := ⟨_, rfl⟩
                      have hOz : Off [p22] wx.heap.size wx wz := by rw [← hwz]; exact (Off.refl _ _ _).setCell (.inl (by simp)) _
                      have b22z : Blk wz p22 #[.int .i64 ((m.herds.length : Int) - 1 - h1), .int .i64 h2, .int .i64 h3, .int .i64 h4] 64 := by rw [← hwz]; exact b22.set 0 _
                      have F17z := hOz.blk F17x F17x.lt (by simp; omega)
                      have ownz := ownsRow_offN ownx hOz (fun gg e => by have := hgv2 gg e; simp; omega)
                      have hOwz : Off [p17] zd we wz := hOx.trans (hOz.mono (by omega) (fun k hk hm => by simp at hm; omega))
                      have hszz := hOz.size
                      go_upto_region 24 with fail
                      (try rw [hwz])
                      clear hwz r17 r22 f22 b22 F17x ownx hOz hOx rbx
                      have r17 := F17z.cell
                      go_wp2_with (first
                        | (refine wpList_load_blk 64 (.tmp 22) agg_seen rfl rfl rfl b22z rfl ?_)
                        | (at_builtin; refine at_stop ?_))
                      unfold Stop
                      have hf : flipS m.herds.length m.seen[j] = ((m.herds.length : Int) - 1 - h1, h2, h3, h4) := by rw [hje]; rfl
                      refine wpList_appendW rfl (.tmp 204) (.tmp 206) 25 rfl zd 64 is (.agg #[.int .i64 0, .int .i64 0, .int .i64 0, .int .i64 0]) 4 32 Try.underlying25 his hzs0 hzs1 hzs2 rfl (by decide) v k (((flipM m).seen.take k).flatMap i4c) rfl (World.ownsRow.alloc ownz _) (.slice (some ⟨_, 0, none⟩) 1 1) 1 (i4c ((m.herds.length : Int) - 1 - h1, h2, h3, h4)) rfl ⟨rfl, .inr ⟨_, _, rfl, news_blk (A := #[.int .i64 ((m.herds.length : Int) - 1 - h1), .int .i64 h2, .int .i64 h3, .int .i64 h4]) (Blk.new wz _ _)⟩⟩ (i4c_one _) (by unfold maxLen; omega) (by omega) (by simp; omega) ?_
                      intro va wa owna hga hwa
                      obtain ⟨gy, cy, rfl⟩ := own_slice owna (by omega)
                      have F17a : Blk wa p17 #[.slice pa m.places.length pc, .slice la m.legs.length lc, .slice (some ⟨gz, 0, none⟩) m.herds.length cz, v] 27 := (hga.block p17 (by have := F17z.lt; simp; omega) (fun e => by have := hgv _ e.symm; omega)).trans (F17z.alloc _)
                      have ra := F17a.cell
                      have fa := F17a.free
                      have hOa : Off [p17] zd we wa := Off.grown (hOwz.alloc (by omega) _) hga (by simp; omega) (fun gg e => .inr (hgv gg e))
                      clear r17
                      go_wp2_with fail
                      refine ⟨⟨k + 1, _, by omega, by go_num, hOa.setCell (.inl (by simp)) _, F17a.set 3 _, ?_⟩, by simp [intOf]; omega⟩
                      have hl : ((flipM m).seen.take (k + 1)).length = k + 1 := by rw [List.length_take, HFL.out]; omega
                      have ho2 := ownsRow_offN owna ((Off.refl [p17] wa.heap.size wa).setCell (p := ⟨p17, 3, none⟩) (.inl (by simp)) (.slice (some ⟨gy, 0, none⟩) (k + 1) cy)) (fun gg e => by have := (owna.lt gg e).1; simp; omega)
                      rw [hl, HTA.out, List.flatMap_append, hf]
                      simpa using ho2
                    · have hlti : ¬ (k : Int) < (m.seen.length : Int) := by omega
                      have hta : (flipM m).seen.take k = (flipM m).seen := List.take_of_length_le (by rw [HFL.out]; omega)
                      rw [hta] at own
                      have hgl2 := HGP.out
                      have mvb : ∀ {b : Nat} {C : Array Value} {t : TypeId}, Blk we b C t → b ≠ p17 → Blk wr b C t := fun h h1 => hO.blk h (by have := h.lt; omega) (by simp; omega)
                      replace bb := mvb bb (by omega)
                      replace C15 := mvb C15 (by omega)
                      replace C16 := mvb C16 (by omega)
                      replace D18 := mvb D18 (by omega)
                      replace RT := RT.move (fun _ h => mvb h (by omega))
                      replace RU' := RU'.move (fun _ h => mvb h (by omega))
                      replace RV' := RV'.move (fun _ h => mvb h (by omega))
                      replace RG := RG.move (fun _ h => mvb h hgl2.1)
                      replace RZ := RZ.move (fun _ h => mvb h (by omega))
                      clear mvb hO hsO hta E17 hk
                      go_upto_region 26 with fail
                      rename_i K26 hK26
                      obtain ⟨hq1, hq2, hq3, hq4, hq5, hq6⟩ := HQ.out
                      refine more_mid (m := m) (q := q) (A := ⟨pa, pc, la, lc, ha, hc, sa, sc⟩) (s := (s1, s2, s3, s4)) (w0 := w) (bodyPost Try.prog Try.f10 (Gives (.bool true) w)) HV.out hi (by omega) hsh hBk (HMR.out _ (Below.refl _ _)) bb C15 RG C16 RU' RV' ⟨hq1, hq2, hq3, hq6⟩ hq4 hq5 F17 RZ own D18 RT (by omega) ?_ K26 hK26
                      intro tm W' h10 hb
                      exact bodyPost_ret (v := .bool true) (by simp [results, Try.results10, Act.eval, h10, go_sem]) rfl ⟨rfl, hb⟩
end Go.Proofs.Yteeinehpneppnaa
