/- Parts of a proof: MwB, MwS, MwC. -/
import Derived.Test.YteeinehpneppnaaW49
import Derived.Test.YteeinehpneppnaaW48
import Derived.Test.YteeinehpneppnaaW44
import Derived.Test.YteeinehpneppnaaW39
/- The law's each: all lengths of legs, one after the other. -/
set_option linter.unusedVariables false
set_option linter.unusedSimpArgs false
namespace Go.Proofs.Yteeinehpneppnaa
open Go.RowKit Go.Proofs
attribute [local irreducible] Ord.walk
set_option maxHeartbeats 40000000 in
set_option maxRecDepth 100000 in
theorem l_each {m : Mb} {A : Ma} (c1 c2 c3 c4 : Value) (ca : Nat) (wb w : World) (hm : MbAt wb m A) (hv : validM m = true) (hb : Below wb.heap.size wb w) (hca : wb.heap.size ≤ ca) (hcw : ca < w.heap.size)
    (St : List (List Int) → World → Prop) (hSt : ∀ Ls W W', St Ls W → Below w.heap.size W W' → St Ls W')
    (hstep : ∀ Ls L a c W, St Ls W → Off [ca] w.heap.size w W → L ∈ prodL m.legs → IntsM W a L → Calls Try.prog 36 #[.slice a L.length c, c1, c2, c3, c4] W (fun e w' => e = .returned (.tuple #[]) ∧ St (Ls ++ [L]) w' ∧ Off [ca] W.heap.size W w')) (h0 : St [] w) :
    Calls Try.prog 35 #[mv m A, whF #[c1, c2, c3, c4]] w (fun e w' => e = .returned (.tuple #[]) ∧ St (prodL m.legs) w' ∧ Off [ca] w.heap.size w w') := by
  obtain ⟨n, hn⟩ : ∃ n, w.heap.size = n := ⟨_, rfl⟩
  have HE : Hid (∀ w1, Off [ca] n w w1 → w1.heap.size = n + 3 → Blk w1 n (mcells m A) 27 → Blk w1 (n + 1) #[whF #[c1, c2, c3, c4]] 68 → Blk w1 (n + 2) #[onF n (n + 1) (n + 2)] 68 → St [] w1 →
      Calls Try.prog 91 #[.slice none 0 0, .pointer (some ⟨n, 0, none⟩), .pointer (some ⟨n + 1, 0, none⟩), .pointer (some ⟨n + 2, 0, none⟩)] w1 (fun e w' => e = .returned (.tuple #[]) ∧ St (prodL m.legs) w' ∧ Off [ca] n w w')) := fun w1 ho hs b1 b2 b3 hst => by
    have hmz : ∀ W, Off [ca] (n + 3) w1 W → MbAt W m A := fun W hW => hm.below (hb.trans ((ho.trans (hW.mono (by omega) (fun _ _ h => h))).below (by have := hb.size; omega) (by simp; omega)))
    have := l_each1 (m := m) (A := A) c1 c2 c3 c4 n (n + 1) (n + 2) ca (n + 3) w1 (by omega) (hmz w1 (Off.refl _ _ _)) hmz hv b1 b2 b3 (by omega) (by omega) (by omega) (by omega) St (fun Ls W W' h h1 => hSt Ls W W' h (h1.mono (by omega)))
      (fun Ls L a c W h hW hL hr => hstep Ls L a c W h (hn ▸ (ho.trans (hW.mono (by omega) (fun _ _ h => h)))) hL hr) m.legs.length [] (by simp) (by simp [prodL]) w1 (.slice none 0 0) [] (Off.refl _ _ _) (by simpa using World.ownsRow_nil _ _ _ _) hst
    refine this.mono ?_
    rintro e w' ⟨h1, h2, h3⟩
    refine ⟨h1, ?_, ho.trans (h3.mono (by omega) (fun _ _ h => h))⟩
    have e2 : extL m.legs [] = prodL m.legs := by unfold extL; simp
    rwa [List.nil_append, e2] at h2
  have hS := hSt [] w
  clear hstep hm hv hSt
  rw [hn]
  unfold whF onF mv mcells at *
  go_enter Try.func35, Try.ntmps35
  go_wp2_with (first | (go_at_call 91; refine at_stop ?_))
  unfold Stop
  refine (HE.out _ ?_ ?_ ?_ ?_ ?_ (hS _ h0 ?_)).mono ?_
  · subst hn; exact (((Off.refl _ _ _).alloc (Nat.le_refl _) _).alloc (by simp) _).alloc (by simp; omega) _
  · simp [hn]
  · exact ((Blk.new' _ _ _ _ hn).alloc _).alloc _
  · exact (Blk.new' _ _ _ _ (by simp [hn])).alloc _
  · exact Blk.new' _ _ _ _ (by simp [hn])
  · (repeat (first | assumption | exact Below.refl _ _ | refine Below.drew ?_ | refine Below.alloc ?_ (by first | omega | (simp; done) | (simp; omega)) _ | refine Below.setCell ?_ (by first | omega | (simp; done) | (simp; omega)) _ | refine Below.trans ?_ (Below.mono (by assumption) (by first | omega | (simp; done) | (simp; omega)))))
  · rintro e w' ⟨rfl, h1, h2⟩
    go_wp2_with fail
    exact bodyPost_end (v := .tuple #[]) (results_nothing rfl _) rfl ⟨rfl, h1, h2⟩
end Go.Proofs.Yteeinehpneppnaa
/- Plain laws of MobWhere's closure: what its loops hold, step by step. -/
set_option linter.unusedVariables false
set_option linter.unusedSimpArgs false
namespace Go.Proofs.Yteeinehpneppnaa
open Go.RowKit Go.Proofs
attribute [local irreducible] Ord.walk
/-- Days of leaving of a mob, as many as have been. -/
def dayJ (m : Mb) (n j : Nat) : List Int := (lvR m n).take j
def someJ (m : Mb) (L : List Int) (n j : Nat) : Bool := (dayJ m n j).any (rgB m L n)
def nowJ (m : Mb) (i : Nat) (day : Int) (L : List Int) (j : Nat) : Nat := orL 0 (((dayJ m i j).filter (rgB m L i)).map fun d => nowP m L (startN m i) d day)
/-- own, at mob n behind j of its days. -/
def ownJ (m : Mb) (i : Nat) (day : Int) (L : List Int) (n j : Nat) : Nat := if n < i then 0 else if n = i then nowJ m i day L j else orL 0 (nowsB m i day L)
def allJ (m : Mb) (L : List Int) (n : Nat) : Bool := (List.range n).all fun k => (lvR m k).any (rgB m L k)
theorem lvR_get (m : Mb) (n : Nat) {j : Nat} (hj : j < (lvR m n).length) : (lvR m n)[j] = (m.herds.getD n (0, 0, 0, 0)).2.1 + (j : Int) := by
  unfold lvR rangeI
  simp
theorem lvR_len (m : Mb) (n : Nat) : (lvR m n).length = ((m.herds.getD n (0, 0, 0, 0)).2.2.1 - (m.herds.getD n (0, 0, 0, 0)).2.1 + 1).toNat := rangeI_len _ _
theorem dayJ_succ (m : Mb) (n : Nat) {j : Nat} (hj : j < (lvR m n).length) : dayJ m n (j + 1) = dayJ m n j ++ [(m.herds.getD n (0, 0, 0, 0)).2.1 + (j : Int)] := by
  unfold dayJ
  rw [List.take_succ_eq_append_getElem hj, lvR_get m n hj]
theorem someJ_succ (m : Mb) (L : List Int) (n : Nat) {j : Nat} (hj : j < (lvR m n).length) : someJ m L n (j + 1) = (someJ m L n j || rgB m L n ((m.herds.getD n (0, 0, 0, 0)).2.1 + (j : Int))) := by
  unfold someJ
  rw [dayJ_succ m n hj, List.any_append]
  simp
theorem ownJ_succ (m : Mb) (i : Nat) (day : Int) (L : List Int) (n : Nat) {j : Nat} (hj : j < (lvR m n).length) : ownJ m i day L n (j + 1) = if rgB m L n ((m.herds.getD n (0, 0, 0, 0)).2.1 + (j : Int)) = true ∧ n = i then ownJ m i day L n j ||| 2 ^ nowP m L (startN m n) ((m.herds.getD n (0, 0, 0, 0)).2.1 + (j : Int)) day else ownJ m i day L n j := by
  unfold ownJ
  by_cases h1 : n < i
  · rw [if_pos h1, if_pos h1, if_neg (by omega)]
  · rw [if_neg h1, if_neg h1]
    by_cases h2 : n = i
    · subst h2
      rw [if_pos rfl, if_pos rfl]
      unfold nowJ
      rw [dayJ_succ m n hj, List.filter_append, List.map_append]
      by_cases h3 : rgB m L n ((m.herds.getD n (0, 0, 0, 0)).2.1 + (j : Int)) = true
      · rw [if_pos ⟨h3, rfl⟩, List.filter_cons_of_pos h3, List.filter_nil, List.map_cons, List.map_nil, orL_snoc]
      · rw [if_neg (fun h => h3 h.1), List.filter_cons_of_neg h3, List.filter_nil, List.map_nil, List.append_nil]
    · rw [if_neg h2, if_neg h2, if_neg (fun h => h2 h.2)]
theorem ownJ_zero (m : Mb) (i : Nat) (day : Int) (L : List Int) : ownJ m i day L 0 0 = 0 := by
  unfold ownJ
  by_cases h : 0 < i
  · rw [if_pos h]
  · rw [if_neg h, if_pos (by omega)]
    rfl
theorem ownJ_next (m : Mb) (i : Nat) (day : Int) (L : List Int) (n : Nat) : ownJ m i day L (n + 1) 0 = ownJ m i day L n (lvR m n).length := by
  unfold ownJ
  rcases Nat.lt_trichotomy n i with h | h | h
  · rw [if_pos h]
    by_cases h2 : n + 1 < i
    · rw [if_pos h2]
    · rw [if_neg h2, if_pos (by omega)]
      rfl
  · subst h
    rw [if_neg (by omega), if_neg (by omega), if_neg (by omega), if_pos rfl]
    unfold nowJ dayJ nowsB
    rw [List.take_length]
  · rw [if_neg (by omega), if_neg (by omega), if_neg (by omega), if_neg (by omega)]
theorem ownJ_end (m : Mb) (i : Nat) (day : Int) (L : List Int) {n : Nat} (h : i < n) : ownJ m i day L n 0 = orL 0 (nowsB m i day L) := by
  unfold ownJ
  rw [if_neg (by omega), if_neg (by omega)]
theorem allJ_succ (m : Mb) (L : List Int) (n : Nat) : allJ m L (n + 1) = (allJ m L n && someJ m L n (lvR m n).length) := by
  unfold allJ someJ dayJ
  rw [List.range_succ, List.all_append, List.take_length]
  simp
theorem ownJ_lt {m : Mb} (hv : validM m = true) {i : Nat} (hi : i < m.herds.length) (day : Int) (L : List Int) (n j : Nat) : ownJ m i day L n j < 64 := by
  have hst := start_le hv hi
  have hlen := validM_len hv
  have hp : ∀ d, nowP m L (startN m i) d day < 6 := fun d => by
    have := (nowTo_in (m := m) L (startN m i) d day (m.places.length - startN m i) (by omega) (by omega)).2
    unfold nowP
    omega
  unfold ownJ
  split
  · omega
  · split
    · refine orL_lt (by omega) _ fun p h => ?_
      obtain ⟨d, _, rfl⟩ := List.mem_map.1 h
      exact hp d
    · refine orL_lt (by omega) _ fun p h => ?_
      obtain ⟨d, _, rfl⟩ := List.mem_map.1 h
      exact hp d
end Go.Proofs.Yteeinehpneppnaa
/- MobWhere's closure: what one length of legs adds. (Printed by mkMwC.py) -/
set_option linter.unusedVariables false
set_option linter.unusedSimpArgs false
namespace Go.Proofs.Yteeinehpneppnaa
open Go.RowKit Go.Proofs
attribute [local irreducible] Ord.walk
theorem wpList_guard {P : Program} {ops : Array Oper} {Q : Exit → Act → World → Prop} {a : Act} {w : World} {rest : List Oper} {o : Oper} (hw : Region.wanted o (yielded ops a.tmps) = true) (h : wpList P ops Q ({ o with guard := none } :: rest) a w) : wpList P ops Q (o :: rest) a w := by
  unfold wpList at h ⊢
  have hw2 : Region.wanted { o with guard := none } (yielded ops a.tmps) = true := by simp [Region.wanted]
  rw [hw2] at h
  rw [hw]
  simp only [if_true] at h ⊢
  exact h
theorem pow_le32 {q : Nat} (h : q < 6) : ((2 ^ q : Nat) : Int) ≤ 32 := by
  have h1 : 2 ^ q ≤ 2 ^ 5 := Nat.pow_le_pow_right (by omega) (by omega)
  omega
theorem or_all6 : ∀ a < 64, ∀ b < 64, bits .or .i64 ((a : Nat) : Int) ((b : Nat) : Int) = ((a ||| b : Nat) : Int) := by decide +kernel
/-- What is walked of one mob on one day, in letters: S what was seen, rg whether it is right, pl the place. -/
structure DayI (mm : Value) (w0 : World) (lv : Value) (np : Nat) (S : List (Int × Int × Int × Int)) (i : Nat) (st : Nat) (d day : Int) (pl : Nat) (rg : Bool) (dy : Nat → Int) (tl : List (Int × Int)) (sk : Nat → Bool) : Prop where
  trip : ∀ W, Below w0.heap.size w0 W → Calls Try.prog 31 #[mm, .int .i64 (i : Int), lv, .int .i64 d] W (fun e w' => ∃ mp s0, e = .returned (.tuple #[.map (some mp), .int .i64 s0]) ∧ MapII w' mp tl ∧ W.heap.size ≤ mp ∧ Below W.heap.size W w')
  ok : OkI tl
  len : tl.length ≤ 6
  st2 : st + 2 ≤ np ∧ np ≤ 6
  mem : ∀ x, x ∈ tl ↔ ∃ p, st ≤ p ∧ p < np ∧ x = ((p : Int), dy p)
  get : ∀ p, st ≤ p → p < np → getI tl (p : Int) = dy p ∧ 0 ≤ dy p ∧ dy p ≤ 100
  pl : st ≤ pl ∧ pl < np ∧ (∀ p, st ≤ p → p < np → dy p ≤ day → p ≤ pl) ∧ (pl = st ∨ dy pl ≤ day)
  sk0 : sk 0 = true
  skn : sk S.length = rg
  sks : ∀ k, (h : k < S.length) → sk (k + 1) = (sk k && (decide (S[k].1 ≠ (i : Int)) || insideV (dy S[k].2.1.toNat) S[k].2.2.1 S[k].2.2.2))
  sv : ∀ k, (h : k < S.length) → S[k].1 = (i : Int) → ∃ p : Nat, S[k].2.1 = (p : Int) ∧ st ≤ p ∧ p < np
theorem day_i {m : Mb} {A : Ma} (hv : validM m = true) {L : List Int} (hL : L ∈ prodL m.legs) {i : Nat} (hi : i < m.herds.length) (day : Int) {w0 : World} (hm : MbAt w0 m A) {la : Option Addr} (lc : Nat) (hrL : IntsM w0 la L) (d : Int) (h1 : m.herds[i].2.1 ≤ d) (h2 : d ≤ m.herds[i].2.2.1) :
    ∃ pl dy tl sk, nowP m L (startN m i) d day = pl ∧ DayI (mv m A) w0 (.slice la L.length lc) m.places.length m.seen i (startN m i) d day pl (rgB m L i d) dy tl sk := by
  have hlen := validM_len hv
  have hst := start_le hv hi
  have hh := (vparts hv).hd _ (List.getElem_mem hi)
  refine ⟨_, fun p => inK m L (startN m i) d (p - startN m i), tripL m L (startN m i) d (m.places.length - 1 - startN m i), fun k => (m.seen.take k).all (seenOk m L i d), rfl, fun W hW => ?_, tripL_ok m L _ _ _ (by omega), by rw [tripL_len]; omega, ⟨hst.1, hlen.2.1⟩, fun x => ?_, fun p h3 h4 => ?_, ?_, rfl, ?_, fun k hk => ?_, fun k hk e => ?_⟩
  · refine (l_trip i lc d W (hm.below hW) hv hi hL (RowsAt.below hrL hW) (by omega) (by omega)).mono ?_
    rintro e w' ⟨mp, h3, h4, h5, h6⟩
    exact ⟨mp, _, h3, h4, h5, h6⟩
  · rw [tripL_mem]
    constructor
    · rintro ⟨j, hj, rfl⟩
      exact ⟨startN m i + j, by omega, by omega, by rw [show startN m i + j - startN m i = j by omega]⟩
    · rintro ⟨p, h3, h4, rfl⟩
      exact ⟨p - startN m i, by omega, by rw [show startN m i + (p - startN m i) = p by omega]⟩
  · have h5 := tripL_get m L (startN m i) d (k := m.places.length - 1 - startN m i) (j := p - startN m i) (by omega) (by omega)
    rw [show startN m i + (p - startN m i) = p by omega] at h5
    have h6 := inK_bound hv hL (startN m i) (d := d) (by omega) (by omega) (p - startN m i)
    exact ⟨h5, by omega, by omega⟩
  · have h3 := nowTo_in (m := m) L (startN m i) d day (m.places.length - startN m i) (by omega) (by omega)
    have h4 := now_max hv hL (s := startN m i) d day (m.places.length - startN m i) (by omega) (by omega)
    refine ⟨h3.1, h3.2, fun p h5 h6 h7 => ?_, ?_⟩
    · have := h4.1 (p - startN m i) (by omega) h7
      show p ≤ nowTo m L (startN m i) d day (m.places.length - startN m i)
      omega
    · rcases h4.2 with h | ⟨j, hj, h5, h6⟩
      · exact .inl h
      · right
        show inK m L (startN m i) d (nowTo m L (startN m i) d day (m.places.length - startN m i) - startN m i) ≤ day
        rw [h6, show startN m i + j - startN m i = j by omega]
        exact h5
  · show (m.seen.take m.seen.length).all _ = m.seen.all _
    rw [List.take_length]
  · show (m.seen.take (k + 1)).all _ = ((m.seen.take k).all _ && _)
    rw [List.take_succ_eq_append_getElem hk, List.all_append]
    simp only [List.all_cons, List.all_nil, Bool.and_true]
    congr 1
  · have h3 := ((vparts hv).sn _ (List.getElem_mem hk)).1
    unfold fromB at h3
    simp only [Bool.and_eq_true, decide_eq_true_eq] at h3
    have h4 := inB_of h3.2.1
    rw [e, hst.2] at h3
    exact ⟨m.seen[k].2.1.toNat, by omega, by omega, by omega⟩
set_option maxHeartbeats 40000000 in
set_option maxRecDepth 100000 in
theorem l_where1 {m : Mb} {A : Ma} (hv : validM m = true) {i day can : Nat} (hi : i < m.herds.length) (hd : day ≤ 44) (hcan : can < 64) {pm pd pi ca : Nat} (w : World) (hm : MbAt w m A) (bm : Blk w pm (mcells m A) 27) (bd : Blk w pd #[.int .i64 (day : Int)] 3) (bi : Blk w pi #[.int .i64 (i : Int)] 3) (bc : Blk w ca #[.int .i64 (can : Int)] 3)
    {L : List Int} (hL : L ∈ prodL m.legs) {a : Option Addr} (c : Nat) (hr : IntsM w a L) :
    Calls Try.prog 36 #[.slice a L.length c, .pointer (some ⟨pm, 0, none⟩), .pointer (some ⟨pd, 0, none⟩), .pointer (some ⟨pi, 0, none⟩), .pointer (some ⟨ca, 0, none⟩)] w (fun e w' => e = .returned (.tuple #[]) ∧ Off [ca] w.heap.size w w' ∧ Blk w' ca #[.int .i64 ((if allB m L = true then can ||| orL 0 (nowsB m i day L) else can : Nat) : Int)] 3) := by
  have hln := validM_len hv
  have HW : Hid (∀ n, (h : n < m.herds.length) → ∀ d, m.herds[n].2.1 ≤ d → d ≤ m.herds[n].2.2.1 → ∃ pl dy tl sk, nowP m L (startN m n) d day = pl ∧ DayI (mv m A) w (.slice a L.length c) m.places.length m.seen n (startN m n) d day pl (rgB m L n d) dy tl sk) := fun n h d h1 h2 => day_i hv hL h day hm c hr d h1 h2
  have HO0 : Hid (ownJ m i day L 0 0 = 0) := ownJ_zero m i day L
  have HOn : Hid (∀ n, ownJ m i day L (n + 1) 0 = ownJ m i day L n (lvR m n).length) := fun n => ownJ_next m i day L n
  have HOs : Hid (∀ n j, j < (lvR m n).length → ownJ m i day L n (j + 1) = if rgB m L n ((m.herds.getD n (0, 0, 0, 0)).2.1 + (j : Int)) = true ∧ n = i then ownJ m i day L n j ||| 2 ^ nowP m L (startN m n) ((m.herds.getD n (0, 0, 0, 0)).2.1 + (j : Int)) day else ownJ m i day L n j) := fun n j h => ownJ_succ m i day L n h
  have HOl : Hid (∀ n j, ownJ m i day L n j < 64) := fun n j => ownJ_lt hv hi day L n j
  have HOe : Hid (ownJ m i day L m.herds.length 0 = orL 0 (nowsB m i day L)) := ownJ_end m i day L hi
  have HAs : Hid (∀ n, allJ m L (n + 1) = (allJ m L n && someJ m L n (lvR m n).length)) := fun n => allJ_succ m L n
  have HA0 : Hid (allJ m L 0 = true) := rfl
  have HAe : Hid (allJ m L m.herds.length = allB m L) := rfl
  have HSs : Hid (∀ n j, j < (lvR m n).length → someJ m L n (j + 1) = (someJ m L n j || rgB m L n ((m.herds.getD n (0, 0, 0, 0)).2.1 + (j : Int)))) := fun n j h => someJ_succ m L n h
  have HS0 : Hid (∀ n, someJ m L n 0 = false) := fun n => rfl
  have HLn : Hid (∀ n, (lvR m n).length = ((m.herds.getD n (0, 0, 0, 0)).2.2.1 - (m.herds.getD n (0, 0, 0, 0)).2.1 + 1).toNat) := fun n => lvR_len m n
  have HHd : Hid (∀ n, (h : n < m.herds.length) → m.herds.getD n (0, 0, 0, 0) = m.herds[n] ∧ m.herds[n].1 = (startN m n : Int) ∧ 0 ≤ m.herds[n].2.1 ∧ m.herds[n].2.1 ≤ m.herds[n].2.2.1 ∧ m.herds[n].2.2.1 ≤ 30) := fun n h => by
    have hst := start_le hv h
    have hgi : m.herds.getD n (0, 0, 0, 0) = m.herds[n] := by rw [List.getD_eq_getElem?_getD, List.getElem?_eq_getElem h]; rfl
    have h4 := (vparts hv).hd _ (List.getElem_mem h)
    exact ⟨hgi, by rw [← hst.2]; unfold startI; rw [Int.toNat_natCast, ← List.getD_eq_getElem?_getD, hgi], by omega, by omega, by omega⟩
  have HMR : Hid (∀ W, Below w.heap.size w W → MbAt W m A) := fun W h => hm.below h
  obtain ⟨al, hal⟩ : ∃ al, allB m L = al := ⟨_, rfl⟩
  obtain ⟨ow, how⟩ : ∃ ow, orL 0 (nowsB m i day L) = ow := ⟨_, rfl⟩
  rw [hal] at HAe ⊢
  have how6 : ow < 64 := by rw [← how, ← HOe.out]; exact HOl.out _ _
  rw [how] at HOe ⊢
  have hlm := bm.lt
  have hld := bd.lt
  have hli := bi.lt
  have hlc := bc.lt
  have HIn := Lib.hid l_insideV
  generalize ownJ m i day L = oJ at *
  generalize allJ m L = aJ at *
  generalize someJ m L = sJ at *
  generalize rgB m L = rg at *
  clear hal how hv hL hr hm
  have HM : Hid (m = m) := rfl
  have hr0 := bm.cell
  go_enter Try.func36, Try.ntmps36
  go_wp2_with fail
  rcases A with ⟨pa, pc, la, lc, ha, hc, sa, sc⟩
  unfold mv mcells at *
  simp only at *
  have hh4 : (m.herds.length : Int) ≤ 4 := by omega
  go_loopw [6, 7, 23] (fun x6 x7 x23 wr => ∃ n : Nat, n ≤ m.herds.length ∧ x23 = .int .i64 (n : Int) ∧ x6 = .int .i64 (oJ n 0 : Int) ∧ x7 = .bool (aJ n) ∧ Below w.heap.size w wr) (fun _ _ x23 _ => m.herds.length - (intOf x23).toNat)
  case atStart => exact ⟨0, by omega, rfl, by rw [HO0.out]; rfl, by rw [HA0.out], Below.refl _ _⟩
  case round =>
    as_aux_lemma =>
      clear hr0
      obtain ⟨n, hn, rfl, rfl, rfl, hBr⟩ := hrel
      have hsr := hBr.size
      have bmr := bm.below hBr hlm
      have hr0 := bmr.cell
      by_cases hlt : n < m.herds.length
      · have hlti : (n : Int) < (m.herds.length : Int) := Int.ofNat_lt.2 hlt
        obtain ⟨gh, goh, rfl, c1, c2, c3, c4⟩ := (HMR.out _ hBr).herds.get4 hlt
        obtain ⟨hg, hst, hlo0, hlohi, hhi30⟩ := HHd.out n hlt
        have hW := HW.out n hlt
        have hOs := HOs.out n
        have hSs := HSs.out n
        have hLn := HLn.out n
        simp only [hg] at hOs hSs hLn
        (try simp only at c1 c2 c3 c4)
        rw [hst] at c1
        generalize m.herds[n].2.1 = lo at *
        generalize m.herds[n].2.2.1 = hi' at *
        generalize m.herds[n].2.2.2 = d4 at *
        have HWn := Lib.hid hW
        have HOs' := Lib.hid hOs
        have HSs' := Lib.hid hSs
        have HLn' := Lib.hid hLn
        have hol := HOl.out n 0
        clear hW hOs hSs hLn hg hst
        go_wp2_with (first
          | (refine wpList_store_blk 56 (.tmp 9) (.tmp 27) agg_herdA rfl rfl rfl rfl (Blk.new _ _ _) rfl rfl (by simp [Value.oneCell']) ?_; intro w10 h; refine at_stop ?_))
        unfold Stop
        have b9 := h.blk
        have hB10 : Below w.heap.size w w10 := h.below (hBr.alloc hsr _) hsr
        have hs10 := hB10.size
        have l9 := b9.lt
        have r9 := b9.cell
        clear h c1 c2 c3 c4 bmr hr0
        obtain ⟨p9, hp9⟩ : ∃ p, wr.heap.size = p := ⟨_, rfl⟩
        rw [hp9] at b9 r9 l9 hsr
        (try simp only [hp9])
        clear hp9
        generalize wr = wq at *
        clear wr
        obtain ⟨z9, hz9'⟩ : ∃ z, w10.heap.size = z := ⟨_, rfl⟩
        have hz9 : w10.heap.size ≤ z9 ∧ z9 ≤ w10.heap.size := by omega
        clear hz9'
        obtain ⟨cnt, hcnt⟩ : ∃ cnt, (hi' - lo + 1).toNat = cnt := ⟨_, rfl⟩
        go_wp2_with fail
        go_loopw [6, 10, 11] (fun x6 x10 x11 wr => ∃ j : Nat, j ≤ cnt ∧ x11 = .int .i64 (lo + (j : Int)) ∧ x6 = .int .i64 (oJ n j : Int) ∧ x10 = .bool (sJ n j) ∧ Below z9 w10 wr) (fun _ _ x11 _ => (hi' + 1 - intOf x11).toNat)
        case atStart => exact ⟨0, by omega, by simp, rfl, by rw [HS0.out], Below.refl _ _⟩
        case round =>
          as_aux_lemma =>
            clear r9 hsr
            obtain ⟨j, hj, rfl, rfl, rfl, hBj⟩ := hrel
            have hsj := hBj.size
            have hBx : Below w.heap.size w wr := hB10.trans (hBj.mono (by omega))
            have b9j := b9.below hBj (by omega)
            have bmj := bm.below hBx hlm
            have hr0 := bmj.cell
            have r9 := b9j.cell
            by_cases hde : lo + (j : Int) ≤ hi'
            · obtain ⟨pl, dy, tl, sk, hpl, T⟩ := HWn.out (lo + (j : Int)) (by omega) hde
              have hjl : j < (lvR m n).length := by rw [HLn'.out]; omega
              have hOj := HOs'.out j hjl
              have hSj := HSs'.out j hjl
              have hojl := HOl.out n j
              rw [hpl] at hOj
              clear hpl hjl
              generalize hdd : lo + (j : Int) = d at *
              have HDD := Lib.hid hdd
              have hd0 : 0 ≤ d ∧ d ≤ 30 := by omega
              clear hdd
              generalize rg n d = rr at *
              have HOj := Lib.hid hOj
              have HSj := Lib.hid hSj
              generalize oJ n j = oj at *
              generalize sJ n j = sj at *
              obtain ⟨hkt, hok, htl6, hst2, hmem, hget, hpl, hsk0, hskn, hsks, hsv⟩ := T
              have HKT := Lib.hid hkt
              have HMem := Lib.hid hmem
              have HGet := Lib.hid hget
              have HPL := Lib.hid hpl
              have HSks := Lib.hid hsks
              have HSv := Lib.hid hsv
              have HSkn := Lib.hid hskn
              have HSk0 := Lib.hid hsk0
              have hjc := Lib.hid hj
              clear hkt hmem hget hpl hsks hsv hskn hsk0 hOj hSj HOs' HSs' HWn HLn' HOl HOs HSs HAs HA0 HAe HS0 HHd HW HO0 HOn hj
              generalize hst : startN m n = st at *
              clear hst
              go_wp2_with (first
                | (refine wpList_load_blk 27 (.tmp 1) agg_mob rfl rfl rfl bmj rfl ?_)
                | (go_at_call 31; refine (HKT.out _ hBx).mono ?_; rintro e w11 ⟨mp, s0, rfl, hmp, hmpl, hb11⟩; refine at_stop ?_))
              unfold Stop
              have hs11 := hb11.size
              replace b9j := b9j.below hb11 b9j.lt
              replace bmj := bmj.below hb11 bmj.lt
              replace hBj := hBj.trans (hb11.mono (by omega))
              replace hBx := hBx.trans (hb11.mono hBx.size)
              clear hb11 hr0 r9 HKT
              have r9 := b9j.cell
              have hr0 := bmj.cell
              generalize wr = wj at *
              clear wr
              obtain ⟨z11, hz11'⟩ : ∃ z, w11.heap.size = z := ⟨_, rfl⟩
              have hz11 : w11.heap.size ≤ z11 ∧ z11 ≤ w11.heap.size := by omega
              clear hz11'
              go_upto_region 9 with fail
              refine Ord.wp_regionN [(0, 0), (1, 0), (2, 0), (3, 0)] (fun _ => True) (by kernel_rfl) (by kernel_rfl) trivial ?_
              go_wp2_with (first
                | (with_reducible refine Ord.at_nm ?_)
                | ((with_reducible refine Ord.at_calm ?_); refine Ord.calm_skip rfl ?_ (fun K hK => ?_); (focus (simp [Region.wanted, yielded]; done))) | with_reducible refine Ord.walk_calm rfl rfl (fun K hK => ?_) | ((with_reducible refine Ord.at_wild ?_); refine Ord.wild_fieldAddr rfl rfl (fun W => by simp [go_sem]; rfl) (fun K hK => ?_)) | ((with_reducible refine Ord.at_wild ?_); refine Ord.wild_move rfl rfl (fun K hK => ?_)) | ((with_reducible refine Ord.at_wild ?_); refine Ord.wild_nilCheck rfl rfl (fun K hK => ?_)) | with_reducible refine Ord.walk_eff rfl (by first | (simp; done) | assumption | (go_simp; done) | (repeat (first | assumption | exact Below.refl _ _ | refine Below.drew ?_ | refine Below.alloc ?_ (by first | omega | (simp; done) | (simp; omega)) _ | refine Below.setCell ?_ (by first | omega | (simp; done) | (simp; omega)) _ | refine Below.trans ?_ (Below.mono (by assumption) (by first | omega | (simp; done) | (simp; omega)))))) (fun K hK => ?_) | with_reducible refine Ord.at_fork ?_ ?_ | with_reducible refine Ord.walk_nil ?_ | (with_reducible refine Ord.next_of (by first | (simp; done) | (go_simp; done) | (repeat (first | assumption | exact Below.refl _ _ | refine Below.drew ?_ | refine Below.alloc ?_ (by first | omega | (simp; done) | (simp; omega)) _ | refine Below.setCell ?_ (by first | omega | (simp; done) | (simp; omega)) _ | refine Below.trans ?_ (Below.mono (by assumption) (by first | omega | (simp; done) | (simp; omega)))))) (fun _ => ?_)))
              go_loopw [14, 51] (fun x14 x51 wr => ∃ k : Nat, k ≤ m.seen.length ∧ x51 = .int .i64 (k : Int) ∧ x14 = .bool (sk k) ∧ Below z11 w11 wr) (fun _ x51 _ => m.seen.length - (intOf x51).toNat)
              case atStart => exact ⟨0, by omega, rfl, by rw [HSk0.out], (Below.refl _ _).drew⟩
              case round =>
                as_aux_lemma =>
                  obtain ⟨k, hk, rfl, hx14, hBk⟩ := hrel
                  have hsk := hBk.size
                  have hBkx : Below w.heap.size w wr := hBx.trans (hBk.mono (by omega))
                  by_cases hlt4 : k < m.seen.length
                  · have hlti4 : (k : Int) < (m.seen.length : Int) := Int.ofNat_lt.2 hlt4
                    obtain ⟨gs, gos, rfl, s1c, s2c, s3c, s4c⟩ := (HMR.out _ hBkx).seen.get4 hlt4
                    have hks := HSks.out k hlt4
                    have hkv := HSv.out k hlt4
                    generalize m.seen[k].1 = s1 at *
                    generalize m.seen[k].2.1 = s2 at *
                    generalize m.seen[k].2.2.1 = s3 at *
                    generalize m.seen[k].2.2.2 = s4 at *
                    have HKS := Lib.hid hks
                    have HKV := Lib.hid hkv
                    obtain ⟨b, hb⟩ : ∃ b, sk k = b := ⟨_, rfl⟩
                    rw [hb] at HKS hx14
                    subst hx14
                    clear hks hkv r9 hr0 hb
                    go_wp2_with (first
                      | (refine wpList_store_blk 64 (.tmp 17) (.tmp 54) agg_seen rfl rfl rfl rfl (Blk.new _ _ _) rfl rfl (by simp [Value.oneCell']) ?_; intro w12 h; refine at_stop ?_))
                    unfold Stop
                    have b17 := h.blk
                    have hb12 : Below wr.heap.size wr w12 := h.below ((Below.refl _ _).alloc (Nat.le_refl _) _) (Nat.le_refl _)
                    have hB12 : Below z11 w11 w12 := hBk.trans (hb12.mono (by omega))
                    have hmp12 := hmp.below hB12 (by have := hmp.lt; omega)
                    have r17 := b17.cell
                    have l17 := b17.lt
                    clear h s1c s2c s3c s4c
                    clear hb12 hBkx
                    cases b
                    · go_wp2_with fail
                      exact ⟨⟨k + 1, by omega, by go_num, by rw [HKS.out]; rfl, hB12⟩, by simp [intOf]; omega⟩
                    · by_cases hsn : s1 = (n : Int)
                      · subst hsn
                        obtain ⟨p, rfl, hp1, hp2⟩ := HKV.out rfl
                        have hks := HKS.out
                        rw [Int.toNat_natCast] at hks
                        have hg := HGet.out p hp1 hp2
                        have HI1 : Hid (∀ W, Calls Try.prog 32 #[.int .i64 (dy p), .agg #[.int .i64 s3, .int .i64 s4]] W (Gives (.bool (insideV (dy p) s3 s4)) W)) := fun W => l_insideV (dy p) s3 s4 W
                        generalize insideV (dy p) s3 s4 = iv at *
                        have hik : Ik (p : Int) := ⟨by omega, by omega⟩
                        have HG := Lib.hid hg.1
                        have HKS' := Lib.hid hks
                        have hne : ((n : Int) != (n : Int)) = false := by simp
                        clear hks HKS HKV hg
                        go_wp2_with (first
                          | (refine wpList_guard rfl ?_; refine wpList_lookup_int (.tmp 62) (.tmp 64) rfl rfl rfl rfl hmp12 hok hik ?_; rw [HG.out])
                          | (go_at_call 32; refine (HI1.out _).mono ?_; rintro e w13 ⟨rfl, hb13⟩))
                        exact ⟨⟨k + 1, by omega, by go_num, by rw [HKS'.out]; simp, hB12.trans (hb13.mono (by have := hB12.size; omega))⟩, by simp [intOf]; omega⟩
                      · have hne : (s1 != (n : Int)) = true := by simp [hsn]
                        go_wp2_with fail
                        exact ⟨⟨k + 1, by omega, by go_num, by rw [HKS.out]; simp [hsn], hB12⟩, by simp [intOf]; omega⟩
                  · have hlti4 : ¬ (k : Int) < (m.seen.length : Int) := by omega
                    have hkr : sk k = rr := by
                      have : k = m.seen.length := by omega
                      rw [this]; exact HSkn.out
                    rw [hkr] at hx14
                    subst hx14
                    have hmpk := hmp.below hBk (by have := hmp.lt; omega)
                    have bdk := bd.below hBkx hld
                    have bik := bi.below hBkx hli
                    have hBj2 : Below z9 w10 wr := hBj.trans (hBk.mono (by omega))
                    clear HSks HSv HSkn HSk0 hkr hlt4 hmp hBj hBx hBk b9j bmj r9 hr0 hk
                    generalize wr = wl at *
                    clear wr
                    obtain ⟨r0, hr0⟩ : ∃ r, wl.heap.size = r := ⟨_, rfl⟩
                    have hmpr : mp < r0 := by rw [← hr0]; exact hmpk.lt
                    go_wp2_with (first
                      | (refine wpList_range_int (.tmp 72) rfl rfl rfl hmpk ?_; intro w15 hw15 hit hmp15; have hb15 : Below wl.heap.size wl w15 := (by rw [hw15]; exact (Below.refl _ _).alloc (Nat.le_refl _) _); have hs15 : wl.heap.size + 1 ≤ w15.heap.size ∧ w15.heap.size ≤ wl.heap.size + 1 := (by rw [hw15]; simp); clear hw15; refine at_stop ?_))
                    unfold Stop
                    have hbdl := bdk.lt
                    have hbil := bik.lt
                    have hB15 : Below z9 w10 w15 := hBj2.trans (hb15.mono (by have := hBj2.size; omega))
                    replace bdk := bdk.below hb15 hbdl
                    replace bik := bik.below hb15 hbil
                    rw [hr0] at hit hs15 hbdl hbil hsk
                    try simp only [hr0]
                    clear hb15 hr0 hmpk hBj2 hBkx
                    obtain ⟨zc, hzc'⟩ : ∃ z, w15.heap.size = z := ⟨_, rfl⟩
                    have hzc : w15.heap.size ≤ zc ∧ zc ≤ w15.heap.size := by omega
                    clear hzc'
                    have HN := HPL.out
                    have hn1 := HN.1
                    have hn2 := HN.2.1
                    have HN3 := Lib.hid HN.2.2.1
                    have HN4 := Lib.hid HN.2.2.2
                    clear HN HPL
                    go_wp2_with fail
                    go_loopw [15] (fun x15 wr => ∃ (seen : List Nat) (q : Nat), seen.Nodup ∧ (∀ i ∈ seen, i < tl.length) ∧ IterI wr r0 mp tl.length seen ∧ x15 = .int .i64 (q : Int) ∧ st ≤ q ∧ q ≤ pl ∧ Hid (∀ j ∈ seen, ∀ p : Nat, tl[j]? = some ((p : Int), dy p) → dy p ≤ day → p ≤ q) ∧ Off [r0] zc w15 wr) (fun _ wr => tl.length - seenLenI wr r0)
                    case atStart => exact ⟨[], st, by simp, by simp, hit, rfl, Nat.le_refl _, hn1, fun j hj => absurd hj (by simp), Off.refl _ _ _⟩
                    case round =>
                      as_aux_lemma =>
                        clear hit
                        obtain ⟨seen, q, hnd, hsl, hit, rfl, hq1, hq2, hqq, hO⟩ := hrel
                        have hsO := hO.size
                        have hmpi := hmp15.off hO (by omega) (by simp; omega)
                        have bdi := hO.blk bdk (by omega) (by simp; omega)
                        have bii := hO.blk bik (by omega) (by simp; omega)
                        go_wp2_with (first
                          | (refine wpList_next_int (.tmp 73) rfl rfl rfl hit hmpi ?_ ?_; intro hall; refine at_stop ?_; rotate_left; intro j' q' w16 hj' hns ht1 hit1 hmp1 hen; refine at_stop ?_))
                        all_goals unfold Stop
                        · obtain ⟨p, hpa, hpb, rfl⟩ := (HMem.out q').1 (List.mem_of_getElem? hj')
                          simp only at hen
                          obtain ⟨hdy0, hdy1⟩ := (HGet.out p hpa hpb).2
                          have HJ := Lib.hid hj'
                          have HNS := Lib.hid hns
                          have ht1s := ht1.size
                          have hO1 : Off [r0] zc w15 w16 := hO.trans (ht1.off (by omega))
                          have rd := (ht1.blk bdi (by omega)).cell
                          have hjl := (List.getElem?_eq_some_iff.1 hj').1
                          obtain ⟨hm1, hm2, hm3⟩ := seen_moreI hnd hsl hjl hns
                          have HIT := Lib.hid hit.len
                          have HML := Lib.hid hit1.len
                          clear hj' hns hO hit hmpi bdi bii ht1 hmp1
                          by_cases hdd : dy p ≤ (day : Int)
                          · have hle := HN3.out p hpa hpb hdd
                            go_wp2_with (first
                              | (refine wpList_max2 (.tmp 82) (.tmp 83) rfl rfl rfl rfl ?_))
                            refine ⟨⟨seen ++ [j'], max q p, hm1, hm2, hit1, by rw [show ((max q p : Nat) : Int) = max (q : Int) (p : Int) by omega], by omega, by omega, ?_, hO1⟩, ?_⟩
                            · intro j2 hj2 p2 hp2 hd2
                              rcases List.mem_append.1 hj2 with h | h
                              · have := hqq.out j2 h p2 hp2 hd2; omega
                              · simp only [List.mem_singleton] at h
                                subst h
                                have := HJ.out.symm.trans hp2
                                simp only [Option.some.injEq, Prod.mk.injEq] at this
                                omega
                            · rw [HML.out, HIT.out]; simp; omega
                          · go_wp2_with fail
                            refine ⟨⟨seen ++ [j'], q, hm1, hm2, hit1, rfl, hq1, hq2, ?_, hO1⟩, ?_⟩
                            · intro j2 hj2 p2 hp2 hd2
                              rcases List.mem_append.1 hj2 with h | h
                              · exact hqq.out j2 h p2 hp2 hd2
                              · simp only [List.mem_singleton] at h
                                subst h
                                have := HJ.out.symm.trans hp2
                                simp only [Option.some.injEq, Prod.mk.injEq] at this
                                obtain ⟨e1, e2⟩ := this
                                obtain rfl : p = p2 := by omega
                                exact absurd hd2 hdd
                            · rw [HML.out, HIT.out]; simp; omega
                        · have hql : q = pl := by
                            rcases HN4.out with h | h
                            · omega
                            · obtain ⟨j', hj'⟩ := List.getElem?_of_mem ((HMem.out _).2 ⟨pl, hn1, hn2, rfl⟩)
                              have := hqq.out j' (hall j' (List.getElem?_eq_some_iff.1 hj').1) pl hj' h
                              omega
                          subst hql
                          have hBe : Below z9 w10 wr := hB15.trans (hO.below (by omega) (by simp; omega))
                          have ri := bii.cell
                          have hq6 : q < 6 := by omega
                          have hwp2 := wrap_pow q (by omega)
                          have hor := (or_any6 oj hojl q hq6).1
                          have hwp3 : IntKind.i64.wrap ((2 : Int) ^ q) = ((2 ^ q : Nat) : Int) := by rw [pow_i64' q (by omega)]; simp
                          clear hnd hsl hit hqq hO hmpi bdi bii hmp15 bdk bik hall HN3 HN4 HMem HGet hok
                          by_cases hni : n = i
                          · have hOj : oJ n (j + 1) = if rr = true then oj ||| 2 ^ q else oj := by rw [HOj.out]; simp [hni]
                            have HO2 := Lib.hid hOj
                            have hbe : ((n : Int) == (i : Int)) = true := by rw [hni]; simp
                            clear hOj HOj hni
                            have hP32 := pow_le32 hq6
                            generalize hPw : 2 ^ q = Pw at *
                            clear hPw
                            generalize hT : oj ||| Pw = Tt at *
                            clear hT
                            cases sj <;> cases rr
                            all_goals
                              go_wp2_with fail
                              refine ⟨⟨j + 1, by have := hjc.out; have := HDD.out; omega, by have := HDD.out; congr 1; omega, by rw [HO2.out]; rfl, by rw [HSj.out]; rfl, hBe⟩, by have := HDD.out; simp [intOf]; omega⟩
                          · have hOj : oJ n (j + 1) = oj := by rw [HOj.out]; simp [hni]
                            have hbe : ((n : Int) == (i : Int)) = false := by rw [beq_eq_false_iff_ne]; omega
                            have HO2 := Lib.hid hOj
                            clear hOj HOj hor
                            cases sj <;> cases rr
                            all_goals
                              go_wp2_with fail
                              refine ⟨⟨j + 1, by have := hjc.out; have := HDD.out; omega, by have := HDD.out; congr 1; omega, by rw [HO2.out], by rw [HSj.out]; rfl, hBe⟩, by have := HDD.out; simp [intOf]; omega⟩
            · have hjc : j = cnt := by omega
              have e1 : oJ (n + 1) 0 = oJ n j := by rw [HOn.out, HLn'.out, hcnt, hjc]
              have e2 : aJ (n + 1) = (aJ n && sJ n j) := by rw [HAs.out, HLn'.out, hcnt, hjc]
              have HE1 := Lib.hid e1
              have HE2 := Lib.hid e2
              clear e1 e2
              generalize oJ n j = oj at *
              generalize sJ n j = sj at *
              obtain ⟨an, han⟩ : ∃ an, aJ n = an := ⟨_, rfl⟩
              rw [han] at HE2 ⊢
              clear han
              cases an
              all_goals
                go_wp2_with fail
                refine ⟨⟨n + 1, by omega, by go_num, by rw [HE1.out], by rw [HE2.out]; rfl, hBx⟩, by simp [intOf]; omega⟩
      · have hlti : ¬ (n : Int) < (m.herds.length : Int) := by omega
        obtain rfl : n = m.herds.length := by omega
        rw [HOe.out, HAe.out]
        have bcr := bc.below hBr hlc
        have rc := bcr.cell
        have fc := bcr.free
        cases al
        · go_wp2_with fail
          exact bodyPost_end (v := .tuple #[]) (results_nothing rfl _) rfl ⟨rfl, Off.of_below hBr (Nat.le_refl _), bcr⟩
        · have hor := or_all6 can hcan ow how6
          have hle : can ||| ow < 64 := Nat.or_lt_two_pow (n := 6) hcan how6
          generalize hT : can ||| ow = Tt at *
          have HT := Lib.hid hT
          clear hT
          go_wp2_with fail
          refine bodyPost_end (v := .tuple #[]) (results_nothing rfl _) rfl ⟨rfl, (Off.of_below hBr (Nat.le_refl _)).setCell (.inl (by simp)) _, ?_⟩
          show Blk _ ca #[.int .i64 ((can ||| ow : Nat) : Int)] _
          rw [HT.out]
          exact bcr.set 0 _
end Go.Proofs.Yteeinehpneppnaa
