/- Package mob: all: how long legs can take. -/
import Derived.Test.YteeinehpneppnaaGreatMoF
import Derived.Laws.EntriesVeiled
set_option linter.unusedVariables false
set_option linter.unusedSimpArgs false
namespace Go.Proofs.YteeinehpneppnaaGreat
open Go.RowKit Go.Proofs
attribute [local irreducible] Ord.walk
attribute [local go_sem] Oper.semAt_some
abbrev ownC (o : Nat → Int) : Array Value := #[.int .i64 (o 0), .int .i64 (o 1), .int .i64 (o 2), .int .i64 (o 3), .int .i64 (o 4)]
theorem ownC_set (o : Nat → Int) {n : Nat} (h : n < 5) (k : Int) : (ownC o).setIfInBounds n (.int .i64 k) = ownC (fun i => if i = n then k else o i) := by
  rcases (show n = 0 ∨ n = 1 ∨ n = 2 ∨ n = 3 ∨ n = 4 by omega) with rfl | rfl | rfl | rfl | rfl <;> rfl
/-- The legs, as far as they are chosen. -/
def OwnAt (W : World) (n nl : Nat) (b : List Int) : Prop :=
  ∃ o : Nat → Int, Blk W n (ownC o) 58 ∧ (∀ i, i < b.length → o i = lg b i) ∧ ∀ i, nl ≤ i → o i = 0
theorem OwnAt.full {W : World} {n nl : Nat} {b : List Int} (h : OwnAt W n nl b) (hb : b.length = nl) : Blk W n (legC b) 58 := by
  obtain ⟨o, h1, h2, h3⟩ := h
  have e : o = lg b := by
    funext i
    rcases Nat.lt_or_ge i b.length with hi | hi
    · exact h2 i hi
    · rw [h3 i (by omega)]; unfold lg; rw [List.getD_eq_getElem?_getD, List.getElem?_eq_none hi]; rfl
  subst e
  exact h1
theorem OwnAt.init {W : World} {n nl : Nat} {b : List Int} {k : Int} (h : OwnAt W n nl (b ++ [k])) : OwnAt W n nl b := by
  obtain ⟨o, h1, h2, h3⟩ := h
  refine ⟨o, h1, fun i hi => ?_, h3⟩
  rw [h2 i (by simp; omega)]
  unfold lg
  rw [List.getD_eq_getElem?_getD, List.getD_eq_getElem?_getD, List.getElem?_append_left hi]
theorem OwnAt.next {W : World} {n nl : Nat} {b : List Int} (h : OwnAt W n nl b) (hb : b.length < nl) (h5 : nl ≤ 5) (k : Int) : OwnAt (W.setCell ⟨n, b.length, none⟩ (.int .i64 k)) n nl (b ++ [k]) := by
  obtain ⟨o, h1, h2, h3⟩ := h
  refine ⟨fun i => if i = b.length then k else o i, ?_, fun i hi => ?_, fun i hi => ?_⟩
  · have := h1.set b.length (.int .i64 k)
    rwa [ownC_set o (by omega)] at this
  · by_cases e : i = b.length
    · subst e; simp [lg]
    · have hi2 : i < b.length := by simp at hi; omega
      simp only [if_neg e]
      rw [h2 i hi2]
      unfold lg
      rw [List.getD_eq_getElem?_getD, List.getD_eq_getElem?_getD, List.getElem?_append_left hi2]
  · simp only [if_neg (show ¬ i = b.length by omega)]; exact h3 i hi
theorem OwnAt.lets {X : Nat → Option Obj → Prop} {W W' : World} {n nl : Nat} {b : List Int} (h : OwnAt W n nl b) (hl : Lets X W W') (hx : ∀ o, ¬ X n o) : OwnAt W' n nl b := by
  obtain ⟨o, h1, h2⟩ := h
  exact ⟨o, hl.blk h1 (hx _), h2⟩
theorem accL_split (l : List (Int × Int)) (b : List Int) (lo : Int) {i j : Nat} (h : i ≤ j) : ∃ post, accL l b lo j = accL l b lo i ++ post := by
  induction j with
  | zero => obtain rfl : i = 0 := by omega
            exact ⟨[], by simp⟩
  | succ j ih =>
    rcases Nat.lt_or_ge i (j + 1) with h1 | h1
    · obtain ⟨post, e⟩ := ih (by omega)
      exact ⟨post ++ extL l (b ++ [lo + (j : Int)]), by rw [accL_succ, e, List.append_assoc]⟩
    · obtain rfl : i = j + 1 := by omega
      exact ⟨[], by simp⟩
abbrev onCap (tb n : Nat) : Array Value := #[.pointer (some ⟨tb, 0, none⟩), .pointer (some ⟨n, 0, none⟩), .pointer (some ⟨n + 1, 0, none⟩), .pointer (some ⟨n + 2, 0, none⟩)]
/-- What a call of on does. -/
def OnPost (J : Nat → World → Prop) (Jx : World → Prop) (Mid : World → Prop) (X : Nat → Option Obj → Prop) (n nl : Nat) (b : List Int) (j1 : Nat) (W : World) (e : Ending) (W' : World) : Prop :=
  Lets X W W' ∧ Mid W' ∧ ((e = .returned (.bool true) ∧ J j1 W' ∧ OwnAt W' n nl b) ∨ (e = .returned (.bool false) ∧ Jx W'))
set_option maxHeartbeats 40000000 in
set_option maxRecDepth 100000 in
theorem on_all {m : Mb} {A : Ma} {pa : Option Addr} {pc wp mb : Nat} (hv : validM m = true) (l tb n : Nat) (W0 : World) (X XR : Nat → Option Obj → Prop) (hX1 : ∀ o, X (n + 1) o) (hX2 : ∀ k o, XR k o → X k o) (hXR : ∀ o, ¬ XR (n + 1) o)
    (HK : ∀ W, Lets X W0 W → Blk W tb #[.pointer (some ⟨wp, 0, none⟩)] 51 ∧ Blk W n #[.func (.yield l) #[] #[]] 118 ∧ Blk W (n + 2) #[.func (.func 93) #[] (onCap tb n)] 77 ∧ Blk W wp (wcells m A pa pc mb) 88 ∧ RowsAt W A.la 2 spc m.legs)
    (J : Nat → World → Prop) (Jx Mid : World → Prop) (hJ : ∀ k A B, J k A → Lets (fun k _ => k = n + 1) A B → J k B) (hM : ∀ A B, Mid A → Lets (fun k _ => k = n + 1) A B → Mid B)
    (hY : ∀ k (h : k < (prodL m.legs).length) W1, J k W1 → Mid W1 → YieldAt Fence.wide 0 Tryz.prog l #[.agg (legC (prodL m.legs)[k])] W1 fun e W' => Lets XR W1 W' ∧ Mid W' ∧ ((e = .returned (.bool true) ∧ J (k + 1) W') ∨ (e = .returned (.bool false) ∧ Jx W'))) :
    ∀ (f : Nat) (b : List Int), b.length + f = m.legs.length → ∀ (pre post : List (List Int)), prodL m.legs = pre ++ extL m.legs b ++ post → ∀ W, Lets X W0 W → OwnAt W (n + 1) m.legs.length b → J pre.length W → Mid W →
      CallsIn Fence.wide 0 Tryz.prog 93 (#[.int .i64 b.length] ++ onCap tb n) W (OnPost J Jx Mid X (n + 1) m.legs.length b (pre.length + (extL m.legs b).length) W) := by
  have hlen := validM_len hv
  have hlv : ∀ i (hi : i < m.legs.length), 1 ≤ (m.legs[i]).1 ∧ (m.legs[i]).1 ≤ (m.legs[i]).2 ∧ (m.legs[i]).2 ≤ 5 := fun i hi => by
    have := validM_leg hv hi
    rw [List.getD_eq_getElem?_getD, List.getElem?_eq_getElem hi, Option.getD_some] at this
    omega
  have HLV := Lib.hid hlv
  have HKK := Lib.hid HK
  have HY := Lib.hid hY
  have HJ := Lib.hid hJ
  have HM := Lib.hid hM
  have HX1 := Lib.hid hX1
  have HX2 := Lib.hid hX2
  have HXR := Lib.hid hXR
  clear hlv HK hY hJ hM hX1 hX2 hXR hv
  have hll : (m.legs.length : Int) ≤ 5 := by omega
  intro f
  induction f with
  | zero =>
    intro b hb pre post hpp W hW hown hj hmid
    have hbl : b.length = m.legs.length := by omega
    have bo := hown.full hbl
    obtain ⟨k1, k2, k3, k4, k5⟩ := HKK.out W hW
    have r1 := k1.cell
    have r2 := k2.cell
    have r4 := k4.cell
    have ro := bo.cell
    rw [extL_done hbl] at hpp ⊢
    have hlt : pre.length < (prodL m.legs).length := by rw [hpp]; simp
    have hget : (prodL m.legs)[pre.length] = b := by
      have : (prodL m.legs)[pre.length]? = some b := by rw [hpp]; simp
      rw [List.getElem?_eq_getElem hlt] at this
      simpa using this
    obtain ⟨fn, tmps, asg, bd, hy, hR⟩ := HY.out pre.length hlt W hj hmid
    rw [hget] at hy
    have HOW := Lib.hid hown
    clear hown hpp hj hget k5 HY
    rcases A with ⟨qa, qc, la, lc, ha, hc, sa, sc⟩
    rw [hbl]
    refine callsIn_of_wp Tryz.func93 rfl trivial ?_ rfl
    simp only [Tryz.ntmps93, List.size_toArray, List.length_cons, List.length_nil, Nat.reduceAdd, Nat.reduceSub, Array.replicate_succ, Array.replicate_zero, List.push_toArray, List.append_toArray, List.nil_append, List.cons_append]
    gi_wp2_with fail
    refine ⟨rfl, hR.mono ?_⟩
    clear hy hR
    rintro e W3 ⟨hL3, hm3, ⟨rfl, hj3⟩ | ⟨rfl, hjx⟩⟩
    · gi_wp2_with fail
      go_ret
      exact ⟨hL3.mono (fun k _ h => HX2.out k _ h), hm3, .inl ⟨rfl, by simpa using hj3, HOW.out.lets hL3 HXR.out⟩⟩
    · gi_wp2_with fail
      go_ret
      exact ⟨hL3.mono (fun k _ h => HX2.out k _ h), hm3, .inr ⟨rfl, hjx⟩⟩
  | succ f ih =>
    intro b hb pre post hpp W hW hown hj hmid
    have hbl : b.length < m.legs.length := by omega
    obtain ⟨k1, k2, k3, k4, k5⟩ := HKK.out W hW
    have r1 := k1.cell
    have r4 := k4.cell
    have hE := extL_more hbl
    have hp := HLV.out b.length hbl
    have hbi : (b.length : Int) < (m.legs.length : Int) := by omega
    have hbne : ((b.length : Int) == (m.legs.length : Int)) = false := by simp; omega
    rw [hE] at hpp ⊢
    obtain ⟨lo, hlo⟩ : ∃ lo, (m.legs[b.length]).1 = lo := ⟨_, rfl⟩
    obtain ⟨hi, hhi⟩ : ∃ hi, (m.legs[b.length]).2 = hi := ⟨_, rfl⟩
    rw [hlo, hhi] at hpp hp ⊢
    obtain ⟨cnt, hcnt⟩ : ∃ cnt, (hi - lo + 1).toNat = cnt := ⟨_, rfl⟩
    rw [hcnt] at hpp ⊢
    have HPP := Lib.hid hpp
    have HC : Hid (∀ W, Lets X W0 W → ∃ gb go, A.la = some ⟨gb, go, none⟩ ∧ W.cell? ⟨gb, go + b.length * 2, none⟩ = some (.int .i64 lo) ∧ W.cell? ⟨gb, go + b.length * 2 + 1, none⟩ = some (.int .i64 hi)) := fun W hW => by
      obtain ⟨gb, go, e0, e1, e2⟩ := (HKK.out W hW).2.2.2.2.get2 hbl
      rw [hlo] at e1
      rw [hhi] at e2
      exact ⟨gb, go, e0, e1, e2⟩
    obtain ⟨gb, go, e0, e1, e2⟩ := HC.out W hW
    have IH := Lib.hid ih
    clear hE hlo hhi ih k5 hpp
    rcases A with ⟨qa, qc, la, lc, ha, hc, sa, sc⟩
    simp only at e0
    subst e0
    refine callsIn_of_wp Tryz.func93 rfl trivial ?_ rfl
    simp only [Tryz.ntmps93, List.size_toArray, List.length_cons, List.length_nil, Nat.reduceAdd, Nat.reduceSub, Array.replicate_succ, Array.replicate_zero, List.push_toArray, List.append_toArray, List.nil_append, List.cons_append]
    gi_wp2_with fail
    clear r1 r4 e1 e2 k1 k2 k3 k4
    gi_loopw [7] (fun x wr => ∃ j : Nat, j ≤ cnt ∧ x = .int .i64 (lo + (j : Int)) ∧ Lets X W wr ∧ OwnAt wr (n + 1) m.legs.length b ∧ Hid (J (pre.length + (accL m.legs b lo j).length) wr) ∧ Hid (Mid wr)) (fun x _ => (hi + 1 - intOf x).toNat)
    case atStart => exact ⟨0, by omega, by simp, Lets.refl _ _, hown, by show J _ _; simpa [accL] using hj, hmid⟩
    case round =>
      clear hown hj hmid
      obtain ⟨j, hjc, rfl, hLr, hownr, hjr, hmr⟩ := hrel
      have hLw := hW.trans hLr
      obtain ⟨k1, k2, k3, k4, k5⟩ := HKK.out wr hLw
      have r1 := k1.cell
      have r4 := k4.cell
      obtain ⟨gb', go', e0, e1, e2⟩ := HC.out wr hLw
      simp only [Option.some.injEq, Addr.mk.injEq] at e0
      obtain ⟨rfl, rfl, -⟩ := e0
      clear k5
      have r7 := k3.cell
      obtain ⟨olt, ofr, u, ocl⟩ : n + 1 < wr.heap.size ∧ wr.frozen? ⟨n + 1, b.length, none⟩ = false ∧ ∃ u, wr.cell? ⟨n + 1, b.length, none⟩ = some u := by
        obtain ⟨o, h1, h2⟩ := hownr
        refine ⟨h1.lt, h1.free _, .int .i64 (o b.length), ?_⟩
        rw [h1.cell]
        rcases (show b.length = 0 ∨ b.length = 1 ∨ b.length = 2 ∨ b.length = 3 ∨ b.length = 4 by omega) with e | e | e | e | e <;> rw [e] <;> rfl
      by_cases hlt : j < cnt
      · have hlti : lo + (j : Int) ≤ hi := by omega
        obtain ⟨ps, hps⟩ := accL_split m.legs b lo (show j + 1 ≤ cnt by omega)
        have hsu := accL_succ m.legs b lo j
        have HSU := Lib.hid hsu
        obtain ⟨W2, hW2⟩ : ∃ W2, wr.setCell ⟨n + 1, b.length, none⟩ (.int .i64 (lo + (j : Int))) = W2 := ⟨_, rfl⟩
        have hl2 : Lets (fun k _ => k = n + 1) wr W2 := by rw [← hW2]; exact (Lets.refl _ _).setCell rfl _
        have own2 : OwnAt W2 (n + 1) m.legs.length (b ++ [lo + (j : Int)]) := by rw [← hW2]; exact hownr.next hbl (by omega) _
        have hl2X : Lets X wr W2 := hl2.mono (fun k _ e => by subst e; exact HX1.out _)
        have hIH := IH.out (b ++ [lo + (j : Int)]) (by simp; omega) (pre ++ accL m.legs b lo j) (ps ++ post) (by rw [HPP.out, hps, hsu]; simp [List.append_assoc]) W2 (hLw.trans hl2X) own2 (by rw [List.length_append]; exact HJ.out _ _ _ hjr.out hl2) (HM.out _ _ hmr.out hl2)
        have hbk : ((b ++ [lo + (j : Int)]).length : Int) = (b.length : Int) + 1 := by simp
        rw [hbk] at hIH
        have HW2 := Lib.hid hW2
        clear hps hsu IH HPP own2 hownr hW2
        gi_wp2_with fail
        refine ⟨trivial, rfl, ?_⟩
        rw [HW2.out]
        refine hIH.mono ?_
        rintro e w3 h3
        obtain ⟨hL3, hm3, ⟨rfl, hj3, own3⟩ | ⟨rfl, hjx⟩⟩ := h3
        · gi_wp2_with fail
          refine ⟨⟨j + 1, by omega, ?_, (hLr.trans hl2X).trans hL3, own3.init, ?_, hm3⟩, by simp [intOf]; omega⟩
          · congr 1; omega
          · show J _ _
            rw [HSU.out, List.length_append, ← Nat.add_assoc, ← List.length_append]; exact hj3
        · gi_wp2_with fail
          go_ret
          exact ⟨(hLr.trans hl2X).trans hL3, hm3, .inr ⟨rfl, hjx⟩⟩
      · have hlti : ¬ lo + (j : Int) ≤ hi := by omega
        have e : j = cnt := by omega
        subst e
        gi_wp2_with fail
        go_ret
        exact ⟨hLr, hmr.out, .inl ⟨rfl, hjr.out, hownr⟩⟩
set_option maxHeartbeats 40000000 in
set_option maxRecDepth 100000 in
theorem all_seq {m : Mb} {A : Ma} {pa : Option Addr} {pc wp mb : Nat} (hv : validM m = true) (tb l : Nat) (W : World) (hw : WayAt W wp m A pa pc mb) (htb : Blk W tb #[.pointer (some ⟨wp, 0, none⟩)] 51) (XR : Nat → Option Obj → Prop) (Mid : World → Prop)
    (hX : ∀ k o, XR k o → k ≠ tb ∧ k ≠ wp ∧ (k < W.heap.size ∨ W.heap.size + 3 ≤ k) ∧ ∀ g go, A.la = some ⟨g, go, none⟩ → k ≠ g) (hM0 : Mid W) (hM : ∀ A B, Mid A → Lets (fun k _ => k = W.heap.size + 1) A B → Mid B) :
    SeqAt Tryz.prog 92 #[.pointer (some ⟨tb, 0, none⟩)] (fun L => #[.agg (legC L)]) (prodL m.legs) (fun k _ => k = W.heap.size + 1) XR (fun W' => Mid W' ∧ W.heap.size + 3 ≤ W'.heap.size) l W := by
  intro J Jx hJ hJx hY h0
  obtain ⟨W3, hW3⟩ : ∃ W3, ((W.alloc (.cells #[.func (.yield l) #[] #[]] 118)).alloc (.cells (ownC fun _ => 0) 58)).alloc (.cells #[.func (.func 93) #[] (onCap tb W.heap.size)] 77) = W3 := ⟨_, rfl⟩
  have hB : Below W.heap.size W W3 := by rw [← hW3]; (repeat (first | assumption | exact Below.refl _ _ | refine Below.drew ?_ | refine Below.alloc ?_ (by first | omega | (simp; done) | (simp; omega)) _ | refine Below.setCell ?_ (by first | omega | (simp; done) | (simp; omega)) _ | refine Below.trans ?_ (Below.mono (by assumption) (by first | omega | (simp; done) | (simp; omega)))))
  have hs3 : W3.heap.size = W.heap.size + 3 := by rw [← hW3]; simp
  have hlets : ∀ Y, Lets Y W W3 := fun Y => Lets.of_below hB
  have b0 : Blk W3 W.heap.size #[.func (.yield l) #[] #[]] 118 := by rw [← hW3]; exact ((Blk.new _ _ _).alloc _).alloc _
  have b1 : Blk W3 (W.heap.size + 1) (ownC fun _ => 0) 58 := by rw [← hW3]; exact (Blk.new' _ _ _ _ (by simp)).alloc _
  have b2 : Blk W3 (W.heap.size + 2) #[.func (.func 93) #[] (onCap tb W.heap.size)] 77 := by rw [← hW3]; exact Blk.new' _ _ _ _ (by simp)
  have hwlt := hw.blk.lt
  have htlt := htb.lt
  have hlg := hw.args.legs
  have hla : ∀ g go, A.la = some ⟨g, go, none⟩ → g < W.heap.size := fun g go e => by
    have := validM_len hv
    obtain ⟨gb, go', h0, h1⟩ := hlg 0 (by omega)
    rw [e] at h0
    simp only [Option.some.injEq, Addr.mk.injEq] at h0
    obtain ⟨rfl, -, -⟩ := h0
    exact World.block_lt_of_cell? W _ (h1 0 _ rfl)
  have hne : ∀ k, (k = tb ∨ k = wp ∨ k = W.heap.size ∨ k = W.heap.size + 2) → ∀ o, ¬ (k = W.heap.size + 1 ∨ XR k o) := fun k hk o e => by
    rcases e with e | e
    · omega
    · have := hX k o e; omega
  have hon := on_all (A := A) (pa := pa) (pc := pc) (wp := wp) (mb := mb) hv l tb W.heap.size W3 (fun k o => k = W.heap.size + 1 ∨ XR k o) XR (fun _ => .inl rfl) (fun _ _ h => .inr h) (fun o e => by have := hX _ _ e; omega)
    (fun W' hl => ⟨hl.blk (htb.below hB htlt) (hne _ (.inl rfl) _), hl.blk b0 (hne _ (.inr (.inr (.inl rfl))) _), hl.blk b2 (hne _ (.inr (.inr (.inr rfl))) _), hl.blk (hw.blk.below hB hwlt) (hne _ (.inr (.inl rfl)) _), fun i hi => by
      obtain ⟨gb, go, e0, e1⟩ := hlg i hi
      have hg := hla gb go e0
      refine ⟨gb, go, e0, fun j u hj => hl.cell ((hB.cell (p := ⟨gb, go + i * 2 + j, none⟩) hg).trans (e1 j u hj)) ?_⟩
      rintro (e | e)
      · simp only at e; omega
      · exact (hX _ _ e).2.2.2 gb go e0 rfl⟩)
    J Jx (fun W' => Mid W' ∧ W.heap.size + 3 ≤ W'.heap.size) hJ (fun A B h hl => ⟨hM A B h.1 hl, Nat.le_trans h.2 hl.size⟩) hY m.legs.length [] (by simp) [] [] (by simp [extL]) W3 (Lets.refl _ _) ⟨fun _ => 0, b1, fun i h => absurd h (by simp), fun _ _ => rfl⟩ (hJ 0 _ _ h0 (hlets _)) ⟨hM _ _ hM0 (hlets _), by omega⟩
  have HON := Lib.hid hon
  have e0 : (extL m.legs []).length = (prodL m.legs).length := by simp [extL]
  have HW3 := Lib.hid hW3
  have HE0 := Lib.hid e0
  clear hon e0 hW3 hne hla hX hM hM0 hJ hJx hY h0 b0 b1 b2 hB hlets hw htb hlg hs3
  refine callsIn_of_wp Tryz.func92 rfl trivial ?_ rfl
  simp only [Tryz.ntmps92, List.size_toArray, List.length_cons, List.length_nil, Nat.reduceAdd, Nat.reduceSub, Array.replicate_succ, Array.replicate_zero, List.push_toArray, List.append_toArray, List.nil_append, List.cons_append]
  gi_wp2_with fail
  refine ⟨trivial, rfl, ?_⟩
  have h := HON.out
  rw [← HW3.out] at h
  refine CallsIn.mono h ?_
  rintro e w3 ⟨hL3, hm3, ⟨rfl, hj3, own3⟩ | ⟨rfl, hjx⟩⟩
  · gi_wp2_with fail
    refine bodyPost_end (results_none rfl _ _ _) rfl ?_
    rw [HE0.out] at hj3
    exact ⟨⟨_, rfl⟩, hm3, .inl (by simpa using hj3)⟩
  · gi_wp2_with fail
    refine bodyPost_end (results_none rfl _ _ _) rfl ?_
    exact ⟨⟨_, rfl⟩, hm3, .inr hjx⟩
end Go.Proofs.YteeinehpneppnaaGreat
