/- Parts of a proof: MoG, MoH. -/
import Derived.Test.YteeinehpneppnaaQ11
import Derived.Laws.EntriesVeiled
import Derived.Scope
set_option linter.unusedVariables false
set_option linter.unusedSimpArgs false
namespace Go.Proofs.Yteeinehpneppnaa
open Go.RowKit Go.Proofs
attribute [local irreducible] Ord.walk
attribute [local go_sem] Oper.semAt_some
abbrev ownC (o : Nat → Int) : Array Value := #[.int .i64 (o 0), .int .i64 (o 1), .int .i64 (o 2), .int .i64 (o 3), .int .i64 (o 4)]
theorem ownC_set (o : Nat → Int) {n : Nat} (h : n < 5) (k : Int) : (ownC o).setIfInBounds n (.int .i64 k) = ownC (fun i => if i = n then k else o i) := by
  rcases (show n = 0 ∨ n = 1 ∨ n = 2 ∨ n = 3 ∨ n = 4 by omega) with rfl | rfl | rfl | rfl | rfl <;> rfl
/-- The legs, as far as they are chosen. -/
def OwnAt (W : World) (n nl : Nat) (b : List Int) : Prop :=
  ∃ o : Nat → Int, Blk W n (ownC o) 90 ∧ (∀ i, i < b.length → o i = lg b i) ∧ ∀ i, nl ≤ i → o i = 0
theorem OwnAt.full {W : World} {n nl : Nat} {b : List Int} (h : OwnAt W n nl b) (hb : b.length = nl) : Blk W n (legC b) 90 := by
  obtain ⟨o, h1, h2, h3⟩ := h
  have e : o = lg b := by
    funext i
    rcases Nat.lt_or_ge i b.length with hi | hi
    · exact h2 i hi
    · rw [h3 i (by omega)]; unfold lg; rw [List.getD_eq_getElem?_getD, List.getElem?_eq_none hi]; rfl
  subst e
  exact h1
theorem OwnAt.init {W : World} {n nl : Nat} {b : List Int} {k : Int} (h : OwnAt W n nl (b ++ [k])) : OwnAt W n nl b := by
  obtain ⟨o, h1, h2, h3⟩ := h
  refine ⟨o, h1, fun i hi => ?_, h3⟩
  rw [h2 i (by simp; omega)]
  unfold lg
  rw [List.getD_eq_getElem?_getD, List.getD_eq_getElem?_getD, List.getElem?_append_left hi]
theorem OwnAt.next {W : World} {n nl : Nat} {b : List Int} (h : OwnAt W n nl b) (hb : b.length < nl) (h5 : nl ≤ 5) (k : Int) : OwnAt (W.setCell ⟨n, b.length, none⟩ (.int .i64 k)) n nl (b ++ [k]) := by
  obtain ⟨o, h1, h2, h3⟩ := h
  refine ⟨fun i => if i = b.length then k else o i, ?_, fun i hi => ?_, fun i hi => ?_⟩
  · have := h1.set b.length (.int .i64 k)
    rwa [ownC_set o (by omega)] at this
  · by_cases e : i = b.length
    · subst e; simp [lg]
    · have hi2 : i < b.length := by simp at hi; omega
      simp only [if_neg e]
      rw [h2 i hi2]
      unfold lg
      rw [List.getD_eq_getElem?_getD, List.getD_eq_getElem?_getD, List.getElem?_append_left hi2]
  · simp only [if_neg (show ¬ i = b.length by omega)]; exact h3 i hi
theorem OwnAt.lets {X : Nat → Option Obj → Prop} {W W' : World} {n nl : Nat} {b : List Int} (h : OwnAt W n nl b) (hl : Lets X W W') (hx : ∀ o, ¬ X n o) : OwnAt W' n nl b := by
  obtain ⟨o, h1, h2⟩ := h
  exact ⟨o, hl.blk h1 (hx _), h2⟩
theorem accL_split (l : List (Int × Int)) (b : List Int) (lo : Int) {i j : Nat} (h : i ≤ j) : ∃ post, accL l b lo j = accL l b lo i ++ post := by
  induction j with
  | zero => obtain rfl : i = 0 := by omega
            exact ⟨[], by simp⟩
  | succ j ih =>
    rcases Nat.lt_or_ge i (j + 1) with h1 | h1
    · obtain ⟨post, e⟩ := ih (by omega)
      exact ⟨post ++ extL l (b ++ [lo + (j : Int)]), by rw [accL_succ, e, List.append_assoc]⟩
    · obtain rfl : i = j + 1 := by omega
      exact ⟨[], by simp⟩
abbrev onCap (tb n : Nat) : Array Value := #[.pointer (some ⟨tb, 0, none⟩), .pointer (some ⟨n, 0, none⟩), .pointer (some ⟨n + 1, 0, none⟩), .pointer (some ⟨n + 2, 0, none⟩)]
/-- What a call of on does. -/
def OnPost (J : Nat → World → Prop) (Jx : World → Prop) (Mid : World → Prop) (X : Nat → Option Obj → Prop) (n nl : Nat) (b : List Int) (j1 : Nat) (W : World) (e : Ending) (W' : World) : Prop :=
  Lets X W W' ∧ Mid W' ∧ ((e = .returned (.bool true) ∧ J j1 W' ∧ OwnAt W' n nl b) ∨ (e = .returned (.bool false) ∧ Jx W'))
set_option maxHeartbeats 40000000 in
set_option maxRecDepth 100000 in
theorem on_all {m : Mb} {A : Ma} {pa : Option Addr} {pc wp mb : Nat} (hv : validM m = true) (l tb n : Nat) (W0 : World) (X XR : Nat → Option Obj → Prop) (hX1 : ∀ o, X (n + 1) o) (hX2 : ∀ k o, XR k o → X k o) (hXR : ∀ o, ¬ XR (n + 1) o)
    (HK : ∀ W, Lets X W0 W → Blk W tb #[.pointer (some ⟨wp, 0, none⟩)] 80 ∧ Blk W n #[.func (.yield l) #[] #[]] 141 ∧ Blk W (n + 2) #[.func (.func 110) #[] (onCap tb n)] 72 ∧ Blk W wp (wcells m A pa pc mb) 126 ∧ RowsAt W A.la 2 spc m.legs)
    (J : Nat → World → Prop) (Jx Mid : World → Prop) (hJ : ∀ k A B, J k A → Lets (fun k _ => k = n + 1) A B → J k B) (hM : ∀ A B, Mid A → Lets (fun k _ => k = n + 1) A B → Mid B)
    (hY : ∀ k (h : k < (prodL m.legs).length) W1, J k W1 → Mid W1 → YieldAt Fence.wide 0 Try.prog l #[.agg (legC (prodL m.legs)[k])] W1 fun e W' => Lets XR W1 W' ∧ Mid W' ∧ ((e = .returned (.bool true) ∧ J (k + 1) W') ∨ (e = .returned (.bool false) ∧ Jx W'))) :
    ∀ (f : Nat) (b : List Int), b.length + f = m.legs.length → ∀ (pre post : List (List Int)), prodL m.legs = pre ++ extL m.legs b ++ post → ∀ W, Lets X W0 W → OwnAt W (n + 1) m.legs.length b → J pre.length W → Mid W →
      CallsIn Fence.wide 0 Try.prog 110 (#[.int .i64 b.length] ++ onCap tb n) W (OnPost J Jx Mid X (n + 1) m.legs.length b (pre.length + (extL m.legs b).length) W) := by
  have hlen := validM_len hv
  have hlv : ∀ i (hi : i < m.legs.length), 1 ≤ (m.legs[i]).1 ∧ (m.legs[i]).1 ≤ (m.legs[i]).2 ∧ (m.legs[i]).2 ≤ 5 := fun i hi => by
    have := validM_leg hv hi
    rw [List.getD_eq_getElem?_getD, List.getElem?_eq_getElem hi, Option.getD_some] at this
    omega
  have HLV := Lib.hid hlv
  have HKK := Lib.hid HK
  have HY := Lib.hid hY
  have HJ := Lib.hid hJ
  have HM := Lib.hid hM
  have HX1 := Lib.hid hX1
  have HX2 := Lib.hid hX2
  have HXR := Lib.hid hXR
  clear hlv HK hY hJ hM hX1 hX2 hXR hv
  have hll : (m.legs.length : Int) ≤ 5 := by omega
  intro f
  induction f with
  | zero =>
    intro b hb pre post hpp W hW hown hj hmid
    have hbl : b.length = m.legs.length := by omega
    have bo := hown.full hbl
    obtain ⟨k1, k2, k3, k4, k5⟩ := HKK.out W hW
    have r1 := k1.cell
    have r2 := k2.cell
    have r4 := k4.cell
    have ro := bo.cell
    rw [extL_done hbl] at hpp ⊢
    have hlt : pre.length < (prodL m.legs).length := by rw [hpp]; simp
    have hget : (prodL m.legs)[pre.length] = b := by
      have : (prodL m.legs)[pre.length]? = some b := by rw [hpp]; simp
      rw [List.getElem?_eq_getElem hlt] at this
      simpa using this
    obtain ⟨fn, tmps, asg, bd, hy, hR⟩ := HY.out pre.length hlt W hj hmid
    rw [hget] at hy
    have HOW := Lib.hid hown
    clear hown hpp hj hget k5 HY
    rcases A with ⟨qa, qc, la, lc, ha, hc, sa, sc⟩
    rw [hbl]
    refine callsIn_of_wp Try.func110 rfl trivial ?_ rfl
    simp only [Try.ntmps110, List.size_toArray, List.length_cons, List.length_nil, Nat.reduceAdd, Nat.reduceSub, Array.replicate_succ, Array.replicate_zero, List.push_toArray, List.append_toArray, List.nil_append, List.cons_append]
    gi_wp2_with fail
    refine ⟨rfl, hR.mono ?_⟩
    clear hy hR
    rintro e W3 ⟨hL3, hm3, ⟨rfl, hj3⟩ | ⟨rfl, hjx⟩⟩
    · gi_wp2_with fail
      go_ret
      exact ⟨hL3.mono (fun k _ h => HX2.out k _ h), hm3, .inl ⟨rfl, by simpa using hj3, HOW.out.lets hL3 HXR.out⟩⟩
    · gi_wp2_with fail
      go_ret
      exact ⟨hL3.mono (fun k _ h => HX2.out k _ h), hm3, .inr ⟨rfl, hjx⟩⟩
  | succ f ih =>
    intro b hb pre post hpp W hW hown hj hmid
    have hbl : b.length < m.legs.length := by omega
    obtain ⟨k1, k2, k3, k4, k5⟩ := HKK.out W hW
    have r1 := k1.cell
    have r4 := k4.cell
    have hE := extL_more hbl
    have hp := HLV.out b.length hbl
    have hbi : (b.length : Int) < (m.legs.length : Int) := by omega
    have hbne : ((b.length : Int) == (m.legs.length : Int)) = false := by simp; omega
    rw [hE] at hpp ⊢
    obtain ⟨lo, hlo⟩ : ∃ lo, (m.legs[b.length]).1 = lo := ⟨_, rfl⟩
    obtain ⟨hi, hhi⟩ : ∃ hi, (m.legs[b.length]).2 = hi := ⟨_, rfl⟩
    rw [hlo, hhi] at hpp hp ⊢
    obtain ⟨cnt, hcnt⟩ : ∃ cnt, (hi - lo + 1).toNat = cnt := ⟨_, rfl⟩
    rw [hcnt] at hpp ⊢
    have HPP := Lib.hid hpp
    have HC : Hid (∀ W, Lets X W0 W → ∃ gb go, A.la = some ⟨gb, go, none⟩ ∧ W.cell? ⟨gb, go + b.length * 2, none⟩ = some (.int .i64 lo) ∧ W.cell? ⟨gb, go + b.length * 2 + 1, none⟩ = some (.int .i64 hi)) := fun W hW => by
      obtain ⟨gb, go, e0, e1, e2⟩ := (HKK.out W hW).2.2.2.2.get2 hbl
      rw [hlo] at e1
      rw [hhi] at e2
      exact ⟨gb, go, e0, e1, e2⟩
    obtain ⟨gb, go, e0, e1, e2⟩ := HC.out W hW
    have IH := Lib.hid ih
    clear hE hlo hhi ih k5 hpp
    rcases A with ⟨qa, qc, la, lc, ha, hc, sa, sc⟩
    simp only at e0
    subst e0
    refine callsIn_of_wp Try.func110 rfl trivial ?_ rfl
    simp only [Try.ntmps110, List.size_toArray, List.length_cons, List.length_nil, Nat.reduceAdd, Nat.reduceSub, Array.replicate_succ, Array.replicate_zero, List.push_toArray, List.append_toArray, List.nil_append, List.cons_append]
    gi_wp2_with fail
    clear r1 r4 e1 e2 k1 k2 k3 k4
    gi_loopw [7] (fun x wr => ∃ j : Nat, j ≤ cnt ∧ x = .int .i64 (lo + (j : Int)) ∧ Lets X W wr ∧ OwnAt wr (n + 1) m.legs.length b ∧ Hid (J (pre.length + (accL m.legs b lo j).length) wr) ∧ Hid (Mid wr)) (fun x _ => (hi + 1 - intOf x).toNat)
    case atStart => exact ⟨0, by omega, by simp, Lets.refl _ _, hown, by show J _ _; simpa [accL] using hj, hmid⟩
    case round =>
      clear hown hj hmid
      obtain ⟨j, hjc, rfl, hLr, hownr, hjr, hmr⟩ := hrel
      have hLw := hW.trans hLr
      obtain ⟨k1, k2, k3, k4, k5⟩ := HKK.out wr hLw
      have r1 := k1.cell
      have r4 := k4.cell
      obtain ⟨gb', go', e0, e1, e2⟩ := HC.out wr hLw
      simp only [Option.some.injEq, Addr.mk.injEq] at e0
      obtain ⟨rfl, rfl, -⟩ := e0
      clear k5
      have r7 := k3.cell
      obtain ⟨olt, ofr, u, ocl⟩ : n + 1 < wr.heap.size ∧ wr.frozen? ⟨n + 1, b.length, none⟩ = false ∧ ∃ u, wr.cell? ⟨n + 1, b.length, none⟩ = some u := by
        obtain ⟨o, h1, h2⟩ := hownr
        refine ⟨h1.lt, h1.free _, .int .i64 (o b.length), ?_⟩
        rw [h1.cell]
        rcases (show b.length = 0 ∨ b.length = 1 ∨ b.length = 2 ∨ b.length = 3 ∨ b.length = 4 by omega) with e | e | e | e | e <;> rw [e] <;> rfl
      by_cases hlt : j < cnt
      · have hlti : lo + (j : Int) ≤ hi := by omega
        obtain ⟨ps, hps⟩ := accL_split m.legs b lo (show j + 1 ≤ cnt by omega)
        have hsu := accL_succ m.legs b lo j
        have HSU := Lib.hid hsu
        obtain ⟨W2, hW2⟩ : ∃ W2, wr.setCell ⟨n + 1, b.length, none⟩ (.int .i64 (lo + (j : Int))) = W2 := ⟨_, rfl⟩
        have hl2 : Lets (fun k _ => k = n + 1) wr W2 := by rw [← hW2]; exact (Lets.refl _ _).setCell rfl _
        have own2 : OwnAt W2 (n + 1) m.legs.length (b ++ [lo + (j : Int)]) := by rw [← hW2]; exact hownr.next hbl (by omega) _
        have hl2X : Lets X wr W2 := hl2.mono (fun k _ e => by subst e; exact HX1.out _)
        have hIH := IH.out (b ++ [lo + (j : Int)]) (by simp; omega) (pre ++ accL m.legs b lo j) (ps ++ post) (by rw [HPP.out, hps, hsu]; simp [List.append_assoc]) W2 (hLw.trans hl2X) own2 (by rw [List.length_append]; exact HJ.out _ _ _ hjr.out hl2) (HM.out _ _ hmr.out hl2)
        have hbk : ((b ++ [lo + (j : Int)]).length : Int) = (b.length : Int) + 1 := by simp
        rw [hbk] at hIH
        have HW2 := Lib.hid hW2
        clear hps hsu IH HPP own2 hownr hW2
        gi_wp2_with fail
        refine ⟨trivial, rfl, ?_⟩
        rw [HW2.out]
        refine hIH.mono ?_
        rintro e w3 h3
        obtain ⟨hL3, hm3, ⟨rfl, hj3, own3⟩ | ⟨rfl, hjx⟩⟩ := h3
        · gi_wp2_with fail
          refine ⟨⟨j + 1, by omega, ?_, (hLr.trans hl2X).trans hL3, own3.init, ?_, hm3⟩, by simp [intOf]; omega⟩
          · congr 1; omega
          · show J _ _
            rw [HSU.out, List.length_append, ← Nat.add_assoc, ← List.length_append]; exact hj3
        · gi_wp2_with fail
          go_ret
          exact ⟨(hLr.trans hl2X).trans hL3, hm3, .inr ⟨rfl, hjx⟩⟩
      · have hlti : ¬ lo + (j : Int) ≤ hi := by omega
        have e : j = cnt := by omega
        subst e
        gi_wp2_with fail
        go_ret
        exact ⟨hLr, hmr.out, .inl ⟨rfl, hjr.out, hownr⟩⟩
set_option maxHeartbeats 40000000 in
set_option maxRecDepth 100000 in
theorem all_seq {m : Mb} {A : Ma} {pa : Option Addr} {pc wp mb : Nat} (hv : validM m = true) (tb l : Nat) (W : World) (hw : WayAt W wp m A pa pc mb) (htb : Blk W tb #[.pointer (some ⟨wp, 0, none⟩)] 80) (XR : Nat → Option Obj → Prop) (Mid : World → Prop)
    (hX : ∀ k o, XR k o → k ≠ tb ∧ k ≠ wp ∧ (k < W.heap.size ∨ W.heap.size + 3 ≤ k) ∧ ∀ g go, A.la = some ⟨g, go, none⟩ → k ≠ g) (hM0 : Mid W) (hM : ∀ A B, Mid A → Lets (fun k _ => k = W.heap.size + 1) A B → Mid B) :
    SeqAt Try.prog 109 #[.pointer (some ⟨tb, 0, none⟩)] (fun L => #[.agg (legC L)]) (prodL m.legs) (fun k _ => k = W.heap.size + 1) XR (fun W' => Mid W' ∧ W.heap.size + 3 ≤ W'.heap.size) l W := by
  intro J Jx hJ hJx hY h0
  obtain ⟨W3, hW3⟩ : ∃ W3, ((W.alloc (.cells #[.func (.yield l) #[] #[]] 141)).alloc (.cells (ownC fun _ => 0) 90)).alloc (.cells #[.func (.func 110) #[] (onCap tb W.heap.size)] 72) = W3 := ⟨_, rfl⟩
  have hB : Below W.heap.size W W3 := by rw [← hW3]; (repeat (first | assumption | exact Below.refl _ _ | refine Below.drew ?_ | refine Below.alloc ?_ (by first | omega | (simp; done) | (simp; omega)) _ | refine Below.setCell ?_ (by first | omega | (simp; done) | (simp; omega)) _ | refine Below.trans ?_ (Below.mono (by assumption) (by first | omega | (simp; done) | (simp; omega)))))
  have hs3 : W3.heap.size = W.heap.size + 3 := by rw [← hW3]; simp
  have hlets : ∀ Y, Lets Y W W3 := fun Y => Lets.of_below hB
  have b0 : Blk W3 W.heap.size #[.func (.yield l) #[] #[]] 141 := by rw [← hW3]; exact ((Blk.new _ _ _).alloc _).alloc _
  have b1 : Blk W3 (W.heap.size + 1) (ownC fun _ => 0) 90 := by rw [← hW3]; exact (Blk.new' _ _ _ _ (by simp)).alloc _
  have b2 : Blk W3 (W.heap.size + 2) #[.func (.func 110) #[] (onCap tb W.heap.size)] 72 := by rw [← hW3]; exact Blk.new' _ _ _ _ (by simp)
  have hwlt := hw.blk.lt
  have htlt := htb.lt
  have hlg := hw.args.legs
  have hla : ∀ g go, A.la = some ⟨g, go, none⟩ → g < W.heap.size := fun g go e => by
    have := validM_len hv
    obtain ⟨gb, go', h0, h1⟩ := hlg 0 (by omega)
    rw [e] at h0
    simp only [Option.some.injEq, Addr.mk.injEq] at h0
    obtain ⟨rfl, -, -⟩ := h0
    exact World.block_lt_of_cell? W _ (h1 0 _ rfl)
  have hne : ∀ k, (k = tb ∨ k = wp ∨ k = W.heap.size ∨ k = W.heap.size + 2) → ∀ o, ¬ (k = W.heap.size + 1 ∨ XR k o) := fun k hk o e => by
    rcases e with e | e
    · omega
    · have := hX k o e; omega
  have hon := on_all (A := A) (pa := pa) (pc := pc) (wp := wp) (mb := mb) hv l tb W.heap.size W3 (fun k o => k = W.heap.size + 1 ∨ XR k o) XR (fun _ => .inl rfl) (fun _ _ h => .inr h) (fun o e => by have := hX _ _ e; omega)
    (fun W' hl => ⟨hl.blk (htb.below hB htlt) (hne _ (.inl rfl) _), hl.blk b0 (hne _ (.inr (.inr (.inl rfl))) _), hl.blk b2 (hne _ (.inr (.inr (.inr rfl))) _), hl.blk (hw.blk.below hB hwlt) (hne _ (.inr (.inl rfl)) _), fun i hi => by
      obtain ⟨gb, go, e0, e1⟩ := hlg i hi
      have hg := hla gb go e0
      refine ⟨gb, go, e0, fun j u hj => hl.cell ((hB.cell (p := ⟨gb, go + i * 2 + j, none⟩) hg).trans (e1 j u hj)) ?_⟩
      rintro (e | e)
      · simp only at e; omega
      · exact (hX _ _ e).2.2.2 gb go e0 rfl⟩)
    J Jx (fun W' => Mid W' ∧ W.heap.size + 3 ≤ W'.heap.size) hJ (fun A B h hl => ⟨hM A B h.1 hl, Nat.le_trans h.2 hl.size⟩) hY m.legs.length [] (by simp) [] [] (by simp [extL]) W3 (Lets.refl _ _) ⟨fun _ => 0, b1, fun i h => absurd h (by simp), fun _ _ => rfl⟩ (hJ 0 _ _ h0 (hlets _)) ⟨hM _ _ hM0 (hlets _), by omega⟩
  have HON := Lib.hid hon
  have e0 : (extL m.legs []).length = (prodL m.legs).length := by simp [extL]
  have HW3 := Lib.hid hW3
  have HE0 := Lib.hid e0
  clear hon e0 hW3 hne hla hX hM hM0 hJ hJx hY h0 b0 b1 b2 hB hlets hw htb hlg hs3
  refine callsIn_of_wp Try.func109 rfl trivial ?_ rfl
  simp only [Try.ntmps109, List.size_toArray, List.length_cons, List.length_nil, Nat.reduceAdd, Nat.reduceSub, Array.replicate_succ, Array.replicate_zero, List.push_toArray, List.append_toArray, List.nil_append, List.cons_append]
  gi_wp2_with fail
  refine ⟨trivial, rfl, ?_⟩
  have h := HON.out
  rw [← HW3.out] at h
  refine CallsIn.mono h ?_
  rintro e w3 ⟨hL3, hm3, ⟨rfl, hj3, own3⟩ | ⟨rfl, hjx⟩⟩
  · gi_wp2_with fail
    refine bodyPost_end (results_none rfl _ _ _) rfl ?_
    rw [HE0.out] at hj3
    exact ⟨⟨_, rfl⟩, hm3, .inl (by simpa using hj3)⟩
  · gi_wp2_with fail
    refine bodyPost_end (results_none rfl _ _ _) rfl ?_
    exact ⟨⟨_, rfl⟩, hm3, .inr hjx⟩
end Go.Proofs.Yteeinehpneppnaa
set_option linter.unusedVariables false
set_option linter.unusedSimpArgs false
namespace Go.Proofs.Yteeinehpneppnaa
open Go.RowKit Go.Proofs
attribute [local irreducible] Ord.walk
attribute [local go_sem] Oper.semAt_some
def canTo (m : Mb) (set : Nat) (L : List Int) (k : Nat) : Bool := (List.range k).all fun i => decide ((leavesM m L i set).1 ≤ (leavesM m L i set).2)
def canL (m : Mb) (set : Nat) (L : List Int) : Bool := canTo m set L m.herds.length
theorem canTo_succ (m : Mb) (set : Nat) (L : List Int) (k : Nat) : canTo m set L (k + 1) = (canTo m set L k && decide ((leavesM m L k set).1 ≤ (leavesM m L k set).2)) := by
  unfold canTo; rw [List.range_succ, List.all_append]; simp
theorem canTo_no {m : Mb} {set : Nat} {L : List Int} {k n : Nat} (hk : k < n) (h : ¬ (leavesM m L k set).1 ≤ (leavesM m L k set).2) : canTo m set L n = false := by
  unfold canTo
  rw [List.all_eq_false]
  exact ⟨k, List.mem_range.2 hk, by simpa using h⟩
/-- How long legs can take with which there is a truth, by what of a set was seen. -/
def toldL (m : Mb) (set : Nat) : List (List Int) := (prodL m.legs).filter (canL m set)
def cntL (m : Mb) (set j : Nat) : Nat := (((prodL m.legs).take j).filter (canL m set)).length
theorem cntL_yes {m : Mb} {set j : Nat} (hj : j < (prodL m.legs).length) (h : canL m set (prodL m.legs)[j] = true) : cntL m set (j + 1) = cntL m set j + 1 ∧ ∃ hh : cntL m set j < (toldL m set).length, (toldL m set)[cntL m set j] = (prodL m.legs)[j] := by
  have e1 : (prodL m.legs).take (j + 1) = (prodL m.legs).take j ++ [(prodL m.legs)[j]] := List.take_succ_eq_append_getElem hj
  have e2 : toldL m set = ((prodL m.legs).take j).filter (canL m set) ++ ((prodL m.legs)[j] :: ((prodL m.legs).drop (j + 1)).filter (canL m set)) := by
    unfold toldL
    conv => lhs; rw [← List.take_append_drop j (prodL m.legs), List.drop_eq_getElem_cons hj]
    rw [List.filter_append, List.filter_cons, h]; rfl
  refine ⟨by unfold cntL; rw [e1, List.filter_append, List.length_append]; simp [h], ?_, ?_⟩
  · unfold cntL; rw [e2]; simp
  · have : (toldL m set)[cntL m set j]? = some (prodL m.legs)[j] := by
      unfold cntL; rw [e2, List.getElem?_append_right (Nat.le_refl _)]; simp
    exact (List.getElem?_eq_some_iff.1 this).2
theorem cntL_no {m : Mb} {set j : Nat} (hj : j < (prodL m.legs).length) (h : canL m set (prodL m.legs)[j] = false) : cntL m set (j + 1) = cntL m set j := by
  unfold cntL
  rw [List.take_succ_eq_append_getElem hj, List.filter_append, List.length_append]
  simp [h]
theorem cntL_all (m : Mb) (set : Nat) : cntL m set (prodL m.legs).length = (toldL m set).length := by
  unfold cntL toldL; rw [List.take_length]
/-- What stays of a way: W0: the world in which it was opened. -/
def Way (W0 : World) (mb : Nat) (m : Mb) (W : World) : Prop := KeptAt W mb m ∧ Lets (fun k _ => k = mb) W0 W
theorem Way.lets {W0 W W' : World} {mb : Nat} {m : Mb} {X : Nat → Option Obj → Prop} (h : Way W0 mb m W) (hl : Lets X W W') (hmb : mb < W0.heap.size) (hX : ∀ k o, X k o → W0.heap.size ≤ k) : Way W0 mb m W' := by
  obtain ⟨⟨l, h1, h2⟩, h3⟩ := h
  refine ⟨⟨l, (hl.block mb h1.lt (fun e => by have := hX _ _ e; omega)).trans h1, h2⟩, h3.next hl fun i hi _ e => by have := hX _ _ e; omega⟩
theorem Way.leaves {W0 W W' : World} {mb : Nat} {m : Mb} (h : Way W0 mb m W) (hk : KeptAt W' mb m) (hl : Lets (fun k _ => k = mb) W W') : Way W0 mb m W' := ⟨hk, h.2.trans hl⟩
/-- A way that is open. -/
structure Opened (W0 : World) (wp : Nat) (m : Mb) (A : Ma) (pa : Option Addr) (pc mb : Nat) : Prop where
  way : WayAt W0 wp m A pa pc mb
  kept : KeptAt W0 mb m
namespace Opened
variable {W0 W : World} {wp : Nat} {m : Mb} {A : Ma} {pa : Option Addr} {pc mb : Nat}
theorem noCells (h : Opened W0 wp m A pa pc mb) {c : Array Value} {t : TypeId} {f : Nat × Nat} {k : Nat} (hk : W0.heap[k]? = some (.cells c t f)) : k ≠ mb := by
  rintro rfl
  obtain ⟨l, h1, -⟩ := h.kept
  exact h1.noCells hk
theorem at_ (h : Opened W0 wp m A pa pc mb) (hw : Way W0 mb m W) : WayAt W wp m A pa pc mb :=
  h.way.lets hw.2 fun k c t f hk e => h.noCells hk e
theorem wp_ne (h : Opened W0 wp m A pa pc mb) : wp ≠ mb := h.noCells h.way.blk
theorem wp_lt (h : Opened W0 wp m A pa pc mb) : wp < W0.heap.size := h.way.blk.lt
theorem mb_lt (h : Opened W0 wp m A pa pc mb) : mb < W0.heap.size := by
  obtain ⟨l, h1, -⟩ := h.kept
  exact h1.lt
theorem cell_ne (h : Opened W0 wp m A pa pc mb) {a : Addr} {v : Value} (hc : W0.cell? a = some v) : a.block ≠ mb ∧ a.block < W0.heap.size := by
  refine ⟨?_, World.block_lt_of_cell? W0 _ hc⟩
  obtain ⟨o, ho, hk⟩ := cells_of_cell hc
  cases o with
  | cells c t f => exact h.noCells ho
  | _ => simp [Obj.isCells] at hk
theorem la_ne (h : Opened W0 wp m A pa pc mb) (hv : validM m = true) {g go : Nat} (e : A.la = some ⟨g, go, none⟩) : g ≠ mb ∧ g < W0.heap.size := by
  have := validM_len hv
  obtain ⟨gb, go', h0, h1⟩ := h.way.args.legs 0 (by omega)
  rw [e] at h0
  simp only [Option.some.injEq, Addr.mk.injEq] at h0
  obtain ⟨rfl, -, -⟩ := h0
  exact h.cell_ne (h1 0 _ rfl)
end Opened
def toldF (n : Nat) : Value := .func (.func 94) #[] #[.pointer (some ⟨n, 0, none⟩), .pointer (some ⟨n + 1, 0, none⟩)]
structure ToldAt (w : World) (n wp set : Nat) : Prop where
  b0 : Blk w n #[.pointer (some ⟨wp, 0, none⟩)] 80
  b1 : Blk w (n + 1) #[.int .u64 (set : Int)] 87
theorem ToldAt.lets {X : Nat → Option Obj → Prop} {w w' : World} {n wp set : Nat} (h : ToldAt w n wp set) (hl : Lets X w w') (h0 : ∀ o, ¬ X n o) (h1 : ∀ o, ¬ X (n + 1) o) : ToldAt w' n wp set := ⟨hl.blk h.b0 (h0 _), hl.blk h.b1 (h1 _)⟩
theorem m_told (wp set : Nat) (w : World) : Calls Try.prog 46 #[.pointer (some ⟨wp, 0, none⟩), .int .u64 (set : Int)] w (fun e w' => e = .returned (toldF w.heap.size) ∧ ToldAt w' w.heap.size wp set ∧ Below w.heap.size w w' ∧ w'.heap.size = w.heap.size + 2) := by
  unfold toldF
  go_enter Try.func46, Try.ntmps46
  go_wp2
  go_ret
  exact ⟨rfl, ⟨(Blk.new _ _ _).alloc _, Blk.new' _ _ _ _ (by simp)⟩, by (repeat (first | assumption | exact Below.refl _ _ | refine Below.drew ?_ | refine Below.alloc ?_ (by first | omega | (simp; done) | (simp; omega)) _ | refine Below.setCell ?_ (by first | omega | (simp; done) | (simp; omega)) _ | refine Below.trans ?_ (Below.mono (by assumption) (by first | omega | (simp; done) | (simp; omega))))), by simp⟩
theorem m_all (wp : Nat) (w : World) : Calls Try.prog 95 #[.pointer (some ⟨wp, 0, none⟩)] w (fun e w' => e = .returned (.func (.func 109) #[] #[.pointer (some ⟨w.heap.size, 0, none⟩)]) ∧ w' = w.alloc (.cells #[.pointer (some ⟨wp, 0, none⟩)] 80)) := by
  go_enter Try.func95, Try.ntmps95
  go_wp2
  go_ret
  exact ⟨rfl, rfl⟩
set_option maxHeartbeats 40000000 in
set_option maxRecDepth 100000 in
theorem told_seq {m : Mb} {A : Ma} {pa : Option Addr} {pc wp mb : Nat} {W0 : World} (hv : validM m = true) (hO : Opened W0 wp m A pa pc mb) (set : Nat) (hset : set < 1000) (tb l : Nat) (W : World) (hW : Way W0 mb m W) (hT : ToldAt W tb wp set) (htb : W0.heap.size ≤ tb) (XR : Nat → Option Obj → Prop)
    (hX : ∀ k o, XR k o → k = mb ∨ (W0.heap.size ≤ k ∧ k ≠ tb ∧ k ≠ tb + 1 ∧ (k < W.heap.size ∨ W.heap.size + 7 ≤ k))) :
    SeqAt Try.prog 94 #[.pointer (some ⟨tb, 0, none⟩), .pointer (some ⟨tb + 1, 0, none⟩)] (fun L => #[.agg (legC L)]) (toldL m set) (fun k _ => k = mb ∨ (W.heap.size ≤ k ∧ k < W.heap.size + 7)) XR (fun W' => Way W0 mb m W' ∧ W.heap.size + 7 ≤ W'.heap.size) l W := by
  intro J Jx hJ hJx hY h0
  have htl := hT.b1.lt
  have htl0 := hT.b0.lt
  have hsz := hW.2.size
  refine callsIn_of_wp_marks (F := Fence.wide) (n := 0) Try.func94 rfl trivial ?_ rfl
  simp only [Try.ntmps94, List.size_toArray, List.length_cons, List.length_nil, Nat.reduceAdd, Nat.reduceSub, Array.replicate_succ, Array.replicate_zero, List.push_toArray, List.append_toArray, List.nil_append, List.cons_append]
  have r0 := hT.b0.cell
  gi_wp2_with fail
  refine wpIn_wide.2 (wp_scope_straight ?_)
  go_wp2_with fail
  refine wp_label ?_
  go_wp2_with (first
    | (go_at_call 95; refine (m_all wp _).mono ?_; rintro e w2 ⟨rfl, rfl⟩))
  have hwp := hO.wp_lt
  have hwpn := hO.wp_ne
  have hmb := hO.mb_lt
  generalize hN : W.heap.size = N at *
  have HN := Lib.hid hN
  obtain ⟨w2, hw2⟩ : ∃ w2, (W.alloc (.cells #[.func (.yield l) #[] #[]] 141)).alloc (.cells #[.pointer (some ⟨wp, 0, none⟩)] 80) = w2 := ⟨_, rfl⟩
  rw [hw2]
  have hB2 : Below N W w2 := by rw [← hw2, ← hN]; (repeat (first | assumption | exact Below.refl _ _ | refine Below.drew ?_ | refine Below.alloc ?_ (by first | omega | (simp; done) | (simp; omega)) _ | refine Below.setCell ?_ (by first | omega | (simp; done) | (simp; omega)) _ | refine Below.trans ?_ (Below.mono (by assumption) (by first | omega | (simp; done) | (simp; omega)))))
  have hs2 : w2.heap.size = N + 2 := by rw [← hw2]; simp [hN]
  have by2 : Blk w2 N #[.func (.yield l) #[] #[]] 141 := by rw [← hw2, ← hN]; exact (Blk.new _ _ _).alloc _
  have bt2 : Blk w2 (N + 1) #[.pointer (some ⟨wp, 0, none⟩)] 80 := by rw [← hw2]; exact Blk.new' _ _ _ _ (by simp [hN])
  have hl2 : ∀ Y, Lets Y W w2 := fun Y => Lets.of_below (by rw [hN]; exact hB2)
  have hT2 : ToldAt w2 tb wp set := hT.lets (hl2 (fun _ _ => False)) (fun _ e => e) (fun _ e => e)
  have hWy2 : Way W0 mb m w2 := hW.lets (hl2 (fun _ _ => False)) hmb (fun _ _ e => e.elim)
  have hj2 := hJ 0 _ _ h0 (hl2 _)
  clear hw2 hl2 h0 hW hT r0 hN hB2
  refine (wpIn_wide (n := 0)).1 (wp_range (encs := fun L => #[.agg (legC L)]) (xs := prodL m.legs) (XI := fun k _ => k = N + 5) (XB := fun k o => k = mb ∨ XR k o) (Mid := fun W' => Way W0 mb m W' ∧ N + 7 ≤ W'.heap.size)
    (fun k A => J (cntL m set k) A ∧ Blk A N #[.func (.yield l) #[] #[]] 141 ∧ ToldAt A tb wp set)
    (fun c A => c = .ret ∧ Jx A)
    rfl Try.call109 (fun _ => rfl)
    (fun W1 hb1 hs1 => ?seq)
    (fun j o h1 h2 => by omega) (fun j o h1 h2 e => by
      rcases e with e | e
      · omega
      · have := hX j o e; omega)
    (fun k A B h hl => ⟨hJ _ _ _ h.1 (hl.mono fun _ _ e => by omega), blk_lets h.2.1 hl (fun _ => by omega), h.2.2.lets hl (fun _ => by omega) (fun _ => by omega)⟩)
    (fun c A B h hl => ⟨h.1, hJx _ _ h.2 (hl.mono fun _ _ e => by omega)⟩)
    (fun k A B h hl => ⟨hJ _ _ _ h.1 (hl.mono fun _ _ e => by omega), blk_lets h.2.1 hl (fun _ => by omega), h.2.2.lets hl (fun _ => by omega) (fun _ => by omega)⟩)
    (fun c A B h hl => ⟨h.1, hJx _ _ h.2 (hl.mono fun _ _ e => by omega)⟩)
    (fun A B h hl => ⟨h.1.lets hl hmb (fun _ _ e => by omega), Nat.le_trans h.2 hl.size⟩) ⟨hj2, by2, hT2⟩ ?round ?done ?stop)
  case seq =>
    have hs4 : W1.heap.size = N + 4 := by omega
    have hWy1 : Way W0 mb m W1 := hWy2.lets (X := fun _ _ => False) (Lets.of_below hb1) hmb (fun _ _ e => e.elim)
    have := all_seq hv (N + 1) (w2.heap.size + 1) W1 (hO.at_ hWy1) (bt2.below hb1 (by omega)) (fun j o => (j = mb ∨ XR j o) ∨ j = w2.heap.size + 1) (Way W0 mb m) ?_ hWy1 (fun A B h hl => h.lets hl hmb (fun _ _ e => by omega))
    · rw [hs4] at this; exact this
    · have hmbc : ∀ k, k = mb → k ≠ N + 1 ∧ k ≠ wp ∧ (k < W1.heap.size ∨ W1.heap.size + 3 ≤ k) ∧ ∀ g go, A.la = some ⟨g, go, none⟩ → k ≠ g := by
        rintro k rfl
        exact ⟨by omega, Ne.symm hwpn, by omega, fun g go e => Ne.symm (hO.la_ne hv e).1⟩
      rintro k o ((e | e) | e)
      · exact hmbc k e
      · rcases hX k o e with e | e
        · exact hmbc k e
        · exact ⟨by omega, by omega, by omega, fun g go h => by have := (hO.la_ne hv h).2; omega⟩
      · exact ⟨by omega, by omega, by omega, fun g go h => by have := (hO.la_ne hv h).2; omega⟩
  case round =>
    intro k hk A' hI hM hsz hrec
    have hLm : (prodL m.legs)[k] ∈ prodL m.legs := List.getElem_mem hk
    have HYk : Hid (canL m set (prodL m.legs)[k] = true → ∀ W1, J (cntL m set k) W1 → Way W0 mb m W1 → N + 7 ≤ W1.heap.size → YieldAt Fence.wide 0 Try.prog l #[.agg (legC (prodL m.legs)[k])] W1 fun e W' => Lets XR W1 W' ∧ (Way W0 mb m W' ∧ N + 7 ≤ W'.heap.size) ∧ ((e = .returned (.bool true) ∧ J (cntL m set (k + 1)) W') ∨ (e = .returned (.bool false) ∧ Jx W'))) := fun hc W1 hj hm hsz => by
      obtain ⟨e1, hh, e2⟩ := cntL_yes hk hc
      have := hY _ hh W1 hj ⟨hm, hsz⟩
      rw [e2] at this
      rw [e1]
      exact this
    have HNo := Lib.hid (fun h => cntL_no (m := m) (set := set) hk h)
    have HLv := Lib.hid (fun W i (hi : i < m.herds.length) (hw : Way W0 mb m W) => m_leaves hv hLm i set hi hset W (hO.at_ hw) hw.1)
    have HCan : Hid (canL m set (prodL m.legs)[k] = canTo m set (prodL m.legs)[k] m.herds.length) := rfl
    have HLI := Lib.hid (fun i => lvTo_in hv hLm i set m.seen.length (Nat.le_refl _))
    have hlen := validM_len hv
    have hh4 : (m.herds.length : Int) ≤ 4 := by omega
    have htb2 : tb + 1 < N := htl
    clear hY hI hM
    unfold RoundOk
    generalize (prodL m.legs)[k] = L at *
    gi_wp2_with fail
    refine ⟨(Lets.refl _ _).alloc _, fun W₂ hl2 hs2 ⟨hj, byb, hTt⟩ ⟨hWy, hbig⟩ => ?_⟩
    have b4 : Blk W₂ A'.heap.size (legC L) 90 := hl2.blk (Blk.new _ _ _) (by omega)
    have hsz2 : W₂.heap.size = A'.heap.size + 1 := by rw [hs2]; simp
    clear hl2 hs2
    generalize A'.heap.size = t4 at *
    have hWA := hO.at_ hWy
    have rw' := hWA.blk.cell
    have r0 := hTt.b0.cell
    rcases A with ⟨qa, qc, la, lc, ha, hc, sa, sc⟩
    gi_wp2_with fail
    clear rw' r0 hWA
    have hmt : mb ≠ N ∧ mb ≠ tb ∧ mb ≠ tb + 1 ∧ mb ≠ t4 := by omega
    have HLC : Hid (∀ W i, i < m.herds.length → Way W0 mb m W → Calls Try.prog 80 #[.pointer (some ⟨wp, 0, none⟩), .agg #[.int .i64 (lg L 0), .int .i64 (lg L 1), .int .i64 (lg L 2), .int .i64 (lg L 3), .int .i64 (lg L 4), .int .i64 (i : Int), .int .u64 (set : Int)]] W (LeavesPost m mb (leavesM m L i set) W)) := fun W i hi hw => HLv.out W i hi hw
    have HJ := Lib.hid hj
    have HMid := Lib.hid hWy
    clear HLv hj hWy
    gi_loopw [16] (fun x wr => ∃ i : Nat, i ≤ m.herds.length ∧ x = .int .i64 (i : Int) ∧ Lets (fun k _ => k = mb) W₂ wr ∧ Way W0 mb m wr ∧ Hid (canTo m set L i = true)) (fun x _ => (m.herds.length - intOf x).toNat)
    case atStart => exact ⟨0, by omega, rfl, Lets.refl _ _, HMid.out, rfl⟩
    case round =>
      obtain ⟨i, hi, rfl, hLr, hWr, hcan⟩ := hrel
      have bT := hTt.lets hLr (fun _ => by omega) (fun _ => by omega)
      have b4r := hLr.blk b4 (by omega)
      have hsr := hLr.size
      have r0 := bT.b0.cell
      have r1 := bT.b1.cell
      have r4 := b4r.cell
      by_cases hlt : i < m.herds.length
      · have hlti : (i : Int) < m.herds.length := by omega
        have hcs := canTo_succ m set L i
        have HCS := Lib.hid hcs
        have HCN := Lib.hid (fun h => canTo_no (m := m) (set := set) (L := L) hlt h)
        have hc := HLC.out wr i hlt hWr
        have HWr := Lib.hid hWr
        have hlb := HLI.out i
        change -200 ≤ (leavesM m L i set).1 ∧ (leavesM m L i set).1 ≤ 200 ∧ -200 ≤ (leavesM m L i set).2 ∧ (leavesM m L i set).2 ≤ 200 at hlb
        generalize leavesM m L i set = lv at *
        obtain ⟨v1, v2⟩ := lv
        simp only at *
        clear hcs hWr
        gi_wp2_with fail
        refine ⟨trivial, rfl, ?_⟩
        refine CallsIn.inRound _ ((callsIn_wide.2 hc).mono ?_)
        rintro e w5 ⟨rfl, hk5, hl5⟩
        have hW5 := HWr.out.leaves hk5 hl5
        have hLr5 := hLr.trans hl5
        have HW5 := Lib.hid hW5
        clear hW5 hc r0 r1 r4 hk5
        by_cases hle : v1 ≤ v2
        · have hlt1 : ¬ v2 < v1 := by omega
          gi_wp2_with fail
          refine ⟨⟨i + 1, by omega, by go_num, hLr5.alloc _, HW5.out.lets (X := fun _ _ => False) ((Lets.refl _ _).alloc _) hmb (fun _ _ e => e.elim), ?_⟩, by simp [intOf]; omega⟩
          show _ = _
          rw [HCS.out, hcan.out, decide_eq_true hle]; rfl
        · have hlt1 : v2 < v1 := by omega
          gi_wp2_with fail
          have hno : canL m set L = false := by rw [HCan.out]; exact HCN.out hle
          have hl6 := hLr5.alloc (.cells #[.int .i64 v1, .int .i64 v2] 39)
          refine ⟨hl6.mono (fun _ _ e => .inl e), ⟨HW5.out.lets (X := fun _ _ => False) ((Lets.refl _ _).alloc _) hmb (fun _ _ e => e.elim), Nat.le_trans hbig hl6.size⟩, ?_, hl6.blk byb (by omega), hTt.lets hl6 (fun _ => by omega) (fun _ => by omega)⟩
          rw [HNo.out hno]
          exact hJ _ _ _ HJ.out (hl6.mono (fun _ _ e => .inl e))
      · have hlti : ¬ (i : Int) < m.herds.length := by omega
        have e : i = m.herds.length := by omega
        subst e
        have by4 := hLr.blk byb (by omega)
        have ry := by4.cell
        have hct : canL m set L = true := by rw [HCan.out]; exact hcan.out
        obtain ⟨fn, tmps, asg, bd, hy, hR⟩ := HYk.out hct wr (hJ _ _ _ HJ.out (hLr.mono (fun _ _ e => .inl e))) hWr (by omega)
        gi_wp2_with fail
        refine ⟨rfl, ?_⟩
        have hR2 : RoundIn (Fence.wide.inRound (N + 2 + 1)) 0 Try.prog l fn tmps asg bd wr _ := hR
        refine hR2.mono ?_
        clear hy hR hR2
        have hXN : ∀ o, ¬ (XR N o) := fun o e => by have := hX _ o e; omega
        have hXT : ∀ o, ¬ (XR tb o) := fun o e => by have := hX _ o e; omega
        have hXT1 : ∀ o, ¬ (XR (tb + 1) o) := fun o e => by have := hX _ o e; omega
        rintro e W3 ⟨hL3, hm3, ⟨rfl, hj3⟩ | ⟨rfl, hjx⟩⟩
        · gi_wp2_with fail
          exact ⟨(hLr.mono (fun _ _ e => .inl e)).trans (hL3.mono (fun _ _ e => .inr e)), hm3, hj3, hL3.blk by4 (hXN _), bT.lets hL3 hXT hXT1⟩
        · gi_wp2_with fail
          exact ⟨(hLr.mono (fun _ _ e => .inl e)).trans (hL3.mono (fun _ _ e => .inr e)), hm3, rfl, hjx⟩
  case done =>
    intro W hI hM hD
    rw [cntL_all] at hI
    simp only [Exit.inBlock, Exit.noGoto]
    refine post_ret1 (v := .tuple #[]) rfl hD fun w' hl hs => ⟨results_none rfl _ _ _, ⟨_, rfl⟩, ⟨hM.1.lets hl hmb (fun _ _ e => by omega), by rw [HN.out]; exact Nat.le_trans hM.2 hl.size⟩, .inl (hJ _ _ _ hI.1 (hl.mono fun _ _ e => by omega))⟩
  case stop =>
    rintro c W ⟨rfl, hj⟩ hM hD
    refine wpIn_ret ?_
    simp only [Exit.inBlock, Exit.noGoto]
    refine post_ret1 (v := .tuple #[]) rfl hD fun w' hl hs => ⟨results_none rfl _ _ _, ⟨_, rfl⟩, ⟨hM.1.lets hl hmb (fun _ _ e => by omega), by rw [HN.out]; exact Nat.le_trans hM.2 hl.size⟩, .inr (hJx _ _ hj (hl.mono fun _ _ e => by omega))⟩
end Go.Proofs.Yteeinehpneppnaa
