/- Parts of a proof: MxD, MvP, MwP. -/
import Derived.Test.YteeinehpneppnaaQ32
import Derived.Test.YteeinehpneppnaaQ31
set_option linter.unusedVariables false
set_option linter.unusedSimpArgs false
namespace Go.Proofs.Yteeinehpneppnaa
open Go.RowKit Go.Proofs
attribute [local irreducible] Ord.walk
section
variable {P : Program} {Q : Exit → Act → World → Prop} {t : Ord.Tk} {lo : List Oper} {tm : Array Value} {i : Nat} {vals : Nat → Value} {bs : Nat → List Nat} {w : World} {R : Act → World → Prop}
/-- One cell is stored. -/
theorem st_cell (ok : Ord.okD lo = true) (hF : ∀ vals, t.F vals = Ord.Fr lo tm vals) {o : Oper} (ho : lo[i]? = some o) (hg : o.guard = none) {ty : TypeId} {x y : Operand} (hop : o.op = .store ty x y) (hd : o.dst = none) {p u : Value} (hx : (Act.mk (t.F vals) t.ds).eval x = p) (hy : (Act.mk (t.F vals) t.ds).eval y = u)
    {w' : World} (hr : (Instr.storeAt ty p u).run P w = .ok () w') (v : Value) (hR : R ⟨t.F (Ord.setV vals i v), t.ds⟩ w') : Ord.walk P lo.toArray (fun _ => True) (Ord.Qn Q R) [(i, 2)] ⟨t.F vals, t.ds⟩ w := by
  refine Ord.walk_one ho fun K hK => wpList_plain hg fun K' hK' => ?_
  unfold Oper.wp
  have he : execOp (Act.mk (t.F vals) t.ds).eval o = (do Instr.storeAt ty p u; pure Next.skip : Sem Next) := by
    rw [← hx, ← hy]
    unfold execOp
    simp only [hop]
  rw [he, Sem.run_bind, hr]
  show K' ((Act.mk (t.F vals) t.ds).put o.dst undef) w'
  have := put_of ok hF ho v (vals := vals)
  rw [hd] at this ⊢
  rw [show (Act.mk (t.F vals) t.ds).put none undef = (Act.mk (t.F vals) t.ds).put none v from rfl, this]
  exact hK' _ _ (wpList_nil (show K _ _ from hK _ _ hR))
end
noncomputable def m6 : List Oper := regOf 6 moreCode
theorem ok6 : Ord.okD m6 = true := by kernel_rfl
def Y1 (w : World) (n p16 : Nat) (m : Mb) (A : Ma) (bs : List Nat) : Prop := ∃ u bu, bs = p16 :: bu ∧ Blk w p16 #[.slice A.pa m.places.length A.pc, u, .slice A.ha m.herds.length A.hc, .slice A.sa m.seen.length A.sc] 27 ∧ OwnT w n 39 2 spc m.legs u bu
def Y2 (w : World) (n p16 : Nat) (m : Mb) (A : Ma) (u : Value) (bu : List Nat) (v : Value) (bv : List Nat) : Prop := Blk w p16 #[.slice A.pa m.places.length A.pc, u, v, .slice A.sa m.seen.length A.sc] 27 ∧ OwnT w n 39 2 spc m.legs u bu ∧ OwnT w n 56 4 i4c m.herds v bv ∧ ∀ k ∈ bu, k ∉ bv
def T1 (w : World) (n p18 : Nat) (m : Mb) (A : Ma) (u : Value) (bu : List Nat) : Prop := Blk w p18 #[.slice A.pa m.places.length A.pc, .slice A.la m.legs.length A.lc, u, .slice A.sa m.seen.length A.sc] 27 ∧ OwnT w n 56 4 i4c m.herds u bu
noncomputable def t6 (z n p5 p16 p18 : Nat) (m : Mb) (A : Ma) (tm : Array Value) (w0 : World) (B : List Nat) (K : World → Prop) : Ord.Tk where
  n0 := z
  F vals := Ord.Fr m6 tm vals
  ds := []
  H W := Below z w0 W
  rd i := match i with
    | 1 => some (.pointer (some ⟨p5, 1, none⟩))
    | 2 => some (.slice A.la m.legs.length A.lc)
    | 5 => some (.pointer (some ⟨p5, 2, none⟩))
    | 6 => some (.slice A.ha m.herds.length A.hc)
    | 9 => some (.pointer (some ⟨p5, 2, none⟩))
    | 10 => some (.slice A.ha m.herds.length A.hc)
    | 12 => some (.pointer (some ⟨p16, 1, none⟩))
    | 14 => some (.pointer (some ⟨p16, 2, none⟩))
    | 16 => some (.pointer (some ⟨p18, 2, none⟩))
    | _ => none
  use i := match i with
    | 3 => [0]
    | 7 => [4]
    | 11 => [8]
    | 13 => [18, 3]
    | 15 => [13, 7]
    | 17 => [19, 11]
    | _ => []
  take i := match i with
    | 3 => [0]
    | 7 => [4]
    | 11 => [8]
    | 13 => [18, 3]
    | 15 => [13, 7]
    | 17 => [19, 11]
    | _ => []
  T i v bs w := match i with
    | 0 => EmpT w n 39 v bs
    | 3 => OwnT w n 39 2 spc m.legs v bs
    | 4 => EmpT w n 56 v bs
    | 7 => OwnT w n 56 4 i4c m.herds v bs
    | 8 => EmpT w n 56 v bs
    | 11 => OwnT w n 56 4 i4c m.herds v bs
    | 13 => Y1 w n p16 m A bs
    | 15 => ∃ u bu v bv, bs = p16 :: (bu ++ bv) ∧ Y2 w n p16 m A u bu v bv
    | 17 => ∃ u bu, bs = p18 :: bu ∧ T1 w n p18 m A u bu
    | 18 => bs = [p16] ∧ Blk w p16 (mcells m A) 27
    | 19 => bs = [p18] ∧ Blk w p18 (mcells m A) 27
    | 20 => bs = B ∧ K w
    | _ => bs = []
  init := [18, 19, 20]
theorem t6_stay {z n p5 p16 p18 : Nat} {m : Mb} {A : Ma} {tm : Array Value} {w0 : World} {B : List Nat} {K : World → Prop} (hK : ∀ w w', (∀ k ∈ B, w'.heap[k]? = w.heap[k]?) → K w → K w') (i : Nat) (v : Value) (bs : List Nat) (w w' : World) (h : ∀ k ∈ bs, w'.heap[k]? = w.heap[k]?) (hT : (t6 z n p5 p16 p18 m A tm w0 B K).T i v bs w) : (t6 z n p5 p16 p18 m A tm w0 B K).T i v bs w' := by
  match i, hT with
  | 0, hT => exact EmpT.stay hT h
  | 1, hT => exact hT
  | 2, hT => exact hT
  | 3, hT => exact OwnT.stay hT h
  | 4, hT => exact EmpT.stay hT h
  | 5, hT => exact hT
  | 6, hT => exact hT
  | 7, hT => exact OwnT.stay hT h
  | 8, hT => exact EmpT.stay hT h
  | 9, hT => exact hT
  | 10, hT => exact hT
  | 11, hT => exact OwnT.stay hT h
  | 12, hT => exact hT
  | 13, ⟨u, bu, e, h1, h2⟩ => exact ⟨u, bu, e, (h p16 (by simp [e])).trans h1, h2.stay fun k hk => h k (by simp [e, hk])⟩
  | 14, hT => exact hT
  | 15, ⟨u, bu, v, bv, e, h1, h2, h3, h4⟩ => exact ⟨u, bu, v, bv, e, (h p16 (by simp [e])).trans h1, h2.stay fun k hk => h k (by simp [e, hk]), h3.stay fun k hk => h k (by simp [e, hk]), h4⟩
  | 16, hT => exact hT
  | 17, ⟨u, bu, e, h1, h2⟩ => exact ⟨u, bu, e, (h p18 (by simp [e])).trans h1, h2.stay fun k hk => h k (by simp [e, hk])⟩
  | 18, ⟨e, h1⟩ => exact ⟨e, (h p16 (by simp [e])).trans h1⟩
  | 19, ⟨e, h1⟩ => exact ⟨e, (h p18 (by simp [e])).trans h1⟩
  | 20, ⟨e, h1⟩ => exact ⟨e, hK w w' (fun k hk => h k (by rw [e]; exact hk)) h1⟩
  | n + 21, hT => exact hT
set_option maxHeartbeats 4000000 in
set_option maxRecDepth 100000 in
theorem more_r6 {m : Mb} {A : Ma} {w : World} {tm : Array Value} (hsz : tm.size = 545) {z p5 p16 p18 : Nat} {B : List Nat} {K : World → Prop} (h5 : tm[5]? = some (.pointer (some ⟨p5, 0, none⟩))) (h16 : tm[16]? = some (.pointer (some ⟨p16, 0, none⟩))) (h18 : tm[18]? = some (.pointer (some ⟨p18, 0, none⟩))) (b5 : Blk w p5 (mcells m A) 27) (hp5 : p5 < z)
    (b16 : Blk w p16 (mcells m A) 27) (b18 : Blk w p18 (mcells m A) 27) (hz16 : z ≤ p16) (hz18 : z ≤ p18) (hm : ∀ W, Below z w W → MbAt W m A) (hl : Mlen m) (hlg : 0 < m.legs.length) (hhd : 0 < m.herds.length) (hK : ∀ w w', (∀ k ∈ B, w'.heap[k]? = w.heap[k]?) → K w → K w') (hKw : K w) (hdw : ∀ w, K w → K w.drew) (hB : ∀ k ∈ B, z ≤ k ∧ k < w.heap.size) (hne : p16 ≠ p18) (hB16 : p16 ∉ B) (hB18 : p18 ∉ B) {Q : Exit → Act → World → Prop}
    (hexit : ∀ (vals : Nat → Value) W u bu v bv u2 b2, Below z w W → Y2 W w.heap.size p16 m A u bu v bv → T1 W w.heap.size p18 m A u2 b2 → K W → (∀ k ∈ p16 :: (bu ++ bv), k ∉ p18 :: b2) → (∀ k ∈ B, k ∉ p16 :: (bu ++ bv) ∧ k ∉ p18 :: b2) → Q .normal ⟨Ord.Fr m6 tm vals, []⟩ W) : (Code.region 6 m6.toArray true).wp Try.prog Q ⟨tm, []⟩ w := by
  obtain ⟨i0, hi0, hz0, hs0, hy0⟩ := info_of Try.info39
  obtain ⟨i1, hi1, hz1, hs1, hy1⟩ := info_of Try.info56
  obtain ⟨l1, l2, l3, l4⟩ := hl
  obtain ⟨n, hn⟩ : ∃ n, w.heap.size = n := ⟨_, rfl⟩
  have hl16 : p16 < n := by rw [← hn]; exact b16.lt
  have hl18 : p18 < n := by rw [← hn]; exact b18.lt
  rw [hn] at hexit hB
  refine Ord.wp_regionW (t6 z n p5 p16 p18 m A tm w B K) (by kernel_rfl) (by kernel_rfl) (by kernel_rfl) (by kernel_rfl) (by intro j hj; simp [t6] at hj; rcases hj with rfl | rfl | rfl <;> decide) (t6_stay hK) (Ord.valsO m6 tm) (fun i => if i = 18 then [p16] else if i = 19 then [p18] else B) (Ord.Fr_start m6 tm []) (Below.refl _ _).drew ?_ ?_ ?_ ?_
  · intro j hj
    simp [t6] at hj
    rcases hj with rfl | rfl | rfl
    · exact ⟨⟨rfl, b16.drew⟩, fun k hk => by simp at hk; subst hk; exact ⟨hz16, b16.lt⟩⟩
    · exact ⟨⟨rfl, b18.drew⟩, fun k hk => by simp at hk; subst hk; exact ⟨hz18, b18.lt⟩⟩
    · exact ⟨⟨rfl, hdw _ hKw⟩, fun k hk => by have := hB k (by simpa using hk); exact ⟨this.1, by show k < w.heap.size; omega⟩⟩
  · intro i hi j hj hij k hk
    simp [t6] at hi hj
    have hkB : ∀ k, k ∈ B → k ≠ p16 ∧ k ≠ p18 := fun k h => ⟨fun e => hB16 (e ▸ h), fun e => hB18 (e ▸ h)⟩
    rcases hi with rfl | rfl | rfl <;> rcases hj with rfl | rfl | rfl <;> simp at hk ⊢ <;> first | exact absurd rfl hij | (subst hk; first | exact hne | exact hne.symm | exact hB16 | exact hB18) | exact (hkB k hk).1 | exact (hkB k hk).2
  · intro j hj vals bs W hH hrd htok hdis R hRR
    have hF : ∀ vals, (t6 z n p5 p16 p18 m A tm w B K).F vals = Ord.Fr m6 tm vals := fun _ => rfl
    have hBw : Below z w W := hH
    have hnW : n ≤ W.heap.size := by have := hBw.size; omega
    have b5W := b5.below hBw hp5
    have r5 := b5W.cell
    have e5 : (Act.mk ((t6 z n p5 p16 p18 m A tm w B K).F vals) (t6 z n p5 p16 p18 m A tm w B K).ds).eval (.tmp 5) = .pointer (some ⟨p5, 0, none⟩) := Ord.Fr_old (by kernel_rfl) h5
    have e16 : (Act.mk ((t6 z n p5 p16 p18 m A tm w B K).F vals) (t6 z n p5 p16 p18 m A tm w B K).ds).eval (.tmp 16) = .pointer (some ⟨p16, 0, none⟩) := Ord.Fr_old (by kernel_rfl) h16
    have e18 : (Act.mk ((t6 z n p5 p16 p18 m A tm w B K).F vals) (t6 z n p5 p16 p18 m A tm w B K).ds).eval (.tmp 18) = .pointer (some ⟨p18, 0, none⟩) := Ord.Fr_old (by kernel_rfl) h18
    have hmW : MbAt W m A := hm W hBw
    have hj18 : j < 18 := hj
    rcases (show j = 0 ∨ j = 1 ∨ j = 2 ∨ j = 3 ∨ j = 4 ∨ j = 5 ∨ j = 6 ∨ j = 7 ∨ j = 8 ∨ j = 9 ∨ j = 10 ∨ j = 11 ∨ j = 12 ∨ j = 13 ∨ j = 14 ∨ j = 15 ∨ j = 16 ∨ j = 17 by omega) with rfl | rfl | rfl | rfl | rfl | rfl | rfl | rfl | rfl | rfl | rfl | rfl | rfl | rfl | rfl | rfl | rfl | rfl
    · refine st_sem ok6 hF rfl rfl (s := Instr.buildSlice 23 0 #[]) (v := .slice (some ⟨W.heap.size, 0, none⟩) 0 0) (w' := W.alloc (.cells #[] 39)) (by simp [execOp]) (by simp [Instr.buildSlice, run_underlying Try.underlying23, go_sem]) ?_
      exact hR_alloc hRR rfl (hBw.alloc (by omega) _) (by simp [t6]) ⟨_, rfl, by omega, rfl, Blk.new _ _ _⟩ (by show z ≤ _; omega)
    · refine st_sem ok6 hF rfl rfl (s := Instr.fieldAt 27 (.pointer (some ⟨p5, 0, none⟩)) 1) (v := .pointer (some ⟨p5, 1, none⟩)) (w' := W) (by rw [← e5]; rfl) (by first | (simp [go_sem]; done) | (simp [go_sem]; rfl)) ?_
      exact hR_read hRR rfl hH (by simp [t6]) rfl
    · have e1 := hrd 1 (by decide) (by kernel_rfl) _ rfl
      have ex : (Act.mk ((t6 z n p5 p16 p18 m A tm w B K).F vals) (t6 z n p5 p16 p18 m A tm w B K).ds).eval (.tmp 98) = .pointer (some ⟨p5, 1, none⟩) := (Ord.Fr_new (i := 1) (by kernel_rfl) (by omega)).trans e1
      refine st_sem ok6 hF rfl rfl (s := Instr.loadAt 23 (.pointer (some ⟨p5, 1, none⟩))) (v := .slice A.la m.legs.length A.lc) (w' := W) (by rw [← ex]; rfl) (by simp [go_sem, r5]) ?_
      exact hR_read hRR rfl hH (by simp [t6]) rfl
    · have e2 := hrd 2 (by decide) (by kernel_rfl) _ rfl
      obtain ⟨⟨b, eb, hb3, ev, bb⟩, _⟩ := htok 0 (by simp [t6])
      have es : (Act.mk ((t6 z n p5 p16 p18 m A tm w B K).F vals) (t6 z n p5 p16 p18 m A tm w B K).ds).eval (.tmp 97) = .slice (some ⟨b, 0, none⟩) 0 0 := (Ord.Fr_new (i := 0) (by kernel_rfl) (by omega)).trans ev
      have ex : (Act.mk ((t6 z n p5 p16 p18 m A tm w B K).F vals) (t6 z n p5 p16 p18 m A tm w B K).ds).eval (.tmp 99) = .slice A.la m.legs.length A.lc := (Ord.Fr_new (i := 2) (by kernel_rfl) (by omega)).trans e2
      refine st_append ok6 hF rfl rfl (ty := 23) rfl (n1 := n) (e := 39) Try.underlying23 hi0 hz0 hs0 hy0 rfl (by decide) es (own_empty bb hb3) ex (RowsAt.src (f := spc) (n := 2) (fun _ => rfl) (by decide) hmW.legs _) (fun u hu => by obtain ⟨y, _, hu⟩ := List.mem_flatMap.1 hu; exact spc_one y u hu) (by unfold maxLen; omega) (by omega) (by omega) hRR ?_ rfl ?_ ?_ (by show z ≤ n; omega)
      · intro w' hg; exact hBw.grown hg (by omega) (fun g e => by simp [Value.ownBlock] at e; omega)
      · intro v' w' ho
        simp only [Nat.zero_add, List.nil_append] at ho
        exact ⟨rfl, ho⟩
      · intro k hk
        exact ⟨0, by simp [t6], by simp [Value.ownBlock] at hk; subst hk; rw [eb]; simp⟩
    · refine st_sem ok6 hF rfl rfl (s := Instr.buildSlice 24 0 #[]) (v := .slice (some ⟨W.heap.size, 0, none⟩) 0 0) (w' := W.alloc (.cells #[] 56)) (by simp [execOp]) (by simp [Instr.buildSlice, run_underlying Try.underlying24, go_sem]) ?_
      exact hR_alloc hRR rfl (hBw.alloc (by omega) _) (by simp [t6]) ⟨_, rfl, by omega, rfl, Blk.new _ _ _⟩ (by show z ≤ _; omega)
    · refine st_sem ok6 hF rfl rfl (s := Instr.fieldAt 27 (.pointer (some ⟨p5, 0, none⟩)) 2) (v := .pointer (some ⟨p5, 2, none⟩)) (w' := W) (by rw [← e5]; rfl) (by first | (simp [go_sem]; done) | (simp [go_sem]; rfl)) ?_
      exact hR_read hRR rfl hH (by simp [t6]) rfl
    · have e1 := hrd 5 (by decide) (by kernel_rfl) _ rfl
      have ex : (Act.mk ((t6 z n p5 p16 p18 m A tm w B K).F vals) (t6 z n p5 p16 p18 m A tm w B K).ds).eval (.tmp 102) = .pointer (some ⟨p5, 2, none⟩) := (Ord.Fr_new (i := 5) (by kernel_rfl) (by omega)).trans e1
      refine st_sem ok6 hF rfl rfl (s := Instr.loadAt 24 (.pointer (some ⟨p5, 2, none⟩))) (v := .slice A.ha m.herds.length A.hc) (w' := W) (by rw [← ex]; rfl) (by simp [go_sem, r5]) ?_
      exact hR_read hRR rfl hH (by simp [t6]) rfl
    · have e2 := hrd 6 (by decide) (by kernel_rfl) _ rfl
      obtain ⟨⟨b, eb, hb3, ev, bb⟩, _⟩ := htok 4 (by simp [t6])
      have es : (Act.mk ((t6 z n p5 p16 p18 m A tm w B K).F vals) (t6 z n p5 p16 p18 m A tm w B K).ds).eval (.tmp 101) = .slice (some ⟨b, 0, none⟩) 0 0 := (Ord.Fr_new (i := 4) (by kernel_rfl) (by omega)).trans ev
      have ex : (Act.mk ((t6 z n p5 p16 p18 m A tm w B K).F vals) (t6 z n p5 p16 p18 m A tm w B K).ds).eval (.tmp 103) = .slice A.ha m.herds.length A.hc := (Ord.Fr_new (i := 6) (by kernel_rfl) (by omega)).trans e2
      refine st_append ok6 hF rfl rfl (ty := 24) rfl (n1 := n) (e := 56) Try.underlying24 hi1 hz1 hs1 hy1 rfl (by decide) es (own_empty bb hb3) ex (RowsAt.src (f := i4c) (n := 4) (fun _ => rfl) (by decide) hmW.herds _) (fun u hu => by obtain ⟨y, _, hu⟩ := List.mem_flatMap.1 hu; exact i4c_one y u hu) (by unfold maxLen; omega) (by omega) (by omega) hRR ?_ rfl ?_ ?_ (by show z ≤ n; omega)
      · intro w' hg; exact hBw.grown hg (by omega) (fun g e => by simp [Value.ownBlock] at e; omega)
      · intro v' w' ho
        simp only [Nat.zero_add, List.nil_append] at ho
        exact ⟨rfl, ho⟩
      · intro k hk
        exact ⟨4, by simp [t6], by simp [Value.ownBlock] at hk; subst hk; rw [eb]; simp⟩
    · refine st_sem ok6 hF rfl rfl (s := Instr.buildSlice 24 0 #[]) (v := .slice (some ⟨W.heap.size, 0, none⟩) 0 0) (w' := W.alloc (.cells #[] 56)) (by simp [execOp]) (by simp [Instr.buildSlice, run_underlying Try.underlying24, go_sem]) ?_
      exact hR_alloc hRR rfl (hBw.alloc (by omega) _) (by simp [t6]) ⟨_, rfl, by omega, rfl, Blk.new _ _ _⟩ (by show z ≤ _; omega)
    · refine st_sem ok6 hF rfl rfl (s := Instr.fieldAt 27 (.pointer (some ⟨p5, 0, none⟩)) 2) (v := .pointer (some ⟨p5, 2, none⟩)) (w' := W) (by rw [← e5]; rfl) (by first | (simp [go_sem]; done) | (simp [go_sem]; rfl)) ?_
      exact hR_read hRR rfl hH (by simp [t6]) rfl
    · have e1 := hrd 9 (by decide) (by kernel_rfl) _ rfl
      have ex : (Act.mk ((t6 z n p5 p16 p18 m A tm w B K).F vals) (t6 z n p5 p16 p18 m A tm w B K).ds).eval (.tmp 106) = .pointer (some ⟨p5, 2, none⟩) := (Ord.Fr_new (i := 9) (by kernel_rfl) (by omega)).trans e1
      refine st_sem ok6 hF rfl rfl (s := Instr.loadAt 24 (.pointer (some ⟨p5, 2, none⟩))) (v := .slice A.ha m.herds.length A.hc) (w' := W) (by rw [← ex]; rfl) (by simp [go_sem, r5]) ?_
      exact hR_read hRR rfl hH (by simp [t6]) rfl
    · have e2 := hrd 10 (by decide) (by kernel_rfl) _ rfl
      obtain ⟨⟨b, eb, hb3, ev, bb⟩, _⟩ := htok 8 (by simp [t6])
      have es : (Act.mk ((t6 z n p5 p16 p18 m A tm w B K).F vals) (t6 z n p5 p16 p18 m A tm w B K).ds).eval (.tmp 105) = .slice (some ⟨b, 0, none⟩) 0 0 := (Ord.Fr_new (i := 8) (by kernel_rfl) (by omega)).trans ev
      have ex : (Act.mk ((t6 z n p5 p16 p18 m A tm w B K).F vals) (t6 z n p5 p16 p18 m A tm w B K).ds).eval (.tmp 107) = .slice A.ha m.herds.length A.hc := (Ord.Fr_new (i := 10) (by kernel_rfl) (by omega)).trans e2
      refine st_append ok6 hF rfl rfl (ty := 24) rfl (n1 := n) (e := 56) Try.underlying24 hi1 hz1 hs1 hy1 rfl (by decide) es (own_empty bb hb3) ex (RowsAt.src (f := i4c) (n := 4) (fun _ => rfl) (by decide) hmW.herds _) (fun u hu => by obtain ⟨y, _, hu⟩ := List.mem_flatMap.1 hu; exact i4c_one y u hu) (by unfold maxLen; omega) (by omega) (by omega) hRR ?_ rfl ?_ ?_ (by show z ≤ n; omega)
      · intro w' hg; exact hBw.grown hg (by omega) (fun g e => by simp [Value.ownBlock] at e; omega)
      · intro v' w' ho
        simp only [Nat.zero_add, List.nil_append] at ho
        exact ⟨rfl, ho⟩
      · intro k hk
        exact ⟨8, by simp [t6], by simp [Value.ownBlock] at hk; subst hk; rw [eb]; simp⟩
    · refine st_sem ok6 hF rfl rfl (s := Instr.fieldAt 27 (.pointer (some ⟨p16, 0, none⟩)) 1) (v := .pointer (some ⟨p16, 1, none⟩)) (w' := W) (by rw [← e16]; rfl) (by first | (simp [go_sem]; done) | (simp [go_sem]; rfl)) ?_
      exact hR_read hRR rfl hH (by simp [t6]) rfl
    · obtain ⟨⟨ea, ba⟩, hla⟩ := htok 18 (by simp [t6])
      obtain ⟨hown, hlb⟩ := htok 3 (by simp [t6])
      replace hown : OwnT W n 39 2 spc m.legs (vals 3) (bs 3) := hown
      have e1 := hrd 12 (by decide) (by kernel_rfl) _ rfl
      obtain ⟨g, q, ev⟩ := own_slice hown.2 hlg
      have ex : (Act.mk ((t6 z n p5 p16 p18 m A tm w B K).F vals) (t6 z n p5 p16 p18 m A tm w B K).ds).eval (.tmp 109) = .pointer (some ⟨p16, 1, none⟩) := (Ord.Fr_new (i := 12) (by kernel_rfl) (by omega)).trans e1
      have ey : (Act.mk ((t6 z n p5 p16 p18 m A tm w B K).F vals) (t6 z n p5 p16 p18 m A tm w B K).ds).eval (.tmp 100) = vals 3 := Ord.Fr_new (i := 3) (by kernel_rfl) (by omega)
      have ra := ba.cell
      have fa := ba.free
      have hgt := fun k hk => (hown.lt k hk).1
      have hla' := hla p16 (by rw [ea]; simp)
      have hsc' : ∀ k, k ≠ p16 → (W.setCell ⟨p16, 1, none⟩ (vals 3)).heap[k]? = W.heap[k]? := fun k hk => Below.heap_setCell W _ _ k hk
      have hsc : ∀ k ∈ bs 3, (W.setCell ⟨p16, 1, none⟩ (vals 3)).heap[k]? = W.heap[k]? := fun k hk => hsc' k (by have := hgt k hk; omega)
      have hblk := ba.set 1 (vals 3)
      refine st_cell ok6 hF rfl rfl (ty := 23) rfl rfl ex ey (w' := W.setCell ⟨p16, 1, none⟩ (vals 3)) (by rw [ev]; simp [go_sem, ra, fa]) undef ?_
      refine hRR _ _ ⟨undef, p16 :: bs 3, rfl, hBw.setCell (by show z ≤ p16; omega) _, by simp [t6], ⟨vals 3, bs 3, rfl, hblk, hown.stay hsc⟩, fun k hk => ?_, by simp, fun k hk hkT => hsc' k (fun e => hkT 18 (by simp [t6]) (by rw [ea, e]; simp)), fun _ h => by simp [t6] at h⟩
      simp only [List.mem_cons] at hk
      rcases hk with rfl | hk
      · exact ⟨hla'.1, by simpa using hla'.2, .inr ⟨18, by simp [t6], by rw [ea]; simp⟩⟩
      · have := hlb k hk
        exact ⟨this.1, by simpa using this.2, .inr ⟨3, by simp [t6], hk⟩⟩
    · refine st_sem ok6 hF rfl rfl (s := Instr.fieldAt 27 (.pointer (some ⟨p16, 0, none⟩)) 2) (v := .pointer (some ⟨p16, 2, none⟩)) (w' := W) (by rw [← e16]; rfl) (by first | (simp [go_sem]; done) | (simp [go_sem]; rfl)) ?_
      exact hR_read hRR rfl hH (by simp [t6]) rfl
    · obtain ⟨⟨u0, bu0, ea, ba, hu0⟩, hla⟩ := htok 13 (by simp [t6])
      obtain ⟨hown, hlb⟩ := htok 7 (by simp [t6])
      replace hown : OwnT W n 56 4 i4c m.herds (vals 7) (bs 7) := hown
      have e1 := hrd 14 (by decide) (by kernel_rfl) _ rfl
      obtain ⟨g, q, ev⟩ := own_slice hown.2 hhd
      have ex : (Act.mk ((t6 z n p5 p16 p18 m A tm w B K).F vals) (t6 z n p5 p16 p18 m A tm w B K).ds).eval (.tmp 110) = .pointer (some ⟨p16, 2, none⟩) := (Ord.Fr_new (i := 14) (by kernel_rfl) (by omega)).trans e1
      have ey : (Act.mk ((t6 z n p5 p16 p18 m A tm w B K).F vals) (t6 z n p5 p16 p18 m A tm w B K).ds).eval (.tmp 104) = vals 7 := Ord.Fr_new (i := 7) (by kernel_rfl) (by omega)
      have ra := ba.cell
      have fa := ba.free
      have hgt := fun k hk => (hown.lt k hk).1
      have hla' := hla p16 (by rw [ea]; simp)
      have hsc' : ∀ k, k ≠ p16 → (W.setCell ⟨p16, 2, none⟩ (vals 7)).heap[k]? = W.heap[k]? := fun k hk => Below.heap_setCell W _ _ k hk
      have hsc : ∀ k ∈ bs 7, (W.setCell ⟨p16, 2, none⟩ (vals 7)).heap[k]? = W.heap[k]? := fun k hk => hsc' k (by have := hgt k hk; omega)
      have hblk := ba.set 2 (vals 7)
      refine st_cell ok6 hF rfl rfl (ty := 24) rfl rfl ex ey (w' := W.setCell ⟨p16, 2, none⟩ (vals 7)) (by rw [ev]; simp [go_sem, ra, fa]) undef ?_
      refine hRR _ _ ⟨undef, p16 :: (bu0 ++ bs 7), rfl, hBw.setCell (by show z ≤ p16; omega) _, by simp [t6], ⟨u0, bu0, vals 7, bs 7, rfl, hblk, hu0.stay (fun k hk => hsc' k (by have := hu0.lt k hk; omega)), hown.stay hsc, fun k hk hk2 => hdis 13 (by simp [t6]) 7 (by simp [t6]) (by decide) k (by rw [ea]; simp [hk]) hk2⟩, fun k hk => ?_, by simp, fun k hk hkT => hsc' k (fun e => hkT 13 (by simp [t6]) (by rw [ea, e]; simp)), fun _ h => by simp [t6] at h⟩
      simp only [List.mem_cons, List.mem_append] at hk
      rcases hk with rfl | hk | hk
      · exact ⟨hla'.1, by simpa using hla'.2, .inr ⟨13, by simp [t6], by rw [ea]; simp⟩⟩
      · have := hla k (by rw [ea]; simp [hk])
        exact ⟨this.1, by simpa using this.2, .inr ⟨13, by simp [t6], by rw [ea]; simp [hk]⟩⟩
      · have := hlb k hk
        exact ⟨this.1, by simpa using this.2, .inr ⟨7, by simp [t6], hk⟩⟩
    · refine st_sem ok6 hF rfl rfl (s := Instr.fieldAt 27 (.pointer (some ⟨p18, 0, none⟩)) 2) (v := .pointer (some ⟨p18, 2, none⟩)) (w' := W) (by rw [← e18]; rfl) (by first | (simp [go_sem]; done) | (simp [go_sem]; rfl)) ?_
      exact hR_read hRR rfl hH (by simp [t6]) rfl
    · obtain ⟨⟨ea, ba⟩, hla⟩ := htok 19 (by simp [t6])
      obtain ⟨hown, hlb⟩ := htok 11 (by simp [t6])
      replace hown : OwnT W n 56 4 i4c m.herds (vals 11) (bs 11) := hown
      have e1 := hrd 16 (by decide) (by kernel_rfl) _ rfl
      obtain ⟨g, q, ev⟩ := own_slice hown.2 hhd
      have ex : (Act.mk ((t6 z n p5 p16 p18 m A tm w B K).F vals) (t6 z n p5 p16 p18 m A tm w B K).ds).eval (.tmp 111) = .pointer (some ⟨p18, 2, none⟩) := (Ord.Fr_new (i := 16) (by kernel_rfl) (by omega)).trans e1
      have ey : (Act.mk ((t6 z n p5 p16 p18 m A tm w B K).F vals) (t6 z n p5 p16 p18 m A tm w B K).ds).eval (.tmp 108) = vals 11 := Ord.Fr_new (i := 11) (by kernel_rfl) (by omega)
      have ra := ba.cell
      have fa := ba.free
      have hgt := fun k hk => (hown.lt k hk).1
      have hla' := hla p18 (by rw [ea]; simp)
      have hsc' : ∀ k, k ≠ p18 → (W.setCell ⟨p18, 2, none⟩ (vals 11)).heap[k]? = W.heap[k]? := fun k hk => Below.heap_setCell W _ _ k hk
      have hsc : ∀ k ∈ bs 11, (W.setCell ⟨p18, 2, none⟩ (vals 11)).heap[k]? = W.heap[k]? := fun k hk => hsc' k (by have := hgt k hk; omega)
      have hblk := ba.set 2 (vals 11)
      refine st_cell ok6 hF rfl rfl (ty := 24) rfl rfl ex ey (w' := W.setCell ⟨p18, 2, none⟩ (vals 11)) (by rw [ev]; simp [go_sem, ra, fa]) undef ?_
      refine hRR _ _ ⟨undef, p18 :: bs 11, rfl, hBw.setCell (by show z ≤ p18; omega) _, by simp [t6], ⟨vals 11, bs 11, rfl, hblk, hown.stay hsc⟩, fun k hk => ?_, by simp, fun k hk hkT => hsc' k (fun e => hkT 19 (by simp [t6]) (by rw [ea, e]; simp)), fun _ h => by simp [t6] at h⟩
      simp only [List.mem_cons] at hk
      rcases hk with rfl | hk
      · exact ⟨hla'.1, by simpa using hla'.2, .inr ⟨19, by simp [t6], by rw [ea]; simp⟩⟩
      · have := hlb k hk
        exact ⟨this.1, by simpa using this.2, .inr ⟨11, by simp [t6], hk⟩⟩
  · intro vals bs W hH hrd htok hdis _
    have hsurv : ∀ j, j = 15 ∨ j = 17 ∨ j = 20 → ∀ c, c < m6.length → j ∉ (t6 z n p5 p16 p18 m A tm w B K).take c := fun j h1 c hc => by
      have hc' : c < 18 := hc
      rcases (show c = 0 ∨ c = 1 ∨ c = 2 ∨ c = 3 ∨ c = 4 ∨ c = 5 ∨ c = 6 ∨ c = 7 ∨ c = 8 ∨ c = 9 ∨ c = 10 ∨ c = 11 ∨ c = 12 ∨ c = 13 ∨ c = 14 ∨ c = 15 ∨ c = 16 ∨ c = 17 by omega) with rfl | rfl | rfl | rfl | rfl | rfl | rfl | rfl | rfl | rfl | rfl | rfl | rfl | rfl | rfl | rfl | rfl | rfl <;> simp [t6] <;> omega
    have hin : ∀ j, j = 15 ∨ j = 17 ∨ j = 20 → j ∈ (t6 z n p5 p16 p18 m A tm w B K).init ∨ j < m6.length := fun j h => by
      rcases h with rfl | rfl | rfl
      · exact .inr (by decide)
      · exact .inr (by decide)
      · exact .inl (by simp [t6])
    obtain ⟨u, bu, v, bv, ea, h1⟩ := (htok 15 (hin 15 (by omega)) (hsurv 15 (by omega))).1
    obtain ⟨u2, b2, ec, h2⟩ := (htok 17 (hin 17 (by omega)) (hsurv 17 (by omega))).1
    obtain ⟨ed, h3⟩ := (htok 20 (hin 20 (by omega)) (hsurv 20 (by omega))).1
    have d1 := hdis 15 17 (hin 15 (by omega)) (hsurv 15 (by omega)) (hin 17 (by omega)) (hsurv 17 (by omega)) (by omega)
    have d2 := hdis 20 15 (hin 20 (by omega)) (hsurv 20 (by omega)) (hin 15 (by omega)) (hsurv 15 (by omega)) (by omega)
    have d3 := hdis 20 17 (hin 20 (by omega)) (hsurv 20 (by omega)) (hin 17 (by omega)) (hsurv 17 (by omega)) (by omega)
    rw [ea, ec] at d1
    rw [ed, ea] at d2
    rw [ed, ec] at d3
    exact hexit vals W u bu v bv u2 b2 hH h1 h2 h3 d1 fun k hk => ⟨d2 k hk, d3 k hk⟩
end Go.Proofs.Yteeinehpneppnaa
set_option linter.unusedVariables false
set_option linter.unusedSimpArgs false
namespace Go.Proofs.Yteeinehpneppnaa
open Go.RowKit Go.Proofs
attribute [local irreducible] Ord.walk
theorem sumSet_bit (p : Nat → Bool) (i : Nat) : ∀ k, (sumSet p k).testBit i = (decide (i < k) && p i)
  | 0 => by simp [sumSet]
  | k + 1 => by
    have ih := sumSet_bit p i k
    have hlt := sumSet_lt p k
    simp only [sumSet]
    rcases Nat.lt_trichotomy i k with h | h | h
    · have e : (i < k + 1) ↔ (i < k) := by omega
      split
      · rw [Nat.add_comm, Nat.testBit_two_pow_add_gt h, ih]
        simp [e]
      · rw [Nat.add_zero, ih]
        simp [e]
    · subst h
      split
      · rename_i h
        rw [Nat.add_comm, Nat.testBit_two_pow_add_eq, ih]
        simp [h]
      · rename_i h
        rw [Nat.add_zero, ih]
        simp only [Bool.not_eq_true] at h
        simp [h]
    · have hp : 2 ^ (k + 1) ≤ 2 ^ i := Nat.pow_le_pow_right (by omega) (by omega)
      rw [Nat.testBit_lt_two_pow (Nat.lt_of_lt_of_le (by rw [Nat.pow_succ]; split <;> omega) hp)]
      have : ¬ i < k + 1 := by omega
      simp [this]
/-- The place on a day: the farthest one that was come to. -/
theorem now_max {m : Mb} (hv : validM m = true) {L : List Int} (hL : L ∈ prodL m.legs) {s : Nat} (d day : Int) : ∀ k, s + k ≤ m.places.length → 1 ≤ k → (∀ j, j < k → inK m L s d j ≤ day → s + j ≤ nowTo m L s d day k) ∧ (nowTo m L s d day k = s ∨ ∃ j, j < k ∧ inK m L s d j ≤ day ∧ nowTo m L s d day k = s + j)
  | 0, _, h => absurd h (by omega)
  | k + 1, hk, _ => by
    simp only [nowTo]
    split
    · rename_i h
      exact ⟨fun j hj _ => by omega, .inr ⟨k, by omega, h, rfl⟩⟩
    · rename_i h
      rcases Nat.eq_zero_or_pos k with rfl | h0
      · refine ⟨fun j hj e => ?_, .inl rfl⟩
        obtain rfl : j = 0 := by omega
        exact absurd e h
      · obtain ⟨h1, h2⟩ := now_max (s := s) hv hL d day k (by omega) h0
        refine ⟨fun j hj e => ?_, ?_⟩
        · rcases Nat.lt_or_ge j k with c | c
          · exact h1 j c e
          · obtain rfl : j = k := by omega
            exact absurd e h
        · rcases h2 with h2 | ⟨j, hj, e, h2⟩
          · exact .inl h2
          · exact .inr ⟨j, by omega, e, h2⟩
end Go.Proofs.Yteeinehpneppnaa
set_option linter.unusedVariables false
set_option linter.unusedSimpArgs false
namespace Go.Proofs.Yteeinehpneppnaa
open Go.RowKit Go.Proofs
attribute [local irreducible] Ord.walk
/-- Is a thing that was seen right of a mob that leaves on a day? -/
def seenOk (m : Mb) (L : List Int) (n : Nat) (d : Int) (s : Int × Int × Int × Int) : Bool := decide (s.1 ≠ (n : Int)) || inB (inK m L (startN m n) d (s.2.1.toNat - startN m n)) s.2.2.1 s.2.2.2
def rgB (m : Mb) (L : List Int) (n : Nat) (d : Int) : Bool := m.seen.all (seenOk m L n d)
def lvR (m : Mb) (n : Nat) : List Int := rangeI (m.herds.getD n (0, 0, 0, 0)).2.1 (m.herds.getD n (0, 0, 0, 0)).2.2.1
/-- Can all mobs have left so that what was seen is right? -/
def allB (m : Mb) (L : List Int) : Bool := (List.range m.herds.length).all fun n => (lvR m n).any (rgB m L n)
/-- The places of a mob on a day, of all days of leaving that are right. -/
def nowsB (m : Mb) (i : Nat) (day : Int) (L : List Int) : List Nat := ((lvR m i).filter (rgB m L i)).map fun d => nowP m L (startN m i) d day
def canB (m : Mb) (i : Nat) (day : Int) (Ls : List (List Int)) : Nat := orL 0 (Ls.flatMap fun L => if allB m L = true then nowsB m i day L else [])
theorem rg_iff {m : Mb} (hv : validM m = true) (L : List Int) (n : Nat) (d : Int) : (d ∈ lvR m n ∧ rgB m L n d = true) ↔ d ∈ rangeI (leavesM m L n (everyN m)).1 (leavesM m L n (everyN m)).2 := by
  have hlen := validM_len hv
  unfold lvR
  rw [mem_rangeI, mem_rangeI]
  unfold leavesM
  rw [lvTo_iff]
  refine and_congr_right fun _ => ?_
  unfold rgB
  rw [List.all_eq_true]
  have key : ∀ s : Int × Int × Int × Int, seenOk m L n d s = true ↔ (s.1 = (n : Int) → s.2.2.1 ≤ d + comesM m L n s.2.1.toNat ∧ d + comesM m L n s.2.1.toNat ≤ s.2.2.2) := fun s => by
    unfold seenOk inB comesM
    rw [inK_add]
    simp only [Bool.or_eq_true, Bool.and_eq_true, decide_eq_true_eq]
    constructor
    · rintro (h | h) e
      · exact absurd e h
      · exact h
    · intro h
      by_cases e : s.1 = (n : Int)
      · exact .inr (h e)
      · exact .inl e
  constructor
  · intro h i hi _ e
    rw [List.getD_eq_getElem?_getD, List.getElem?_eq_getElem hi, Option.getD_some] at e ⊢
    exact (key _).1 (h _ (List.getElem_mem hi)) e
  · intro h s hs
    obtain ⟨i, hi, e⟩ := List.mem_iff_getElem.1 hs
    have := h i hi (hasB_every _ i hi (by omega))
    rw [List.getD_eq_getElem?_getD, List.getElem?_eq_getElem hi, Option.getD_some, e] at this
    exact (key s).2 this
theorem all_iff {m : Mb} (hv : validM m = true) {L : List Int} (hL : L ∈ prodL m.legs) : allB m L = true ↔ L ∈ toldL m (everyN m) := by
  rw [told_iff]
  unfold allB
  rw [List.all_eq_true]
  constructor
  · intro h
    refine ⟨hL, fun n hn => ?_⟩
    obtain ⟨d, hd, hr⟩ := List.any_eq_true.1 (h n (List.mem_range.2 hn))
    have := (rg_iff hv L n d).1 ⟨hd, hr⟩
    rw [mem_rangeI] at this
    omega
  · rintro ⟨_, h⟩ n hn
    have h1 := h n (List.mem_range.1 hn)
    have := (rg_iff hv L n (leavesM m L n (everyN m)).1).2 (by rw [mem_rangeI]; omega)
    exact List.any_eq_true.2 ⟨_, this.1, this.2⟩
theorem can_where {m : Mb} (hv : validM m = true) (i : Nat) (day : Int) : canB m i day (prodL m.legs) = whereN m i day := by
  unfold canB whereN whereTo
  rw [List.take_length]
  refine orL_ext fun p => ?_
  simp only [List.mem_flatMap]
  constructor
  · rintro ⟨L, hL, hp⟩
    split at hp
    · rename_i ha
      refine ⟨L, (all_iff hv hL).1 ha, ?_⟩
      unfold nowsB at hp
      obtain ⟨d, hd, rfl⟩ := List.mem_map.1 hp
      rw [List.mem_filter] at hd
      exact List.mem_map.2 ⟨d, (rg_iff hv L i d).1 hd, rfl⟩
    · cases hp
  · rintro ⟨L, hL, hp⟩
    have hL1 := ((told_iff _ L).1 hL).1
    refine ⟨L, hL1, ?_⟩
    rw [if_pos ((all_iff hv hL1).2 hL)]
    unfold nowsL at hp
    obtain ⟨d, hd, rfl⟩ := List.mem_map.1 hp
    unfold nowsB
    exact List.mem_map.2 ⟨d, List.mem_filter.2 ((rg_iff hv L i d).2 hd), rfl⟩
end Go.Proofs.Yteeinehpneppnaa
