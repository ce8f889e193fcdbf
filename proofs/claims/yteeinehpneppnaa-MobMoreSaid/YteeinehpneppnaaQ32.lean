/- Parts of a proof: MxA, MxB, MxC. -/
import Derived.Test.YteeinehpneppnaaQ04
import Derived.Test.YteeinehpneppnaaQ31
set_option linter.unusedVariables false
set_option linter.unusedSimpArgs false
namespace Go.Proofs.Yteeinehpneppnaa
open Go.RowKit Go.Proofs
attribute [local irreducible] Ord.walk
/-- A region's operations, by its number. -/
noncomputable def regOf (id : Nat) : Code → List Oper
  | .region i ops _ => if i = id then ops.toList else []
  | .seq a b => regOf id a ++ regOf id b
  | .cond _ a b => regOf id a ++ regOf id b
  | .block _ c => regOf id c
  | .loop c => regOf id c
  | _ => []
section
variable {P : Program} {Q : Exit → Act → World → Prop} {t : Ord.Tk} {lo : List Oper} {tm : Array Value} {i : Nat} {vals : Nat → Value} {bs : Nat → List Nat} {w : World} {R : Act → World → Prop}
theorem put_of (ok : Ord.okD lo = true) (hF : ∀ vals, t.F vals = Ord.Fr lo tm vals) {o : Oper} (ho : lo[i]? = some o) (v : Value) : (Act.mk (t.F vals) t.ds).put o.dst v = ⟨t.F (Ord.setV vals i v), t.ds⟩ := by
  have hd : Ord.dstO lo i = o.dst := by unfold Ord.dstO; rw [ho]; rfl
  rw [hF, hF, ← hd]
  exact Ord.Fr_put ok (List.getElem?_eq_some_iff.1 ho).1 v
theorem st_sem (ok : Ord.okD lo = true) (hF : ∀ vals, t.F vals = Ord.Fr lo tm vals) {o : Oper} (ho : lo[i]? = some o) (hg : o.guard = none) {w' : World} {v : Value} {s : Sem Value} (he : execOp (Act.mk (t.F vals) t.ds).eval o = (do pure (Next.value (← s)) : Sem Next)) (hr : s.run P w = .ok v w')
    (hR : R ⟨t.F (Ord.setV vals i v), t.ds⟩ w') : Ord.walk P lo.toArray (fun _ => True) (Ord.Qn Q R) [(i, 2)] ⟨t.F vals, t.ds⟩ w := by
  refine Ord.walk_one ho fun K hK => wpList_plain hg fun K' hK' => ?_
  unfold Oper.wp
  rw [he, Sem.run_bind, hr]
  show K' ((Act.mk (t.F vals) t.ds).put o.dst v) w'
  rw [put_of ok hF ho]
  exact hK' _ _ (wpList_nil (show K _ _ from hK _ _ hR))
theorem st_val (ok : Ord.okD lo = true) (hF : ∀ vals, t.F vals = Ord.Fr lo tm vals) {o : Oper} (ho : lo[i]? = some o) (hg : o.guard = none) {v : Value} (he : execOp (Act.mk (t.F vals) t.ds).eval o = pure (Next.value v))
    (hR : R ⟨t.F (Ord.setV vals i v), t.ds⟩ w) : Ord.walk P lo.toArray (fun _ => True) (Ord.Qn Q R) [(i, 2)] ⟨t.F vals, t.ds⟩ w := by
  refine Ord.walk_one ho fun K hK => wpList_plain hg fun K' hK' => ?_
  unfold Oper.wp
  rw [he]
  show K' ((Act.mk (t.F vals) t.ds).put o.dst v) w
  rw [put_of ok hF ho]
  exact hK' _ _ (wpList_nil (show K _ _ from hK _ _ hR))
theorem st_append (ok : Ord.okD lo = true) (hF : ∀ vals, t.F vals = Ord.Fr lo tm vals) {o : Oper} (ho : lo[i]? = some o) (hg : o.guard = none) {s x : Operand} {ty : TypeId} (hop : o.op = .call { callee := .builtin .append, args := #[s, x], argTypes := #[ty, ty] })
    {n1 : Nat} {e : TypeId} {i0 : TypeInfo} {z : Value} {size bytes : Nat} (ht : P.underlying ty = some (.slice e)) (hi : P.info? e = some i0) (hz : i0.zero = some z) (hsize : i0.size = size) (hby : i0.bytes = bytes) (hzs : z.cells.size = size) (hsz : 0 < size)
    {v : Value} {n : Nat} {xs : List Value} (hs : (Act.mk (t.F vals) t.ds).eval s = v) (hown : w.ownsRow n1 e size v n xs) {sv : Value} {m : Nat} {news : List Value} (hx : (Act.mk (t.F vals) t.ds).eval x = sv) (hsrc : SrcAt w sv m size news) (h1 : ∀ u ∈ news, u.oneCell' = true)
    (h63 : n + m ≤ maxLen) (hbytes : (n + m) * bytes ≤ 140737488355328) (hbase : n1 ≤ w.heap.size)
    (hR : ∀ a' w', t.Step i vals bs w a' w' → R a' w') (hH : ∀ w', w.grownBy w' v.ownBlock → t.H w') (hrd : t.rd i = none) (hT : ∀ v' w', w'.ownsRow n1 e size v' (n + m) (xs ++ news) → t.T i v' v'.ownBlock.toList w') (hv : ∀ k, v.ownBlock = some k → ∃ j ∈ t.take i, k ∈ bs j) (hn : t.n0 ≤ n1) (hlk : t.lk i = none := by rfl) :
    Ord.walk P lo.toArray (fun _ => True) (Ord.Qn Q R) [(i, 2)] ⟨t.F vals, t.ds⟩ w := by
  refine Ord.walk_one ho fun K hK => wpList_appendW hg s x ty hop n1 e i0 z size bytes ht hi hz hsize hby hzs hsz v n xs hs hown sv m news hx hsrc h1 h63 hbytes hbase fun v' w' ho' hgr hw => wpList_nil ?_
  rw [put_of ok hF ho]
  exact hK _ _ (hR_append hR rfl (hH w' hgr) (fun u hu => by rw [hrd] at hu; cases hu) (hT v' w' ho') ho' hgr hw hv hn (fun j e => by rw [hlk] at e; cases e))
/-- An assignment: the row passes over to it. -/
theorem st_pass (ok : Ord.okD lo = true) (hF : ∀ vals, t.F vals = Ord.Fr lo tm vals) {o : Oper} (ho : lo[i]? = some o) (hg : o.guard = none) {x : Operand} (hop : o.op = .assign x) {j : Nat} (hx : (Act.mk (t.F vals) t.ds).eval x = vals j) (hj : j ∈ t.take i) (hb : ∀ k ∈ bs j, t.n0 ≤ k ∧ k < w.heap.size)
    (hR : ∀ a' w', t.Step i vals bs w a' w' → R a' w') (hH : t.H w) (hrd : t.rd i = none) (hT : t.T i (vals j) (bs j) w) (hlk : t.lk i = none := by rfl) : Ord.walk P lo.toArray (fun _ => True) (Ord.Qn Q R) [(i, 2)] ⟨t.F vals, t.ds⟩ w := by
  refine st_val ok hF ho hg (v := vals j) (by simp [execOp, hop, hx]) (hR _ _ ⟨vals j, bs j, rfl, hH, (fun u hu => absurd (hrd.symm.trans hu) (by simp)), hT, fun k hk => ⟨(hb k hk).1, (hb k hk).2, .inr ⟨j, hj, hk⟩⟩, Nat.le_refl _, fun _ _ _ => rfl, fun j e => by rw [hlk] at e; cases e⟩)
end
end Go.Proofs.Yteeinehpneppnaa
set_option linter.unusedVariables false
set_option linter.unusedSimpArgs false
namespace Go.Proofs.Yteeinehpneppnaa
open Go.RowKit Go.Proofs
attribute [local irreducible] Ord.walk
noncomputable def moreCode : Code := Try.f10.body.getD .skip
noncomputable def m26 : List Oper := regOf 26 moreCode
theorem ok26 : Ord.okD m26 = true := by kernel_rfl
/-- A new row without elements. -/
def EmpT (w : World) (n : Nat) (t : TypeId) (v : Value) (bs : List Nat) : Prop := ∃ b, bs = [b] ∧ n ≤ b ∧ v = .slice (some ⟨b, 0, none⟩) 0 0 ∧ Blk w b #[] t
theorem EmpT.stay {w w' : World} {n : Nat} {t : TypeId} {v : Value} {bs : List Nat} (h : EmpT w n t v bs) (hb : ∀ k ∈ bs, w'.heap[k]? = w.heap[k]?) : EmpT w' n t v bs := by
  obtain ⟨b, rfl, h1, h2, h3⟩ := h
  exact ⟨b, rfl, h1, h2, (hb b (by simp)).trans h3⟩
theorem OwnT.row {α : Type} {w : World} {n0 : Nat} {t : TypeId} {n : Nat} {f : α → List Value} {l : List α} {v : Value} {bs : List Nat} (h : OwnT w n0 t n f l v bs) : w.ownsRow n0 t n v l.length (l.flatMap f) := h.2
noncomputable def t26 (n p5 : Nat) (m : Mb) (A : Ma) (tm : Array Value) (w0 : World) : Ord.Tk where
  n0 := n
  F vals := Ord.Fr m26 tm vals
  ds := []
  H W := Below n w0 W
  rd i := match i with
    | 1 => some (.pointer (some ⟨p5, 0, none⟩))
    | 2 => some (.slice A.pa m.places.length A.pc)
    | 5 => some (.pointer (some ⟨p5, 1, none⟩))
    | 6 => some (.slice A.la m.legs.length A.lc)
    | 9 => some (.pointer (some ⟨p5, 2, none⟩))
    | 10 => some (.slice A.ha m.herds.length A.hc)
    | 13 => some (.pointer (some ⟨p5, 3, none⟩))
    | 14 => some (.slice A.sa m.seen.length A.sc)
    | _ => none
  use i := match i with
    | 3 => [0]
    | 16 => [3]
    | 7 => [4]
    | 17 => [7]
    | 11 => [8]
    | 18 => [11]
    | 15 => [12]
    | 19 => [15]
    | _ => []
  take i := match i with
    | 3 => [0]
    | 16 => [3]
    | 7 => [4]
    | 17 => [7]
    | 11 => [8]
    | 18 => [11]
    | 15 => [12]
    | 19 => [15]
    | _ => []
  T i v bs w := match i with
    | 0 => EmpT w n 70 v bs
    | 3 => OwnT w n 70 2 plc m.places v bs
    | 16 => OwnT w n 70 2 plc m.places v bs
    | 4 => EmpT w n 39 v bs
    | 7 => OwnT w n 39 2 spc m.legs v bs
    | 17 => OwnT w n 39 2 spc m.legs v bs
    | 8 => EmpT w n 56 v bs
    | 11 => OwnT w n 56 4 i4c m.herds v bs
    | 18 => OwnT w n 56 4 i4c m.herds v bs
    | 12 => EmpT w n 64 v bs
    | 15 => OwnT w n 64 4 i4c m.seen v bs
    | 19 => OwnT w n 64 4 i4c m.seen v bs
    | _ => bs = []
  init := []
theorem t26_stay {n p5 : Nat} {m : Mb} {A : Ma} {tm : Array Value} {w0 : World} (i : Nat) (v : Value) (bs : List Nat) (w w' : World) (h : ∀ k ∈ bs, w'.heap[k]? = w.heap[k]?) (hT : (t26 n p5 m A tm w0).T i v bs w) : (t26 n p5 m A tm w0).T i v bs w' := by
  match i, hT with
  | 0, hT => exact EmpT.stay hT h
  | 1, hT => exact hT
  | 2, hT => exact hT
  | 3, hT => exact OwnT.stay hT h
  | 4, hT => exact EmpT.stay hT h
  | 5, hT => exact hT
  | 6, hT => exact hT
  | 7, hT => exact OwnT.stay hT h
  | 8, hT => exact EmpT.stay hT h
  | 9, hT => exact hT
  | 10, hT => exact hT
  | 11, hT => exact OwnT.stay hT h
  | 12, hT => exact EmpT.stay hT h
  | 13, hT => exact hT
  | 14, hT => exact hT
  | 15, hT => exact OwnT.stay hT h
  | 16, hT => exact OwnT.stay hT h
  | 17, hT => exact OwnT.stay hT h
  | 18, hT => exact OwnT.stay hT h
  | 19, hT => exact OwnT.stay hT h
  | n + 20, hT => exact hT
set_option maxHeartbeats 4000000 in
set_option maxRecDepth 100000 in
theorem more_r26 {m : Mb} {A : Ma} {w : World} {tm : Array Value} (hsz : tm.size = 545) {p5 : Nat} (h5 : tm[5]? = some (.pointer (some ⟨p5, 0, none⟩))) (b5 : Blk w p5 (mcells m A) 27) (hm : MbAt w m A) (hl : Mlen m) {Q : Exit → Act → World → Prop}
    (hexit : ∀ (vals : Nat → Value) W, Below w.heap.size w W → W.ownsRow w.heap.size 70 2 (vals 16) m.places.length (m.places.flatMap plc) → W.ownsRow w.heap.size 39 2 (vals 17) m.legs.length (m.legs.flatMap spc) → W.ownsRow w.heap.size 56 4 (vals 18) m.herds.length (m.herds.flatMap i4c) → W.ownsRow w.heap.size 64 4 (vals 19) m.seen.length (m.seen.flatMap i4c) → Q .normal ⟨Ord.Fr m26 tm vals, []⟩ W) : (Code.region 26 m26.toArray true).wp Try.prog Q ⟨tm, []⟩ w := by
  obtain ⟨i0, hi0, hz0, hs0, hy0⟩ := info_of Try.info70
  obtain ⟨i1, hi1, hz1, hs1, hy1⟩ := info_of Try.info39
  obtain ⟨i2, hi2, hz2, hs2, hy2⟩ := info_of Try.info56
  obtain ⟨i3, hi3, hz3, hs3, hy3⟩ := info_of Try.info64
  obtain ⟨l1, l2, l3, l4⟩ := hl
  obtain ⟨n, hn⟩ : ∃ n, w.heap.size = n := ⟨_, rfl⟩
  have hp5 : p5 < n := by rw [← hn]; exact b5.lt
  refine Ord.wp_regionW (t26 n p5 m A tm w) (by kernel_rfl) (by kernel_rfl) (by kernel_rfl) (by kernel_rfl) (by simp [t26]) t26_stay (Ord.valsO m26 tm) (fun _ => []) (Ord.Fr_start m26 tm []) (Below.refl _ _).drew (by simp [t26]) (by simp [t26]) ?_ ?_
  · intro j hj vals bs W hH hrd htok hdis R hRR
    have hF : ∀ vals, (t26 n p5 m A tm w).F vals = Ord.Fr m26 tm vals := fun _ => rfl
    have hBw : Below n w W := hH
    have hnW : n ≤ W.heap.size := by have := hBw.size; omega
    have b5W := b5.below hBw (by omega)
    have r5 := b5W.cell
    have e5 : (Act.mk ((t26 n p5 m A tm w).F vals) (t26 n p5 m A tm w).ds).eval (.tmp 5) = .pointer (some ⟨p5, 0, none⟩) := Ord.Fr_old (by kernel_rfl) h5
    have hmW : MbAt W m A := hm.below (by rw [hn]; exact hBw)
    have hj20 : j < 20 := hj
    rcases (show j = 0 ∨ j = 1 ∨ j = 2 ∨ j = 3 ∨ j = 4 ∨ j = 5 ∨ j = 6 ∨ j = 7 ∨ j = 8 ∨ j = 9 ∨ j = 10 ∨ j = 11 ∨ j = 12 ∨ j = 13 ∨ j = 14 ∨ j = 15 ∨ j = 16 ∨ j = 17 ∨ j = 18 ∨ j = 19 by omega) with rfl | rfl | rfl | rfl | rfl | rfl | rfl | rfl | rfl | rfl | rfl | rfl | rfl | rfl | rfl | rfl | rfl | rfl | rfl | rfl
    · refine st_sem ok26 hF rfl rfl (s := Instr.buildSlice 22 0 #[]) (v := .slice (some ⟨W.heap.size, 0, none⟩) 0 0) (w' := W.alloc (.cells #[] 70)) (by simp [execOp]) (by simp [Instr.buildSlice, run_underlying Try.underlying22, go_sem]) ?_
      exact hR_alloc hRR rfl (hBw.alloc (by omega) _) (by simp [t26]) ⟨_, rfl, by omega, rfl, Blk.new _ _ _⟩ (by show n ≤ _; omega)
    · refine st_sem ok26 hF rfl rfl (s := Instr.fieldAt 27 (.pointer (some ⟨p5, 0, none⟩)) 0) (v := .pointer (some ⟨p5, 0, none⟩)) (w' := W) (by rw [← e5]; rfl) (by first | (simp [go_sem]; done) | (simp [go_sem]; rfl)) ?_
      exact hR_read hRR rfl hH (by simp [t26]) rfl
    · have e1 := hrd 1 (by decide) (by kernel_rfl) _ rfl
      have ex : (Act.mk ((t26 n p5 m A tm w).F vals) (t26 n p5 m A tm w).ds).eval (.tmp 211) = .pointer (some ⟨p5, 0, none⟩) := (Ord.Fr_new (i := 1) (by kernel_rfl) (by omega)).trans e1
      refine st_sem ok26 hF rfl rfl (s := Instr.loadAt 22 (.pointer (some ⟨p5, 0, none⟩))) (v := .slice A.pa m.places.length A.pc) (w' := W) (by rw [← ex]; rfl) (by simp [go_sem, r5]) ?_
      exact hR_read hRR rfl hH (by simp [t26]) rfl
    · have e2 := hrd 2 (by decide) (by kernel_rfl) _ rfl
      obtain ⟨⟨b, eb, hb3, ev, bb⟩, _⟩ := htok 0 (by simp [t26])
      have es : (Act.mk ((t26 n p5 m A tm w).F vals) (t26 n p5 m A tm w).ds).eval (.tmp 210) = .slice (some ⟨b, 0, none⟩) 0 0 := (Ord.Fr_new (i := 0) (by kernel_rfl) (by omega)).trans ev
      have ex : (Act.mk ((t26 n p5 m A tm w).F vals) (t26 n p5 m A tm w).ds).eval (.tmp 212) = .slice A.pa m.places.length A.pc := (Ord.Fr_new (i := 2) (by kernel_rfl) (by omega)).trans e2
      refine st_append ok26 hF rfl rfl (ty := 22) rfl (n1 := n) (e := 70) Try.underlying22 hi0 hz0 hs0 hy0 rfl (by decide) es (own_empty bb hb3) ex (RowsAt.src (f := plc) (n := 2) (fun _ => rfl) (by decide) hmW.places _) (fun u hu => by obtain ⟨y, _, hu⟩ := List.mem_flatMap.1 hu; exact plc_one y u hu) (by unfold maxLen; omega) (by omega) (by omega) hRR ?_ rfl ?_ ?_ (Nat.le_refl _)
      · intro w' hg; exact hBw.grown hg (by omega) (fun g e => by simp [Value.ownBlock] at e; omega)
      · intro v' w' ho
        simp only [Nat.zero_add, List.nil_append] at ho
        exact ⟨rfl, ho⟩
      · intro k hk
        exact ⟨0, by simp [t26], by simp [Value.ownBlock] at hk; subst hk; rw [eb]; simp⟩
    · refine st_sem ok26 hF rfl rfl (s := Instr.buildSlice 23 0 #[]) (v := .slice (some ⟨W.heap.size, 0, none⟩) 0 0) (w' := W.alloc (.cells #[] 39)) (by simp [execOp]) (by simp [Instr.buildSlice, run_underlying Try.underlying23, go_sem]) ?_
      exact hR_alloc hRR rfl (hBw.alloc (by omega) _) (by simp [t26]) ⟨_, rfl, by omega, rfl, Blk.new _ _ _⟩ (by show n ≤ _; omega)
    · refine st_sem ok26 hF rfl rfl (s := Instr.fieldAt 27 (.pointer (some ⟨p5, 0, none⟩)) 1) (v := .pointer (some ⟨p5, 1, none⟩)) (w' := W) (by rw [← e5]; rfl) (by first | (simp [go_sem]; done) | (simp [go_sem]; rfl)) ?_
      exact hR_read hRR rfl hH (by simp [t26]) rfl
    · have e1 := hrd 5 (by decide) (by kernel_rfl) _ rfl
      have ex : (Act.mk ((t26 n p5 m A tm w).F vals) (t26 n p5 m A tm w).ds).eval (.tmp 215) = .pointer (some ⟨p5, 1, none⟩) := (Ord.Fr_new (i := 5) (by kernel_rfl) (by omega)).trans e1
      refine st_sem ok26 hF rfl rfl (s := Instr.loadAt 23 (.pointer (some ⟨p5, 1, none⟩))) (v := .slice A.la m.legs.length A.lc) (w' := W) (by rw [← ex]; rfl) (by simp [go_sem, r5]) ?_
      exact hR_read hRR rfl hH (by simp [t26]) rfl
    · have e2 := hrd 6 (by decide) (by kernel_rfl) _ rfl
      obtain ⟨⟨b, eb, hb3, ev, bb⟩, _⟩ := htok 4 (by simp [t26])
      have es : (Act.mk ((t26 n p5 m A tm w).F vals) (t26 n p5 m A tm w).ds).eval (.tmp 214) = .slice (some ⟨b, 0, none⟩) 0 0 := (Ord.Fr_new (i := 4) (by kernel_rfl) (by omega)).trans ev
      have ex : (Act.mk ((t26 n p5 m A tm w).F vals) (t26 n p5 m A tm w).ds).eval (.tmp 216) = .slice A.la m.legs.length A.lc := (Ord.Fr_new (i := 6) (by kernel_rfl) (by omega)).trans e2
      refine st_append ok26 hF rfl rfl (ty := 23) rfl (n1 := n) (e := 39) Try.underlying23 hi1 hz1 hs1 hy1 rfl (by decide) es (own_empty bb hb3) ex (RowsAt.src (f := spc) (n := 2) (fun _ => rfl) (by decide) hmW.legs _) (fun u hu => by obtain ⟨y, _, hu⟩ := List.mem_flatMap.1 hu; exact spc_one y u hu) (by unfold maxLen; omega) (by omega) (by omega) hRR ?_ rfl ?_ ?_ (Nat.le_refl _)
      · intro w' hg; exact hBw.grown hg (by omega) (fun g e => by simp [Value.ownBlock] at e; omega)
      · intro v' w' ho
        simp only [Nat.zero_add, List.nil_append] at ho
        exact ⟨rfl, ho⟩
      · intro k hk
        exact ⟨4, by simp [t26], by simp [Value.ownBlock] at hk; subst hk; rw [eb]; simp⟩
    · refine st_sem ok26 hF rfl rfl (s := Instr.buildSlice 24 0 #[]) (v := .slice (some ⟨W.heap.size, 0, none⟩) 0 0) (w' := W.alloc (.cells #[] 56)) (by simp [execOp]) (by simp [Instr.buildSlice, run_underlying Try.underlying24, go_sem]) ?_
      exact hR_alloc hRR rfl (hBw.alloc (by omega) _) (by simp [t26]) ⟨_, rfl, by omega, rfl, Blk.new _ _ _⟩ (by show n ≤ _; omega)
    · refine st_sem ok26 hF rfl rfl (s := Instr.fieldAt 27 (.pointer (some ⟨p5, 0, none⟩)) 2) (v := .pointer (some ⟨p5, 2, none⟩)) (w' := W) (by rw [← e5]; rfl) (by first | (simp [go_sem]; done) | (simp [go_sem]; rfl)) ?_
      exact hR_read hRR rfl hH (by simp [t26]) rfl
    · have e1 := hrd 9 (by decide) (by kernel_rfl) _ rfl
      have ex : (Act.mk ((t26 n p5 m A tm w).F vals) (t26 n p5 m A tm w).ds).eval (.tmp 219) = .pointer (some ⟨p5, 2, none⟩) := (Ord.Fr_new (i := 9) (by kernel_rfl) (by omega)).trans e1
      refine st_sem ok26 hF rfl rfl (s := Instr.loadAt 24 (.pointer (some ⟨p5, 2, none⟩))) (v := .slice A.ha m.herds.length A.hc) (w' := W) (by rw [← ex]; rfl) (by simp [go_sem, r5]) ?_
      exact hR_read hRR rfl hH (by simp [t26]) rfl
    · have e2 := hrd 10 (by decide) (by kernel_rfl) _ rfl
      obtain ⟨⟨b, eb, hb3, ev, bb⟩, _⟩ := htok 8 (by simp [t26])
      have es : (Act.mk ((t26 n p5 m A tm w).F vals) (t26 n p5 m A tm w).ds).eval (.tmp 218) = .slice (some ⟨b, 0, none⟩) 0 0 := (Ord.Fr_new (i := 8) (by kernel_rfl) (by omega)).trans ev
      have ex : (Act.mk ((t26 n p5 m A tm w).F vals) (t26 n p5 m A tm w).ds).eval (.tmp 220) = .slice A.ha m.herds.length A.hc := (Ord.Fr_new (i := 10) (by kernel_rfl) (by omega)).trans e2
      refine st_append ok26 hF rfl rfl (ty := 24) rfl (n1 := n) (e := 56) Try.underlying24 hi2 hz2 hs2 hy2 rfl (by decide) es (own_empty bb hb3) ex (RowsAt.src (f := i4c) (n := 4) (fun _ => rfl) (by decide) hmW.herds _) (fun u hu => by obtain ⟨y, _, hu⟩ := List.mem_flatMap.1 hu; exact i4c_one y u hu) (by unfold maxLen; omega) (by omega) (by omega) hRR ?_ rfl ?_ ?_ (Nat.le_refl _)
      · intro w' hg; exact hBw.grown hg (by omega) (fun g e => by simp [Value.ownBlock] at e; omega)
      · intro v' w' ho
        simp only [Nat.zero_add, List.nil_append] at ho
        exact ⟨rfl, ho⟩
      · intro k hk
        exact ⟨8, by simp [t26], by simp [Value.ownBlock] at hk; subst hk; rw [eb]; simp⟩
    · refine st_sem ok26 hF rfl rfl (s := Instr.buildSlice 25 0 #[]) (v := .slice (some ⟨W.heap.size, 0, none⟩) 0 0) (w' := W.alloc (.cells #[] 64)) (by simp [execOp]) (by simp [Instr.buildSlice, run_underlying Try.underlying25, go_sem]) ?_
      exact hR_alloc hRR rfl (hBw.alloc (by omega) _) (by simp [t26]) ⟨_, rfl, by omega, rfl, Blk.new _ _ _⟩ (by show n ≤ _; omega)
    · refine st_sem ok26 hF rfl rfl (s := Instr.fieldAt 27 (.pointer (some ⟨p5, 0, none⟩)) 3) (v := .pointer (some ⟨p5, 3, none⟩)) (w' := W) (by rw [← e5]; rfl) (by first | (simp [go_sem]; done) | (simp [go_sem]; rfl)) ?_
      exact hR_read hRR rfl hH (by simp [t26]) rfl
    · have e1 := hrd 13 (by decide) (by kernel_rfl) _ rfl
      have ex : (Act.mk ((t26 n p5 m A tm w).F vals) (t26 n p5 m A tm w).ds).eval (.tmp 223) = .pointer (some ⟨p5, 3, none⟩) := (Ord.Fr_new (i := 13) (by kernel_rfl) (by omega)).trans e1
      refine st_sem ok26 hF rfl rfl (s := Instr.loadAt 25 (.pointer (some ⟨p5, 3, none⟩))) (v := .slice A.sa m.seen.length A.sc) (w' := W) (by rw [← ex]; rfl) (by simp [go_sem, r5]) ?_
      exact hR_read hRR rfl hH (by simp [t26]) rfl
    · have e2 := hrd 14 (by decide) (by kernel_rfl) _ rfl
      obtain ⟨⟨b, eb, hb3, ev, bb⟩, _⟩ := htok 12 (by simp [t26])
      have es : (Act.mk ((t26 n p5 m A tm w).F vals) (t26 n p5 m A tm w).ds).eval (.tmp 222) = .slice (some ⟨b, 0, none⟩) 0 0 := (Ord.Fr_new (i := 12) (by kernel_rfl) (by omega)).trans ev
      have ex : (Act.mk ((t26 n p5 m A tm w).F vals) (t26 n p5 m A tm w).ds).eval (.tmp 224) = .slice A.sa m.seen.length A.sc := (Ord.Fr_new (i := 14) (by kernel_rfl) (by omega)).trans e2
      refine st_append ok26 hF rfl rfl (ty := 25) rfl (n1 := n) (e := 64) Try.underlying25 hi3 hz3 hs3 hy3 rfl (by decide) es (own_empty bb hb3) ex (RowsAt.src (f := i4c) (n := 4) (fun _ => rfl) (by decide) hmW.seen _) (fun u hu => by obtain ⟨y, _, hu⟩ := List.mem_flatMap.1 hu; exact i4c_one y u hu) (by unfold maxLen; omega) (by omega) (by omega) hRR ?_ rfl ?_ ?_ (Nat.le_refl _)
      · intro w' hg; exact hBw.grown hg (by omega) (fun g e => by simp [Value.ownBlock] at e; omega)
      · intro v' w' ho
        simp only [Nat.zero_add, List.nil_append] at ho
        exact ⟨rfl, ho⟩
      · intro k hk
        exact ⟨12, by simp [t26], by simp [Value.ownBlock] at hk; subst hk; rw [eb]; simp⟩
    · obtain ⟨ht, hbt⟩ := htok 3 (by simp [t26])
      exact st_pass ok26 hF rfl rfl rfl (j := 3) (Ord.Fr_new (by kernel_rfl) (by omega)) (by simp [t26]) hbt hRR hH rfl ht
    · obtain ⟨ht, hbt⟩ := htok 7 (by simp [t26])
      exact st_pass ok26 hF rfl rfl rfl (j := 7) (Ord.Fr_new (by kernel_rfl) (by omega)) (by simp [t26]) hbt hRR hH rfl ht
    · obtain ⟨ht, hbt⟩ := htok 11 (by simp [t26])
      exact st_pass ok26 hF rfl rfl rfl (j := 11) (Ord.Fr_new (by kernel_rfl) (by omega)) (by simp [t26]) hbt hRR hH rfl ht
    · obtain ⟨ht, hbt⟩ := htok 15 (by simp [t26])
      exact st_pass ok26 hF rfl rfl rfl (j := 15) (Ord.Fr_new (by kernel_rfl) (by omega)) (by simp [t26]) hbt hRR hH rfl ht
  · intro vals bs W hH hrd htok hdis _
    have hfin : ∀ j, 16 ≤ j → j < 20 → (t26 n p5 m A tm w).T j (vals j) (bs j) W := fun j h1 h2 => (htok j (.inr h2) (fun c hc => by
      have hc' : c < 20 := hc
      rcases (show c = 0 ∨ c = 1 ∨ c = 2 ∨ c = 3 ∨ c = 4 ∨ c = 5 ∨ c = 6 ∨ c = 7 ∨ c = 8 ∨ c = 9 ∨ c = 10 ∨ c = 11 ∨ c = 12 ∨ c = 13 ∨ c = 14 ∨ c = 15 ∨ c = 16 ∨ c = 17 ∨ c = 18 ∨ c = 19 by omega) with rfl | rfl | rfl | rfl | rfl | rfl | rfl | rfl | rfl | rfl | rfl | rfl | rfl | rfl | rfl | rfl | rfl | rfl | rfl | rfl <;> simp [t26] <;> omega)).1
    refine hexit vals W (by rw [hn]; exact hH) ?_ ?_ ?_ ?_
    · have h := hfin 16 (by omega) (by omega)
      rw [hn]
      exact OwnT.row h
    · have h := hfin 17 (by omega) (by omega)
      rw [hn]
      exact OwnT.row h
    · have h := hfin 18 (by omega) (by omega)
      rw [hn]
      exact OwnT.row h
    · have h := hfin 19 (by omega) (by omega)
      rw [hn]
      exact OwnT.row h
end Go.Proofs.Yteeinehpneppnaa
set_option linter.unusedVariables false
set_option linter.unusedSimpArgs false
namespace Go.Proofs.Yteeinehpneppnaa
open Go.RowKit Go.Proofs
attribute [local irreducible] Ord.walk
section
variable {P : Program} {Q : Exit → Act → World → Prop} {t : Ord.Tk} {lo : List Oper} {tm : Array Value} {i : Nat} {vals : Nat → Value} {bs : Nat → List Nat} {w : World} {R : Act → World → Prop}
theorem st_call (ok : Ord.okD lo = true) (hF : ∀ vals, t.F vals = Ord.Fr lo tm vals) {d : Option Tmp} {ty : TypeId} {pos : String} {af : Array Edge} {fn : FuncId} {args : List Operand} {ts : Array TypeId} (ho : lo[i]? = some ⟨d, .call { callee := .value (.func fn), args := args.toArray, argTypes := ts }, ty, pos, af, none⟩)
    {vs : Array Value} (hvs : (args.map (Act.mk (t.F vals) t.ds).eval).toArray = vs) (hr : (callFunc fn vs).run P w = .ok (.enter fn vs) w) (hc : Calls P fn vs w (fun e w' => ∃ v, e = .returned v ∧ R ⟨t.F (Ord.setV vals i v), t.ds⟩ w')) :
    Ord.walk P lo.toArray (fun _ => True) (Ord.Qn Q R) [(i, 2)] ⟨t.F vals, t.ds⟩ w := by
  subst hvs
  refine Ord.walk_one ho fun K hK => wpList_plain rfl fun K' hK' => ?_
  unfold Oper.wp
  have he : (execOp (Act.mk (t.F vals) t.ds).eval ⟨d, .call { callee := .value (.func fn), args := args.toArray, argTypes := ts }, ty, pos, af, none⟩).run P w = .ok (.enter fn (args.map (Act.mk (t.F vals) t.ds).eval).toArray) w := by
    have hx : args.toArray.map (Act.mk (t.F vals) t.ds).eval = (args.map (Act.mk (t.F vals) t.ds).eval).toArray := by simp
    simp only [execOp, resolve, hx, Act.eval, Deferred.ofValue]
    rw [Sem.run_bind]
    simp only [Sem.run_pure, Result.andThen, invoke]
    simpa using hr
  rw [he, Oper.upon_enter]
  refine hc.mono ?_
  rintro e w' ⟨v, rfl, hR⟩
  show K' ((Act.mk (t.F vals) t.ds).put d v) w'
  have := put_of ok hF ho v (vals := vals)
  rw [show (Act.mk (t.F vals) t.ds).put d v = ⟨t.F (Ord.setV vals i v), t.ds⟩ from this]
  exact hK' _ _ (wpList_nil (show K _ _ from hK _ _ hR))
/-- A struct is stored into a block that its token holds. -/
theorem st_store (ok : Ord.okD lo = true) (hF : ∀ vals, t.F vals = Ord.Fr lo tm vals) {o : Oper} (ho : lo[i]? = some o) (hg : o.guard = none) {ty : TypeId} {x y : Operand} {n : Nat} (hk : AggTy P ty n) (hop : o.op = .store ty x y) (hd : o.dst = none) {b : Nat} (hx : (Act.mk (t.F vals) t.ds).eval x = .pointer (some ⟨b, 0, none⟩))
    {B : Array Value} (hy : (Act.mk (t.F vals) t.ds).eval y = .agg B) {A : Array Value} {u : TypeId} (hb : Blk w b A u) (hA : A.size = n) (hB : B.size = n) (h1 : B.all (·.oneCell') = true) (hR : ∀ w', Rowed w b B u w' → ∀ v, R ⟨t.F (Ord.setV vals i v), t.ds⟩ w' → True) (v : Value) (hR2 : ∀ w', Rowed w b B u w' → R ⟨t.F (Ord.setV vals i v), t.ds⟩ w') :
    Ord.walk P lo.toArray (fun _ => True) (Ord.Qn Q R) [(i, 2)] ⟨t.F vals, t.ds⟩ w := by
  refine Ord.walk_one ho fun K hK => wpList_store_blk ty x y hk hg hop hx hy hb hA hB h1 fun w' hw => wpList_nil ?_
  have := put_of ok hF ho v (vals := vals)
  rw [hd] at this ⊢
  have e : (Act.mk (t.F vals) t.ds).put none undef = (Act.mk (t.F vals) t.ds).put none v := rfl
  rw [e, this]
  exact hK _ _ (hR2 w' hw)
end
noncomputable def m5 : List Oper := regOf 5 moreCode
theorem ok5 : Ord.okD m5 = true := by kernel_rfl
/-- A way's block, new. -/
def MobT (w : World) (n : Nat) (C : Array Value) (v : Value) (bs : List Nat) : Prop := ∃ b, v = .pointer (some ⟨b, 0, none⟩) ∧ bs = [b] ∧ n ≤ b ∧ Blk w b C 27
theorem MobT.stay {w w' : World} {n : Nat} {C : Array Value} {v : Value} {bs : List Nat} (h : MobT w n C v bs) (hb : ∀ k ∈ bs, w'.heap[k]? = w.heap[k]?) : MobT w' n C v bs := by
  obtain ⟨b, h1, rfl, h2, h3⟩ := h
  exact ⟨b, h1, rfl, h2, (hb b (by simp)).trans h3⟩
def xMa (A : Ma) (g c : Nat) : Ma := ⟨A.pa, A.pc, A.la, A.lc, A.ha, A.hc, some ⟨g, 0, none⟩, c⟩
def xRow (w : World) (n : Nat) (m : Mb) (s : Int × Int × Int × Int) (g c : Nat) : Prop := OwnT w n 64 4 i4c (m.seen ++ [s]) (.slice (some ⟨g, 0, none⟩) (m.seen ++ [s]).length c) [g]
/-- What with returns. -/
def WithT (w : World) (n : Nat) (m : Mb) (A : Ma) (s : Int × Int × Int × Int) (v : Value) (bs : List Nat) : Prop := ∃ g c, v = mv (withM m s) (xMa A g c) ∧ bs = [g] ∧ n ≤ g ∧ xRow w n m s g c
theorem WithT.stay {w w' : World} {n : Nat} {m : Mb} {A : Ma} {s : Int × Int × Int × Int} {v : Value} {bs : List Nat} (h : WithT w n m A s v bs) (hb : ∀ k ∈ bs, w'.heap[k]? = w.heap[k]?) : WithT w' n m A s v bs := by
  obtain ⟨g, c, h1, rfl, h2, h3⟩ := h
  exact ⟨g, c, h1, rfl, h2, OwnT.stay h3 hb⟩
def XT (w : World) (n : Nat) (m : Mb) (A : Ma) (s : Int × Int × Int × Int) (v : Value) (bs : List Nat) : Prop := ∃ b g c, v = .pointer (some ⟨b, 0, none⟩) ∧ bs = [b, g] ∧ n ≤ b ∧ n ≤ g ∧ b ≠ g ∧ Blk w b (mcells (withM m s) (xMa A g c)) 27 ∧ xRow w n m s g c
theorem XT.stay {w w' : World} {n : Nat} {m : Mb} {A : Ma} {s : Int × Int × Int × Int} {v : Value} {bs : List Nat} (h : XT w n m A s v bs) (hb : ∀ k ∈ bs, w'.heap[k]? = w.heap[k]?) : XT w' n m A s v bs := by
  obtain ⟨b, g, c, h1, rfl, h2, h3, h4, h5, h6⟩ := h
  exact ⟨b, g, c, h1, rfl, h2, h3, h4, (hb b (by simp)).trans h5, OwnT.stay h6 (fun k hk => hb k (by simp at hk; simp [hk]))⟩
noncomputable def t5 (n : Nat) (m : Mb) (A : Ma) (s : Int × Int × Int × Int) (tm : Array Value) (w0 : World) : Ord.Tk where
  n0 := n
  F vals := Ord.Fr m5 tm vals
  ds := []
  H W := Below n w0 W
  rd i := match i with
    | 0 => some (mv m A)
    | 1 => some (.agg #[.int .i64 s.1, .int .i64 s.2.1, .int .i64 s.2.2.1, .int .i64 s.2.2.2])
    | 3 => some (mv m A)
    | 4 => some (mv m A)
    | 5 => some (mv m A)
    | _ => none
  use i := match i with
    | 10 => [6, 2]
    | 11 => [7]
    | 12 => [8]
    | 13 => [9]
    | _ => []
  take i := match i with
    | 10 => [6, 2]
    | 11 => [7]
    | 12 => [8]
    | 13 => [9]
    | _ => []
  T i v bs w := match i with
    | 2 => WithT w n m A s v bs
    | 6 => MobT w n #[.slice none 0 0, .slice none 0 0, .slice none 0 0, .slice none 0 0] v bs
    | 7 => MobT w n #[.slice none 0 0, .slice none 0 0, .slice none 0 0, .slice none 0 0] v bs
    | 8 => MobT w n #[.slice none 0 0, .slice none 0 0, .slice none 0 0, .slice none 0 0] v bs
    | 9 => MobT w n #[.slice none 0 0, .slice none 0 0, .slice none 0 0, .slice none 0 0] v bs
    | 10 => XT w n m A s v bs
    | 11 => MobT w n (mcells m A) v bs
    | 12 => MobT w n (mcells m A) v bs
    | 13 => MobT w n (mcells m A) v bs
    | _ => bs = []
  init := []
  lk i := match i with
    | 10 => some 6
    | 11 => some 7
    | 12 => some 8
    | 13 => some 9
    | _ => none
theorem t5_stay {n : Nat} {m : Mb} {A : Ma} {s : Int × Int × Int × Int} {tm : Array Value} {w0 : World} (i : Nat) (v : Value) (bs : List Nat) (w w' : World) (h : ∀ k ∈ bs, w'.heap[k]? = w.heap[k]?) (hT : (t5 n m A s tm w0).T i v bs w) : (t5 n m A s tm w0).T i v bs w' := by
  match i, hT with
  | 0, hT => exact hT
  | 1, hT => exact hT
  | 2, hT => exact WithT.stay hT h
  | 3, hT => exact hT
  | 4, hT => exact hT
  | 5, hT => exact hT
  | 6, hT => exact MobT.stay hT h
  | 7, hT => exact MobT.stay hT h
  | 8, hT => exact MobT.stay hT h
  | 9, hT => exact MobT.stay hT h
  | 10, hT => exact XT.stay hT h
  | 11, hT => exact MobT.stay hT h
  | 12, hT => exact MobT.stay hT h
  | 13, hT => exact MobT.stay hT h
  | n + 14, hT => exact hT
set_option maxHeartbeats 4000000 in
set_option maxRecDepth 100000 in
theorem more_r5 {m : Mb} {A : Ma} {s : Int × Int × Int × Int} {w : World} {tm : Array Value} (hsz : tm.size = 545) {p5 p6 : Nat} (h5 : tm[5]? = some (.pointer (some ⟨p5, 0, none⟩))) (h6 : tm[6]? = some (.pointer (some ⟨p6, 0, none⟩))) (b5 : Blk w p5 (mcells m A) 27) (b6 : Blk w p6 #[.int .i64 s.1, .int .i64 s.2.1, .int .i64 s.2.2.1, .int .i64 s.2.2.2] 64) (hm : MbAt w m A) (hl : m.seen.length ≤ 40) {Q : Exit → Act → World → Prop}
    (hexit : ∀ (vals : Nat → Value) W p15 p16 p17 p18 g c, Below w.heap.size w W → vals 6 = .pointer (some ⟨p15, 0, none⟩) → vals 7 = .pointer (some ⟨p16, 0, none⟩) → vals 8 = .pointer (some ⟨p17, 0, none⟩) → vals 9 = .pointer (some ⟨p18, 0, none⟩) →
      Blk W p15 (mcells (withM m s) (xMa A g c)) 27 → xRow W w.heap.size m s g c → Blk W p16 (mcells m A) 27 → Blk W p17 (mcells m A) 27 → Blk W p18 (mcells m A) 27 → [p15, g, p16, p17, p18].Nodup → (∀ k ∈ [p15, g, p16, p17, p18], w.heap.size ≤ k) → Q .normal ⟨Ord.Fr m5 tm vals, []⟩ W) : (Code.region 5 m5.toArray true).wp Try.prog Q ⟨tm, []⟩ w := by
  obtain ⟨n, hn⟩ : ∃ n, w.heap.size = n := ⟨_, rfl⟩
  have hp5 : p5 < n := by rw [← hn]; exact b5.lt
  have hp6 : p6 < n := by rw [← hn]; exact b6.lt
  refine Ord.wp_regionW (t5 n m A s tm w) (by kernel_rfl) (by kernel_rfl) (by kernel_rfl) (by kernel_rfl) (by simp [t5]) t5_stay (Ord.valsO m5 tm) (fun _ => []) (Ord.Fr_start m5 tm []) (Below.refl _ _).drew (by simp [t5]) (by simp [t5]) ?_ ?_
  · intro j hj vals bs W hH hrd htok hdis R hRR
    have hF : ∀ vals, (t5 n m A s tm w).F vals = Ord.Fr m5 tm vals := fun _ => rfl
    have hBw : Below n w W := hH
    have hnW : n ≤ W.heap.size := by have := hBw.size; omega
    have b5W := b5.below hBw (by omega)
    have b6W := b6.below hBw (by omega)
    have e5 : (Act.mk ((t5 n m A s tm w).F vals) (t5 n m A s tm w).ds).eval (.tmp 5) = .pointer (some ⟨p5, 0, none⟩) := Ord.Fr_old (by kernel_rfl) h5
    have e6 : (Act.mk ((t5 n m A s tm w).F vals) (t5 n m A s tm w).ds).eval (.tmp 6) = .pointer (some ⟨p6, 0, none⟩) := Ord.Fr_old (by kernel_rfl) h6
    have hmW : MbAt W m A := hm.below (by rw [hn]; exact hBw)
    have hj14 : j < 14 := hj
    have hst : ∀ (i : Nat) (k : Nat) (v : Value) (b : Nat) (C : Array Value) (w' : World), (t5 n m A s tm w).take i = [k] → bs k = [b] → n ≤ b → b < W.heap.size → (t5 n m A s tm w).rd i = none → (∀ j, (t5 n m A s tm w).lk i = some j → v = vals j) → Rowed W b C 27 w' → (t5 n m A s tm w).T i v [b] w' → (t5 n m A s tm w).Step i vals bs W ⟨(t5 n m A s tm w).F (Ord.setV vals i v), (t5 n m A s tm w).ds⟩ w' := fun i k v b C w' htk hbk hnb hbW hrdi hlki hr hT =>
      ⟨v, [b], rfl, hr.below hBw hnb, (fun u hu => absurd (hrdi.symm.trans hu) (by simp)), hT, (fun k' hk' => by simp at hk'; subst hk'; exact ⟨hnb, by rw [hr.size]; exact hbW, .inr ⟨k, by rw [htk]; simp, by rw [hbk]; simp⟩⟩), by rw [hr.size]; exact Nat.le_refl _, (fun k' hk' hn' => hr.heap k' (fun e => hn' k (by rw [htk]; simp) (by rw [hbk, e]; simp))), hlki⟩
    rcases (show j = 0 ∨ j = 1 ∨ j = 2 ∨ j = 3 ∨ j = 4 ∨ j = 5 ∨ j = 6 ∨ j = 7 ∨ j = 8 ∨ j = 9 ∨ j = 10 ∨ j = 11 ∨ j = 12 ∨ j = 13 by omega) with rfl | rfl | rfl | rfl | rfl | rfl | rfl | rfl | rfl | rfl | rfl | rfl | rfl | rfl
    · refine st_sem ok5 hF rfl rfl (s := Instr.loadAt 27 (.pointer (some ⟨p5, 0, none⟩))) (v := mv m A) (w' := W) (by rw [← e5]; rfl) (loadVar_blk agg_mob b5W rfl) ?_
      exact hR_read hRR rfl hH (by simp [t5]) rfl
    · refine st_sem ok5 hF rfl rfl (s := Instr.loadAt 64 (.pointer (some ⟨p6, 0, none⟩))) (v := .agg #[.int .i64 s.1, .int .i64 s.2.1, .int .i64 s.2.2.1, .int .i64 s.2.2.2]) (w' := W) (by rw [← e6]; rfl) (loadVar_blk agg_seen b6W rfl) ?_
      exact hR_read hRR rfl hH (by simp [t5]) rfl
    · have e0 := hrd 0 (by decide) (by kernel_rfl) _ rfl
      have e1 := hrd 1 (by decide) (by kernel_rfl) _ rfl
      have ex : (Act.mk ((t5 n m A s tm w).F vals) (t5 n m A s tm w).ds).eval (.tmp 91) = mv m A := (Ord.Fr_new (i := 0) (by kernel_rfl) (by omega)).trans e0
      have ey : (Act.mk ((t5 n m A s tm w).F vals) (t5 n m A s tm w).ds).eval (.tmp 92) = .agg #[.int .i64 s.1, .int .i64 s.2.1, .int .i64 s.2.2.1, .int .i64 s.2.2.2] := (Ord.Fr_new (i := 1) (by kernel_rfl) (by omega)).trans e1
      refine st_call ok5 hF (args := [.tmp 91, .tmp 92]) rfl (vs := #[mv m A, .agg #[.int .i64 s.1, .int .i64 s.2.1, .int .i64 s.2.2.1, .int .i64 s.2.2.2]]) (by simp only [List.map_cons, List.map_nil, ex, ey]) (by simp [go_sem]) ?_
      refine (l_with2 m A s W hmW hl).mono ?_
      rintro e w' ⟨g, c, rfl, ho, hb⟩
      have hg := ho.lt g (by simp)
      have ho' : xRow w' n m s g c := by
        obtain ⟨h8a, h8b, h8c⟩ := ho
        refine ⟨h8a, h8b, h8c.imp id ?_⟩
        rintro ⟨g', cap, cur, e', hg', hh⟩
        exact ⟨g', cap, cur, e', by omega, hh⟩
      refine ⟨_, rfl, hRR _ _ ⟨_, [g], rfl, hBw.trans (hb.mono (by omega)), by simp [t5], ⟨g, c, rfl, rfl, by omega, ho'⟩, fun k hk => by simp at hk; subst hk; exact ⟨by show n ≤ k; omega, hg.2, .inl hg.1⟩, hb.size, fun k hk _ => hb.block k hk, fun _ h => by cases h⟩⟩
    · refine st_sem ok5 hF rfl rfl (s := Instr.loadAt 27 (.pointer (some ⟨p5, 0, none⟩))) (v := mv m A) (w' := W) (by rw [← e5]; rfl) (loadVar_blk agg_mob b5W rfl) ?_
      exact hR_read hRR rfl hH (by simp [t5]) rfl
    · refine st_sem ok5 hF rfl rfl (s := Instr.loadAt 27 (.pointer (some ⟨p5, 0, none⟩))) (v := mv m A) (w' := W) (by rw [← e5]; rfl) (loadVar_blk agg_mob b5W rfl) ?_
      exact hR_read hRR rfl hH (by simp [t5]) rfl
    · refine st_sem ok5 hF rfl rfl (s := Instr.loadAt 27 (.pointer (some ⟨p5, 0, none⟩))) (v := mv m A) (w' := W) (by rw [← e5]; rfl) (loadVar_blk agg_mob b5W rfl) ?_
      exact hR_read hRR rfl hH (by simp [t5]) rfl
    · refine st_sem ok5 hF rfl rfl (s := Instr.alloc 27 true (.tuple #[])) (v := .pointer (some ⟨W.heap.size, 0, none⟩)) (w' := W.alloc (.cells #[.slice none 0 0, .slice none 0 0, .slice none 0 0, .slice none 0 0] 27)) rfl (by simp [go_sem]) ?_
      exact hR_alloc hRR rfl (hBw.alloc (by omega) _) (by simp [t5]) ⟨_, rfl, rfl, by omega, Blk.new _ _ _⟩ (by show n ≤ _; omega)
    · refine st_sem ok5 hF rfl rfl (s := Instr.alloc 27 true (.tuple #[])) (v := .pointer (some ⟨W.heap.size, 0, none⟩)) (w' := W.alloc (.cells #[.slice none 0 0, .slice none 0 0, .slice none 0 0, .slice none 0 0] 27)) rfl (by simp [go_sem]) ?_
      exact hR_alloc hRR rfl (hBw.alloc (by omega) _) (by simp [t5]) ⟨_, rfl, rfl, by omega, Blk.new _ _ _⟩ (by show n ≤ _; omega)
    · refine st_sem ok5 hF rfl rfl (s := Instr.alloc 27 true (.tuple #[])) (v := .pointer (some ⟨W.heap.size, 0, none⟩)) (w' := W.alloc (.cells #[.slice none 0 0, .slice none 0 0, .slice none 0 0, .slice none 0 0] 27)) rfl (by simp [go_sem]) ?_
      exact hR_alloc hRR rfl (hBw.alloc (by omega) _) (by simp [t5]) ⟨_, rfl, rfl, by omega, Blk.new _ _ _⟩ (by show n ≤ _; omega)
    · refine st_sem ok5 hF rfl rfl (s := Instr.alloc 27 true (.tuple #[])) (v := .pointer (some ⟨W.heap.size, 0, none⟩)) (w' := W.alloc (.cells #[.slice none 0 0, .slice none 0 0, .slice none 0 0, .slice none 0 0] 27)) rfl (by simp [go_sem]) ?_
      exact hR_alloc hRR rfl (hBw.alloc (by omega) _) (by simp [t5]) ⟨_, rfl, rfl, by omega, Blk.new _ _ _⟩ (by show n ≤ _; omega)
    · obtain ⟨⟨b, ev, eb, hnb, hbb⟩, _⟩ := htok 6 (by simp [t5])
      obtain ⟨⟨g, c, ew, eg, hng, hrow⟩, hgW⟩ := htok 2 (by simp [t5])
      have hbg : b ≠ g := fun e => hdis 6 (by simp [t5]) 2 (by simp [t5]) (by decide) b (by rw [eb]; simp) (by rw [eg, e]; simp)
      have hlb := hbb.lt
      have ex : (Act.mk ((t5 n m A s tm w).F vals) (t5 n m A s tm w).ds).eval (.tmp 15) = .pointer (some ⟨b, 0, none⟩) := (Ord.Fr_new (i := 6) (by kernel_rfl) (by omega)).trans ev
      have ey : (Act.mk ((t5 n m A s tm w).F vals) (t5 n m A s tm w).ds).eval (.tmp 93) = mv (withM m s) (xMa A g c) := (Ord.Fr_new (i := 2) (by kernel_rfl) (by omega)).trans ew
      refine st_store ok5 hF rfl rfl agg_mob rfl rfl ex ey hbb rfl rfl (by simp [Value.oneCell']) (fun _ _ _ _ => trivial) (vals 6) fun w' hr => ?_
      have hrow' : xRow w' n m s g c := OwnT.stay hrow (fun k hk => hr.heap k (by simp at hk; omega))
      have hgl := hgW g (by rw [eg]; simp)
      refine hRR _ _ ⟨vals 6, [b, g], rfl, hr.below hBw hnb, by simp [t5], ⟨b, g, c, ev, rfl, hnb, hng, hbg, hr.blk, hrow'⟩, fun k hk => ?_, by rw [hr.size]; exact Nat.le_refl _, fun k hk hkT => hr.heap k (fun e => hkT 6 (by simp [t5]) (by rw [eb, e]; simp)), fun j e => by simp [t5] at e; rw [← e]⟩
      simp only [List.mem_cons, List.not_mem_nil, or_false] at hk
      rcases hk with rfl | rfl
      · exact ⟨hnb, by rw [hr.size]; exact hlb, .inr ⟨6, by simp [t5], by rw [eb]; simp⟩⟩
      · exact ⟨hng, by rw [hr.size]; exact hgl.2, .inr ⟨2, by simp [t5], by rw [eg]; simp⟩⟩
    · obtain ⟨⟨b, ev, eb, hnb, hbb⟩, _⟩ := htok 7 (by simp [t5])
      have hlb := hbb.lt
      have e1 := hrd 3 (by decide) (by kernel_rfl) _ rfl
      have ex : (Act.mk ((t5 n m A s tm w).F vals) (t5 n m A s tm w).ds).eval (.tmp 16) = .pointer (some ⟨b, 0, none⟩) := (Ord.Fr_new (i := 7) (by kernel_rfl) (by omega)).trans ev
      have ey : (Act.mk ((t5 n m A s tm w).F vals) (t5 n m A s tm w).ds).eval (.tmp 94) = mv m A := (Ord.Fr_new (i := 3) (by kernel_rfl) (by omega)).trans e1
      refine st_store ok5 hF rfl rfl agg_mob rfl rfl ex ey hbb rfl rfl (by simp [Value.oneCell']) (fun _ _ _ _ => trivial) (vals 7) fun w' hr => ?_
      exact hRR _ _ (hst 11 7 (vals 7) b _ w' rfl eb hnb hlb rfl (fun j e => by simp [t5] at e; rw [← e]) hr ⟨b, ev, rfl, hnb, hr.blk⟩)
    · obtain ⟨⟨b, ev, eb, hnb, hbb⟩, _⟩ := htok 8 (by simp [t5])
      have hlb := hbb.lt
      have e1 := hrd 4 (by decide) (by kernel_rfl) _ rfl
      have ex : (Act.mk ((t5 n m A s tm w).F vals) (t5 n m A s tm w).ds).eval (.tmp 17) = .pointer (some ⟨b, 0, none⟩) := (Ord.Fr_new (i := 8) (by kernel_rfl) (by omega)).trans ev
      have ey : (Act.mk ((t5 n m A s tm w).F vals) (t5 n m A s tm w).ds).eval (.tmp 95) = mv m A := (Ord.Fr_new (i := 4) (by kernel_rfl) (by omega)).trans e1
      refine st_store ok5 hF rfl rfl agg_mob rfl rfl ex ey hbb rfl rfl (by simp [Value.oneCell']) (fun _ _ _ _ => trivial) (vals 8) fun w' hr => ?_
      exact hRR _ _ (hst 12 8 (vals 8) b _ w' rfl eb hnb hlb rfl (fun j e => by simp [t5] at e; rw [← e]) hr ⟨b, ev, rfl, hnb, hr.blk⟩)
    · obtain ⟨⟨b, ev, eb, hnb, hbb⟩, _⟩ := htok 9 (by simp [t5])
      have hlb := hbb.lt
      have e1 := hrd 5 (by decide) (by kernel_rfl) _ rfl
      have ex : (Act.mk ((t5 n m A s tm w).F vals) (t5 n m A s tm w).ds).eval (.tmp 18) = .pointer (some ⟨b, 0, none⟩) := (Ord.Fr_new (i := 9) (by kernel_rfl) (by omega)).trans ev
      have ey : (Act.mk ((t5 n m A s tm w).F vals) (t5 n m A s tm w).ds).eval (.tmp 96) = mv m A := (Ord.Fr_new (i := 5) (by kernel_rfl) (by omega)).trans e1
      refine st_store ok5 hF rfl rfl agg_mob rfl rfl ex ey hbb rfl rfl (by simp [Value.oneCell']) (fun _ _ _ _ => trivial) (vals 9) fun w' hr => ?_
      exact hRR _ _ (hst 13 9 (vals 9) b _ w' rfl eb hnb hlb rfl (fun j e => by simp [t5] at e; rw [← e]) hr ⟨b, ev, rfl, hnb, hr.blk⟩)
  · intro vals bs W hH hrd htok hdis hlk
    have hsurv : ∀ j, 10 ≤ j → j < 14 → ∀ c, c < m5.length → j ∉ (t5 n m A s tm w).take c := fun j h1 h2 c hc => by
      have hc' : c < 14 := hc
      rcases (show c = 0 ∨ c = 1 ∨ c = 2 ∨ c = 3 ∨ c = 4 ∨ c = 5 ∨ c = 6 ∨ c = 7 ∨ c = 8 ∨ c = 9 ∨ c = 10 ∨ c = 11 ∨ c = 12 ∨ c = 13 by omega) with rfl | rfl | rfl | rfl | rfl | rfl | rfl | rfl | rfl | rfl | rfl | rfl | rfl | rfl <;> simp [t5] <;> omega
    have hfin : ∀ j, 10 ≤ j → j < 14 → (t5 n m A s tm w).T j (vals j) (bs j) W ∧ ∀ k ∈ bs j, n ≤ k ∧ k < W.heap.size := fun j h1 h2 => htok j (.inr h2) (hsurv j h1 h2)
    have hdj : ∀ i j, 10 ≤ i → i < 14 → 10 ≤ j → j < 14 → i ≠ j → ∀ k ∈ bs i, k ∉ bs j := fun i j h1 h2 h3 h4 hne => hdis i j (.inr h2) (hsurv i h1 h2) (.inr h4) (hsurv j h3 h4) hne
    obtain ⟨p15, g, c, v10, e10, k15, kg, ne1, B15, row⟩ := (hfin 10 (by omega) (by omega)).1
    obtain ⟨p16, v11, e11, k16, B16⟩ := (hfin 11 (by omega) (by omega)).1
    obtain ⟨p17, v12, e12, k17, B17⟩ := (hfin 12 (by omega) (by omega)).1
    obtain ⟨p18, v13, e13, k18, B18⟩ := (hfin 13 (by omega) (by omega)).1
    have q1 := hlk 10 (by decide) 6 rfl
    have q2 := hlk 11 (by decide) 7 rfl
    have q3 := hlk 12 (by decide) 8 rfl
    have q4 := hlk 13 (by decide) 9 rfl
    have d1 := hdj 10 11 (by omega) (by omega) (by omega) (by omega) (by omega)
    have d2 := hdj 10 12 (by omega) (by omega) (by omega) (by omega) (by omega)
    have d3 := hdj 10 13 (by omega) (by omega) (by omega) (by omega) (by omega)
    have d4 := hdj 11 12 (by omega) (by omega) (by omega) (by omega) (by omega)
    have d5 := hdj 11 13 (by omega) (by omega) (by omega) (by omega) (by omega)
    have d6 := hdj 12 13 (by omega) (by omega) (by omega) (by omega) (by omega)
    rw [e10, e11] at d1
    rw [e10, e12] at d2
    rw [e10, e13] at d3
    rw [e11, e12] at d4
    rw [e11, e13] at d5
    rw [e12, e13] at d6
    simp only [List.mem_cons, List.not_mem_nil, or_false, forall_eq_or_imp, forall_eq] at d1 d2 d3 d4 d5 d6
    rw [hn] at hexit
    refine hexit vals W p15 p16 p17 p18 g c hH (q1.symm.trans v10) (q2.symm.trans v11) (q3.symm.trans v12) (q4.symm.trans v13) B15 row B16 B17 B18 ?_ ?_
    · simp only [List.nodup_cons, List.mem_cons, List.not_mem_nil, or_false, not_or, List.nodup_nil, and_true, not_false_eq_true]
      refine ⟨⟨ne1, ?_, ?_, ?_⟩, ⟨?_, ?_, ?_⟩, ⟨?_, ?_⟩, ?_⟩ <;> omega
    · intro k hk
      simp only [List.mem_cons, List.not_mem_nil, or_false] at hk
      omega
end Go.Proofs.Yteeinehpneppnaa
