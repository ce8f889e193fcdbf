/- Parts of a proof: MoreT. -/
import Derived.Test.YtjbjmoghloabpaaP28
import Derived.Test.YtjbjmoghloabpaaP24
set_option linter.unusedVariables false
set_option linter.unusedSimpArgs false
namespace Go.Proofs.Ytjbjmoghloabpaa
open Go.RowKit Go.Proofs
attribute [local irreducible] Ord.walk
theorem agg_pairX : AggTy Try.prog 54 3 := ⟨_, Try.underlying54, rfl, by kernel_rfl⟩
abbrev bcells (b : Bn) (gv pv : Value) : Array Value := #[.int .i64 b.V, .int .i64 b.nd, .int .i64 b.lo, .int .i64 b.hi, gv, pv]
theorem OwnT.row {α : Type} {w : World} {n0 : Nat} {t : TypeId} {n : Nat} {f : α → List Value} {l : List α} {v : Value} {bs : List Nat} (h : OwnT w n0 t n f l v bs) : w.ownsRow n0 t n v l.length (l.flatMap f) := h.2
/-- A new row without elements. -/
def EmpT (w : World) (n : Nat) (t : TypeId) (v : Value) (bs : List Nat) : Prop := ∃ b, bs = [b] ∧ n ≤ b ∧ v = .slice (some ⟨b, 0, none⟩) 0 0 ∧ Blk w b #[] t
theorem EmpT.stay {w w' : World} {n : Nat} {t : TypeId} {v : Value} {bs : List Nat} (h : EmpT w n t v bs) (hb : ∀ k ∈ bs, w'.heap[k]? = w.heap[k]?) : EmpT w' n t v bs := by
  obtain ⟨b, rfl, h1, h2, h3⟩ := h
  exact ⟨b, rfl, h1, h2, (hb b (by simp)).trans h3⟩
/-- A new row with one element. -/
def OneT (w : World) (n : Nat) (t : TypeId) (A : Array Value) (v : Value) (bs : List Nat) : Prop := ∃ b, bs = [b] ∧ n ≤ b ∧ v = .slice (some ⟨b, 0, none⟩) 1 1 ∧ Blk w b A t
theorem OneT.stay {w w' : World} {n : Nat} {t : TypeId} {A : Array Value} {v : Value} {bs : List Nat} (h : OneT w n t A v bs) (hb : ∀ k ∈ bs, w'.heap[k]? = w.heap[k]?) : OneT w' n t A v bs := by
  obtain ⟨b, rfl, h1, h2, h3⟩ := h
  exact ⟨b, rfl, h1, h2, (hb b (by simp)).trans h3⟩
/-- A vote's block, new. -/
def BoxT (w : World) (n : Nat) (C : Array Value) (v : Value) (bs : List Nat) : Prop := ∃ b, v = .pointer (some ⟨b, 0, none⟩) ∧ bs = [b] ∧ n ≤ b ∧ Blk w b C 27
theorem BoxT.stay {w w' : World} {n : Nat} {C : Array Value} {v : Value} {bs : List Nat} (h : BoxT w n C v bs) (hb : ∀ k ∈ bs, w'.heap[k]? = w.heap[k]?) : BoxT w' n C v bs := by
  obtain ⟨b, h1, rfl, h2, h3⟩ := h
  exact ⟨b, h1, rfl, h2, (hb b (by simp)).trans h3⟩
theorem rows_gs {w : World} {a : Option Addr} {l : List (Int × Int × Int)} (h : GsAt w a l) : RowsAt w a 3 gcell l := fun i hi => by
  obtain ⟨gb, go, e, c0, c1, c2⟩ := h i hi
  refine ⟨gb, go, e, fun j u hj => ?_⟩
  match j, hj with
  | 0, hj => simp [gcell] at hj; subst hj; exact c0
  | 1, hj => simp [gcell] at hj; subst hj; exact c1
  | 2, hj => simp [gcell] at hj; subst hj; exact c2
  | j + 3, hj => simp [gcell] at hj
theorem rows_ps {w : World} {a : Option Addr} {l : List (Int × Int × Bool)} (h : PsAt w a l) : RowsAt w a 3 pcell l := fun i hi => by
  obtain ⟨gb, go, e, c0, c1, c2⟩ := h i hi
  refine ⟨gb, go, e, fun j u hj => ?_⟩
  match j, hj with
  | 0, hj => simp [pcell] at hj; subst hj; exact c0
  | 1, hj => simp [pcell] at hj; subst hj; exact c1
  | 2, hj => simp [pcell] at hj; subst hj; exact c2
  | j + 3, hj => simp [pcell] at hj
theorem gs_rows {w : World} {a : Option Addr} {l : List (Int × Int × Int)} (h : RowsAt w a 3 gcell l) : GsAt w a l := fun i hi => by
  obtain ⟨gb, go, e, c⟩ := h i hi
  exact ⟨gb, go, e, c 0 _ rfl, c 1 _ rfl, c 2 _ rfl⟩
theorem src_gs {w : World} {a : Option Addr} {l : List (Int × Int × Int)} (h : GsAt w a l) (c : Nat) : SrcAt w (.slice a l.length c) l.length 3 (l.flatMap gcell) := RowsAt.src (f := gcell) (n := 3) (fun _ => rfl) (by decide) (rows_gs h) c
theorem src_ps {w : World} {a : Option Addr} {l : List (Int × Int × Bool)} (h : PsAt w a l) (c : Nat) : SrcAt w (.slice a l.length c) l.length 3 (l.flatMap pcell) := RowsAt.src (f := pcell) (n := 3) (fun _ => rfl) (by decide) (rows_ps h) c
noncomputable def m27 : List Oper := regOf 27 moreCode
theorem ok27 : Ord.okD m27 = true := by kernel_rfl
noncomputable def t27 (n p4 : Nat) (b : Bn) (ga : Option Addr) (gc : Nat) (pa : Option Addr) (pc : Nat) (tm : Array Value) (w0 : World) : Ord.Tk where
  n0 := n
  F vals := Ord.Fr m27 tm vals
  ds := []
  H W := Below n w0 W
  rd i := match i with
    | 1 => some (.pointer (some ⟨p4, 4, none⟩))
    | 2 => some (.slice ga b.gs.length gc)
    | 5 => some (.pointer (some ⟨p4, 5, none⟩))
    | 6 => some (.slice pa b.ps.length pc)
    | _ => none
  use i := match i with
    | 3 => [0]
    | 7 => [4]
    | 8 => [3]
    | 9 => [7]
    | _ => []
  take i := match i with
    | 3 => [0]
    | 7 => [4]
    | 8 => [3]
    | 9 => [7]
    | _ => []
  T i v bs w := match i with
    | 0 => EmpT w n 49 v bs
    | 3 => OwnT w n 49 3 gcell b.gs v bs
    | 4 => EmpT w n 54 v bs
    | 7 => OwnT w n 54 3 pcell b.ps v bs
    | 8 => OwnT w n 49 3 gcell b.gs v bs
    | 9 => OwnT w n 54 3 pcell b.ps v bs
    | _ => bs = []
  init := []
theorem t27_stay {n p4 : Nat} {b : Bn} {ga : Option Addr} {gc : Nat} {pa : Option Addr} {pc : Nat} {tm : Array Value} {w0 : World} (i : Nat) (v : Value) (bs : List Nat) (w w' : World) (h : ∀ k ∈ bs, w'.heap[k]? = w.heap[k]?) (hT : (t27 n p4 b ga gc pa pc tm w0).T i v bs w) : (t27 n p4 b ga gc pa pc tm w0).T i v bs w' := by
  match i, hT with
  | 0, hT => exact EmpT.stay hT h
  | 1, hT => exact hT
  | 2, hT => exact hT
  | 3, hT => exact OwnT.stay hT h
  | 4, hT => exact EmpT.stay hT h
  | 5, hT => exact hT
  | 6, hT => exact hT
  | 7, hT => exact OwnT.stay hT h
  | 8, hT => exact OwnT.stay hT h
  | 9, hT => exact OwnT.stay hT h
  | n + 10, hT => exact hT
set_option maxHeartbeats 4000000 in
set_option maxRecDepth 100000 in
theorem more_r27 {b : Bn} {ga pa : Option Addr} {gc pc : Nat} {w : World} {tm : Array Value} (hsz : tm.size = 495) {p4 : Nat} (h4 : tm[4]? = some (.pointer (some ⟨p4, 0, none⟩))) (b4 : Blk w p4 (bcells b (.slice ga b.gs.length gc) (.slice pa b.ps.length pc)) 27) (hm : BnAt w b ga pa) (hl : b.gs.length ≤ 40 ∧ b.ps.length ≤ 40) {Q : Exit → Act → World → Prop}
    (hexit : ∀ (vals : Nat → Value) W, Below w.heap.size w W → OwnG W w.heap.size (vals 8) b.gs → OwnP W w.heap.size (vals 9) b.ps → Q .normal ⟨Ord.Fr m27 tm vals, []⟩ W) : (Code.region 27 m27.toArray true).wp Try.prog Q ⟨tm, []⟩ w := by
  obtain ⟨i0, hi0, hz0, hs0, hy0⟩ := info_of Try.info49
  obtain ⟨i1, hi1, hz1, hs1, hy1⟩ := info_of Try.info54
  obtain ⟨l1, l2⟩ := hl
  obtain ⟨n, hn⟩ : ∃ n, w.heap.size = n := ⟨_, rfl⟩
  have hp4 : p4 < n := by rw [← hn]; exact b4.lt
  refine Ord.wp_regionW (t27 n p4 b ga gc pa pc tm w) (by kernel_rfl) (by kernel_rfl) (by kernel_rfl) (by kernel_rfl) (by simp [t27]) t27_stay (Ord.valsO m27 tm) (fun _ => []) (Ord.Fr_start m27 tm []) (Below.refl _ _).drew (by simp [t27]) (by simp [t27]) ?_ ?_
  · intro j hj vals bs W hH hrd htok hdis R hRR
    have hF : ∀ vals, (t27 n p4 b ga gc pa pc tm w).F vals = Ord.Fr m27 tm vals := fun _ => rfl
    have hBw : Below n w W := hH
    have hnW : n ≤ W.heap.size := by have := hBw.size; omega
    have b4W := b4.below hBw (by omega)
    have r4 := b4W.cell
    have e4 : (Act.mk ((t27 n p4 b ga gc pa pc tm w).F vals) (t27 n p4 b ga gc pa pc tm w).ds).eval (.tmp 4) = .pointer (some ⟨p4, 0, none⟩) := Ord.Fr_old (by kernel_rfl) h4
    have hmW : BnAt W b ga pa := hm.below (by rw [hn]; exact hBw)
    have hj10 : j < 10 := hj
    rcases (show j = 0 ∨ j = 1 ∨ j = 2 ∨ j = 3 ∨ j = 4 ∨ j = 5 ∨ j = 6 ∨ j = 7 ∨ j = 8 ∨ j = 9 by omega) with rfl | rfl | rfl | rfl | rfl | rfl | rfl | rfl | rfl | rfl
    · refine st_sem ok27 hF rfl rfl (s := Instr.buildSlice 24 0 #[]) (v := .slice (some ⟨W.heap.size, 0, none⟩) 0 0) (w' := W.alloc (.cells #[] 49)) (by simp [execOp]) (by simp [Instr.buildSlice, run_underlying Try.underlying24, go_sem]) ?_
      exact hR_alloc hRR rfl (hBw.alloc (by omega) _) (by simp [t27]) ⟨_, rfl, by omega, rfl, Blk.new _ _ _⟩ (by show n ≤ _; omega)
    · refine st_sem ok27 hF rfl rfl (s := Instr.fieldAt 27 (.pointer (some ⟨p4, 0, none⟩)) 3) (v := .pointer (some ⟨p4, 4, none⟩)) (w' := W) (by rw [← e4]; rfl) (by first | (simp [go_sem]; done) | (simp [go_sem]; rfl)) ?_
      exact hR_read hRR rfl hH (by simp [t27]) rfl
    · have e1 := hrd 1 (by decide) (by kernel_rfl) _ rfl
      have ex : (Act.mk ((t27 n p4 b ga gc pa pc tm w).F vals) (t27 n p4 b ga gc pa pc tm w).ds).eval (.tmp 212) = .pointer (some ⟨p4, 4, none⟩) := (Ord.Fr_new (i := 1) (by kernel_rfl) (by omega)).trans e1
      refine st_sem ok27 hF rfl rfl (s := Instr.loadAt 24 (.pointer (some ⟨p4, 4, none⟩))) (v := .slice ga b.gs.length gc) (w' := W) (by rw [← ex]; rfl) (by simp [go_sem, r4]) ?_
      exact hR_read hRR rfl hH (by simp [t27]) rfl
    · have e2 := hrd 2 (by decide) (by kernel_rfl) _ rfl
      obtain ⟨⟨b0, eb, hb3, ev, bb⟩, _⟩ := htok 0 (by simp [t27])
      have es : (Act.mk ((t27 n p4 b ga gc pa pc tm w).F vals) (t27 n p4 b ga gc pa pc tm w).ds).eval (.tmp 211) = .slice (some ⟨b0, 0, none⟩) 0 0 := (Ord.Fr_new (i := 0) (by kernel_rfl) (by omega)).trans ev
      have ex : (Act.mk ((t27 n p4 b ga gc pa pc tm w).F vals) (t27 n p4 b ga gc pa pc tm w).ds).eval (.tmp 213) = .slice ga b.gs.length gc := (Ord.Fr_new (i := 2) (by kernel_rfl) (by omega)).trans e2
      refine st_append ok27 hF rfl rfl (ty := 24) rfl (n1 := n) (e := 49) Try.underlying24 hi0 hz0 hs0 hy0 rfl (by decide) es (own_empty bb hb3) ex (src_gs hmW.gs _) (gcell_one _) (by unfold maxLen; omega) (by omega) (by omega) hRR ?_ rfl ?_ ?_ (Nat.le_refl _)
      · intro w' hg; exact hBw.grown hg (by omega) (fun g e => by simp [Value.ownBlock] at e; omega)
      · intro v' w' ho
        simp only [Nat.zero_add, List.nil_append] at ho
        exact ⟨rfl, ho⟩
      · intro k hk
        exact ⟨0, by simp [t27], by simp [Value.ownBlock] at hk; subst hk; rw [eb]; simp⟩
    · refine st_sem ok27 hF rfl rfl (s := Instr.buildSlice 25 0 #[]) (v := .slice (some ⟨W.heap.size, 0, none⟩) 0 0) (w' := W.alloc (.cells #[] 54)) (by simp [execOp]) (by simp [Instr.buildSlice, run_underlying Try.underlying25, go_sem]) ?_
      exact hR_alloc hRR rfl (hBw.alloc (by omega) _) (by simp [t27]) ⟨_, rfl, by omega, rfl, Blk.new _ _ _⟩ (by show n ≤ _; omega)
    · refine st_sem ok27 hF rfl rfl (s := Instr.fieldAt 27 (.pointer (some ⟨p4, 0, none⟩)) 4) (v := .pointer (some ⟨p4, 5, none⟩)) (w' := W) (by rw [← e4]; rfl) (by first | (simp [go_sem]; done) | (simp [go_sem]; rfl)) ?_
      exact hR_read hRR rfl hH (by simp [t27]) rfl
    · have e1 := hrd 5 (by decide) (by kernel_rfl) _ rfl
      have ex : (Act.mk ((t27 n p4 b ga gc pa pc tm w).F vals) (t27 n p4 b ga gc pa pc tm w).ds).eval (.tmp 216) = .pointer (some ⟨p4, 5, none⟩) := (Ord.Fr_new (i := 5) (by kernel_rfl) (by omega)).trans e1
      refine st_sem ok27 hF rfl rfl (s := Instr.loadAt 25 (.pointer (some ⟨p4, 5, none⟩))) (v := .slice pa b.ps.length pc) (w' := W) (by rw [← ex]; rfl) (by simp [go_sem, r4]) ?_
      exact hR_read hRR rfl hH (by simp [t27]) rfl
    · have e2 := hrd 6 (by decide) (by kernel_rfl) _ rfl
      obtain ⟨⟨b0, eb, hb3, ev, bb⟩, _⟩ := htok 4 (by simp [t27])
      have es : (Act.mk ((t27 n p4 b ga gc pa pc tm w).F vals) (t27 n p4 b ga gc pa pc tm w).ds).eval (.tmp 215) = .slice (some ⟨b0, 0, none⟩) 0 0 := (Ord.Fr_new (i := 4) (by kernel_rfl) (by omega)).trans ev
      have ex : (Act.mk ((t27 n p4 b ga gc pa pc tm w).F vals) (t27 n p4 b ga gc pa pc tm w).ds).eval (.tmp 217) = .slice pa b.ps.length pc := (Ord.Fr_new (i := 6) (by kernel_rfl) (by omega)).trans e2
      refine st_append ok27 hF rfl rfl (ty := 25) rfl (n1 := n) (e := 54) Try.underlying25 hi1 hz1 hs1 hy1 rfl (by decide) es (own_empty bb hb3) ex (src_ps hmW.ps _) (pcell_one _) (by unfold maxLen; omega) (by omega) (by omega) hRR ?_ rfl ?_ ?_ (Nat.le_refl _)
      · intro w' hg; exact hBw.grown hg (by omega) (fun g e => by simp [Value.ownBlock] at e; omega)
      · intro v' w' ho
        simp only [Nat.zero_add, List.nil_append] at ho
        exact ⟨rfl, ho⟩
      · intro k hk
        exact ⟨4, by simp [t27], by simp [Value.ownBlock] at hk; subst hk; rw [eb]; simp⟩
    · obtain ⟨ht, hbt⟩ := htok 3 (by simp [t27])
      exact st_pass ok27 hF rfl rfl rfl (j := 3) (Ord.Fr_new (by kernel_rfl) (by omega)) (by simp [t27]) hbt hRR hH rfl ht
    · obtain ⟨ht, hbt⟩ := htok 7 (by simp [t27])
      exact st_pass ok27 hF rfl rfl rfl (j := 7) (Ord.Fr_new (by kernel_rfl) (by omega)) (by simp [t27]) hbt hRR hH rfl ht
  · intro vals bs W hH hrd htok hdis _
    have hfin : ∀ j, 8 ≤ j → j < 10 → (t27 n p4 b ga gc pa pc tm w).T j (vals j) (bs j) W := fun j h1 h2 => (htok j (.inr h2) (fun c hc => by
      have hc' : c < 10 := hc
      rcases (show c = 0 ∨ c = 1 ∨ c = 2 ∨ c = 3 ∨ c = 4 ∨ c = 5 ∨ c = 6 ∨ c = 7 ∨ c = 8 ∨ c = 9 by omega) with rfl | rfl | rfl | rfl | rfl | rfl | rfl | rfl | rfl | rfl <;> simp [t27] <;> omega)).1
    refine hexit vals W (by rw [hn]; exact hH) ?_ ?_
    · have h := hfin 8 (by omega) (by omega)
      rw [hn]
      exact OwnT.row h
    · have h := hfin 9 (by omega) (by omega)
      rw [hn]
      exact OwnT.row h
noncomputable def m3 : List Oper := regOf 3 moreCode
theorem ok3 : Ord.okD m3 = true := by kernel_rfl
noncomputable def t3 (n p4 : Nat) (b : Bn) (ga : Option Addr) (gc : Nat) (pa : Option Addr) (pc : Nat) (tm : Array Value) (w0 : World) : Ord.Tk where
  n0 := n
  F vals := Ord.Fr m3 tm vals
  ds := []
  H W := Below n w0 W
  rd i := match i with
    | 0 => some (.agg (bcells b (.slice ga b.gs.length gc) (.slice pa b.ps.length pc)))
    | 1 => some (.agg (bcells b (.slice ga b.gs.length gc) (.slice pa b.ps.length pc)))
    | 2 => some (.agg (bcells b (.slice ga b.gs.length gc) (.slice pa b.ps.length pc)))
    | 3 => some (.agg (bcells b (.slice ga b.gs.length gc) (.slice pa b.ps.length pc)))
    | 4 => some (.agg (bcells b (.slice ga b.gs.length gc) (.slice pa b.ps.length pc)))
    | _ => none
  use i := match i with
    | 10 => [5]
    | 11 => [6]
    | 12 => [7]
    | 13 => [8]
    | 14 => [9]
    | _ => []
  take i := match i with
    | 10 => [5]
    | 11 => [6]
    | 12 => [7]
    | 13 => [8]
    | 14 => [9]
    | _ => []
  T i v bs w := match i with
    | 5 => BoxT w n #[.int .i64 0, .int .i64 0, .int .i64 0, .int .i64 0, .slice none 0 0, .slice none 0 0] v bs
    | 6 => BoxT w n #[.int .i64 0, .int .i64 0, .int .i64 0, .int .i64 0, .slice none 0 0, .slice none 0 0] v bs
    | 7 => BoxT w n #[.int .i64 0, .int .i64 0, .int .i64 0, .int .i64 0, .slice none 0 0, .slice none 0 0] v bs
    | 8 => BoxT w n #[.int .i64 0, .int .i64 0, .int .i64 0, .int .i64 0, .slice none 0 0, .slice none 0 0] v bs
    | 9 => BoxT w n #[.int .i64 0, .int .i64 0, .int .i64 0, .int .i64 0, .slice none 0 0, .slice none 0 0] v bs
    | 10 => BoxT w n (bcells b (.slice ga b.gs.length gc) (.slice pa b.ps.length pc)) v bs
    | 11 => BoxT w n (bcells b (.slice ga b.gs.length gc) (.slice pa b.ps.length pc)) v bs
    | 12 => BoxT w n (bcells b (.slice ga b.gs.length gc) (.slice pa b.ps.length pc)) v bs
    | 13 => BoxT w n (bcells b (.slice ga b.gs.length gc) (.slice pa b.ps.length pc)) v bs
    | 14 => BoxT w n (bcells b (.slice ga b.gs.length gc) (.slice pa b.ps.length pc)) v bs
    | _ => bs = []
  init := []
  lk i := match i with
    | 10 => some 5
    | 11 => some 6
    | 12 => some 7
    | 13 => some 8
    | 14 => some 9
    | _ => none
theorem t3_stay {n p4 : Nat} {b : Bn} {ga : Option Addr} {gc : Nat} {pa : Option Addr} {pc : Nat} {tm : Array Value} {w0 : World} (i : Nat) (v : Value) (bs : List Nat) (w w' : World) (h : ∀ k ∈ bs, w'.heap[k]? = w.heap[k]?) (hT : (t3 n p4 b ga gc pa pc tm w0).T i v bs w) : (t3 n p4 b ga gc pa pc tm w0).T i v bs w' := by
  match i, hT with
  | 0, hT => exact hT
  | 1, hT => exact hT
  | 2, hT => exact hT
  | 3, hT => exact hT
  | 4, hT => exact hT
  | 5, hT => exact BoxT.stay hT h
  | 6, hT => exact BoxT.stay hT h
  | 7, hT => exact BoxT.stay hT h
  | 8, hT => exact BoxT.stay hT h
  | 9, hT => exact BoxT.stay hT h
  | 10, hT => exact BoxT.stay hT h
  | 11, hT => exact BoxT.stay hT h
  | 12, hT => exact BoxT.stay hT h
  | 13, hT => exact BoxT.stay hT h
  | 14, hT => exact BoxT.stay hT h
  | n + 15, hT => exact hT
set_option maxHeartbeats 4000000 in
set_option maxRecDepth 100000 in
theorem more_r3 {b : Bn} {ga pa : Option Addr} {gc pc : Nat} {w : World} {tm : Array Value} (hsz : tm.size = 495) {p4 : Nat} (h4 : tm[4]? = some (.pointer (some ⟨p4, 0, none⟩))) (b4 : Blk w p4 (bcells b (.slice ga b.gs.length gc) (.slice pa b.ps.length pc)) 27) {Q : Exit → Act → World → Prop}
    (hexit : ∀ (vals : Nat → Value) W p9 p10 p11 p12 p13, Below w.heap.size w W → vals 5 = .pointer (some ⟨p9, 0, none⟩) → vals 6 = .pointer (some ⟨p10, 0, none⟩) → vals 7 = .pointer (some ⟨p11, 0, none⟩) → vals 8 = .pointer (some ⟨p12, 0, none⟩) → vals 9 = .pointer (some ⟨p13, 0, none⟩) →
      Blk W p9 (bcells b (.slice ga b.gs.length gc) (.slice pa b.ps.length pc)) 27 → Blk W p10 (bcells b (.slice ga b.gs.length gc) (.slice pa b.ps.length pc)) 27 → Blk W p11 (bcells b (.slice ga b.gs.length gc) (.slice pa b.ps.length pc)) 27 → Blk W p12 (bcells b (.slice ga b.gs.length gc) (.slice pa b.ps.length pc)) 27 → Blk W p13 (bcells b (.slice ga b.gs.length gc) (.slice pa b.ps.length pc)) 27 → [p9, p10, p11, p12, p13].Nodup → (∀ k ∈ [p9, p10, p11, p12, p13], w.heap.size ≤ k) → Q .normal ⟨Ord.Fr m3 tm vals, []⟩ W) : (Code.region 3 m3.toArray true).wp Try.prog Q ⟨tm, []⟩ w := by
  obtain ⟨n, hn⟩ : ∃ n, w.heap.size = n := ⟨_, rfl⟩
  have hp4 : p4 < n := by rw [← hn]; exact b4.lt
  refine Ord.wp_regionW (t3 n p4 b ga gc pa pc tm w) (by kernel_rfl) (by kernel_rfl) (by kernel_rfl) (by kernel_rfl) (by simp [t3]) t3_stay (Ord.valsO m3 tm) (fun _ => []) (Ord.Fr_start m3 tm []) (Below.refl _ _).drew (by simp [t3]) (by simp [t3]) ?_ ?_
  · intro j hj vals bs W hH hrd htok hdis R hRR
    have hF : ∀ vals, (t3 n p4 b ga gc pa pc tm w).F vals = Ord.Fr m3 tm vals := fun _ => rfl
    have hBw : Below n w W := hH
    have hnW : n ≤ W.heap.size := by have := hBw.size; omega
    have b4W := b4.below hBw (by omega)
    have e4 : (Act.mk ((t3 n p4 b ga gc pa pc tm w).F vals) (t3 n p4 b ga gc pa pc tm w).ds).eval (.tmp 4) = .pointer (some ⟨p4, 0, none⟩) := Ord.Fr_old (by kernel_rfl) h4
    have hj15 : j < 15 := hj
    have hst : ∀ (i : Nat) (k : Nat) (v : Value) (b0 : Nat) (C : Array Value) (w' : World), (t3 n p4 b ga gc pa pc tm w).take i = [k] → bs k = [b0] → n ≤ b0 → b0 < W.heap.size → (t3 n p4 b ga gc pa pc tm w).rd i = none → (∀ j, (t3 n p4 b ga gc pa pc tm w).lk i = some j → v = vals j) → Rowed W b0 C 27 w' → (t3 n p4 b ga gc pa pc tm w).T i v [b0] w' → (t3 n p4 b ga gc pa pc tm w).Step i vals bs W ⟨(t3 n p4 b ga gc pa pc tm w).F (Ord.setV vals i v), (t3 n p4 b ga gc pa pc tm w).ds⟩ w' := fun i k v b0 C w' htk hbk hnb hbW hrdi hlki hr hT =>
      ⟨v, [b0], rfl, hr.below hBw hnb, (fun u hu => absurd (hrdi.symm.trans hu) (by simp)), hT, (fun k' hk' => by simp at hk'; subst hk'; exact ⟨hnb, by rw [hr.size]; exact hbW, .inr ⟨k, by rw [htk]; simp, by rw [hbk]; simp⟩⟩), by rw [hr.size]; exact Nat.le_refl _, (fun k' hk' hn' => hr.heap k' (fun e => hn' k (by rw [htk]; simp) (by rw [hbk, e]; simp))), hlki⟩
    rcases (show j = 0 ∨ j = 1 ∨ j = 2 ∨ j = 3 ∨ j = 4 ∨ j = 5 ∨ j = 6 ∨ j = 7 ∨ j = 8 ∨ j = 9 ∨ j = 10 ∨ j = 11 ∨ j = 12 ∨ j = 13 ∨ j = 14 by omega) with rfl | rfl | rfl | rfl | rfl | rfl | rfl | rfl | rfl | rfl | rfl | rfl | rfl | rfl | rfl
    · refine st_sem ok3 hF rfl rfl (s := Instr.loadAt 27 (.pointer (some ⟨p4, 0, none⟩))) (v := .agg (bcells b (.slice ga b.gs.length gc) (.slice pa b.ps.length pc))) (w' := W) (by rw [← e4]; rfl) (loadVar_blk agg_bean b4W rfl) ?_
      exact hR_read hRR rfl hH (by simp [t3]) rfl
    · refine st_sem ok3 hF rfl rfl (s := Instr.loadAt 27 (.pointer (some ⟨p4, 0, none⟩))) (v := .agg (bcells b (.slice ga b.gs.length gc) (.slice pa b.ps.length pc))) (w' := W) (by rw [← e4]; rfl) (loadVar_blk agg_bean b4W rfl) ?_
      exact hR_read hRR rfl hH (by simp [t3]) rfl
    · refine st_sem ok3 hF rfl rfl (s := Instr.loadAt 27 (.pointer (some ⟨p4, 0, none⟩))) (v := .agg (bcells b (.slice ga b.gs.length gc) (.slice pa b.ps.length pc))) (w' := W) (by rw [← e4]; rfl) (loadVar_blk agg_bean b4W rfl) ?_
      exact hR_read hRR rfl hH (by simp [t3]) rfl
    · refine st_sem ok3 hF rfl rfl (s := Instr.loadAt 27 (.pointer (some ⟨p4, 0, none⟩))) (v := .agg (bcells b (.slice ga b.gs.length gc) (.slice pa b.ps.length pc))) (w' := W) (by rw [← e4]; rfl) (loadVar_blk agg_bean b4W rfl) ?_
      exact hR_read hRR rfl hH (by simp [t3]) rfl
    · refine st_sem ok3 hF rfl rfl (s := Instr.loadAt 27 (.pointer (some ⟨p4, 0, none⟩))) (v := .agg (bcells b (.slice ga b.gs.length gc) (.slice pa b.ps.length pc))) (w' := W) (by rw [← e4]; rfl) (loadVar_blk agg_bean b4W rfl) ?_
      exact hR_read hRR rfl hH (by simp [t3]) rfl
    · refine st_sem ok3 hF rfl rfl (s := Instr.alloc 27 true (.tuple #[])) (v := .pointer (some ⟨W.heap.size, 0, none⟩)) (w' := W.alloc (.cells #[.int .i64 0, .int .i64 0, .int .i64 0, .int .i64 0, .slice none 0 0, .slice none 0 0] 27)) rfl (by simp [go_sem]) ?_
      exact hR_alloc hRR rfl (hBw.alloc (by omega) _) (by simp [t3]) ⟨_, rfl, rfl, by omega, Blk.new _ _ _⟩ (by show n ≤ _; omega)
    · refine st_sem ok3 hF rfl rfl (s := Instr.alloc 27 true (.tuple #[])) (v := .pointer (some ⟨W.heap.size, 0, none⟩)) (w' := W.alloc (.cells #[.int .i64 0, .int .i64 0, .int .i64 0, .int .i64 0, .slice none 0 0, .slice none 0 0] 27)) rfl (by simp [go_sem]) ?_
      exact hR_alloc hRR rfl (hBw.alloc (by omega) _) (by simp [t3]) ⟨_, rfl, rfl, by omega, Blk.new _ _ _⟩ (by show n ≤ _; omega)
    · refine st_sem ok3 hF rfl rfl (s := Instr.alloc 27 true (.tuple #[])) (v := .pointer (some ⟨W.heap.size, 0, none⟩)) (w' := W.alloc (.cells #[.int .i64 0, .int .i64 0, .int .i64 0, .int .i64 0, .slice none 0 0, .slice none 0 0] 27)) rfl (by simp [go_sem]) ?_
      exact hR_alloc hRR rfl (hBw.alloc (by omega) _) (by simp [t3]) ⟨_, rfl, rfl, by omega, Blk.new _ _ _⟩ (by show n ≤ _; omega)
    · refine st_sem ok3 hF rfl rfl (s := Instr.alloc 27 true (.tuple #[])) (v := .pointer (some ⟨W.heap.size, 0, none⟩)) (w' := W.alloc (.cells #[.int .i64 0, .int .i64 0, .int .i64 0, .int .i64 0, .slice none 0 0, .slice none 0 0] 27)) rfl (by simp [go_sem]) ?_
      exact hR_alloc hRR rfl (hBw.alloc (by omega) _) (by simp [t3]) ⟨_, rfl, rfl, by omega, Blk.new _ _ _⟩ (by show n ≤ _; omega)
    · refine st_sem ok3 hF rfl rfl (s := Instr.alloc 27 true (.tuple #[])) (v := .pointer (some ⟨W.heap.size, 0, none⟩)) (w' := W.alloc (.cells #[.int .i64 0, .int .i64 0, .int .i64 0, .int .i64 0, .slice none 0 0, .slice none 0 0] 27)) rfl (by simp [go_sem]) ?_
      exact hR_alloc hRR rfl (hBw.alloc (by omega) _) (by simp [t3]) ⟨_, rfl, rfl, by omega, Blk.new _ _ _⟩ (by show n ≤ _; omega)
    · have e1 := hrd 0 (by decide) (by kernel_rfl) _ rfl
      obtain ⟨⟨b0, ev, eb, hnb, hbb⟩, hlb⟩ := htok 5 (by simp [t3])
      have hlb := (hlb b0 (by rw [eb]; simp)).2
      have ex : (Act.mk ((t3 n p4 b ga gc pa pc tm w).F vals) (t3 n p4 b ga gc pa pc tm w).ds).eval (.tmp 9) = .pointer (some ⟨b0, 0, none⟩) := (Ord.Fr_new (i := 5) (by kernel_rfl) (by omega)).trans ev
      have ey : (Act.mk ((t3 n p4 b ga gc pa pc tm w).F vals) (t3 n p4 b ga gc pa pc tm w).ds).eval (.tmp 60) = .agg (bcells b (.slice ga b.gs.length gc) (.slice pa b.ps.length pc)) := (Ord.Fr_new (i := 0) (by kernel_rfl) (by omega)).trans e1
      refine st_store ok3 hF rfl rfl agg_bean rfl rfl ex ey hbb rfl rfl (by simp [Value.oneCell']) (fun _ _ _ _ => trivial) (vals 5) fun w' hr => ?_
      exact hRR _ _ (hst 10 5 (vals 5) b0 _ w' rfl eb hnb hlb rfl (fun j e => by simp [t3] at e; rw [← e]) hr ⟨b0, ev, rfl, hnb, hr.blk⟩)
    · have e1 := hrd 1 (by decide) (by kernel_rfl) _ rfl
      obtain ⟨⟨b0, ev, eb, hnb, hbb⟩, hlb⟩ := htok 6 (by simp [t3])
      have hlb := (hlb b0 (by rw [eb]; simp)).2
      have ex : (Act.mk ((t3 n p4 b ga gc pa pc tm w).F vals) (t3 n p4 b ga gc pa pc tm w).ds).eval (.tmp 10) = .pointer (some ⟨b0, 0, none⟩) := (Ord.Fr_new (i := 6) (by kernel_rfl) (by omega)).trans ev
      have ey : (Act.mk ((t3 n p4 b ga gc pa pc tm w).F vals) (t3 n p4 b ga gc pa pc tm w).ds).eval (.tmp 61) = .agg (bcells b (.slice ga b.gs.length gc) (.slice pa b.ps.length pc)) := (Ord.Fr_new (i := 1) (by kernel_rfl) (by omega)).trans e1
      refine st_store ok3 hF rfl rfl agg_bean rfl rfl ex ey hbb rfl rfl (by simp [Value.oneCell']) (fun _ _ _ _ => trivial) (vals 6) fun w' hr => ?_
      exact hRR _ _ (hst 11 6 (vals 6) b0 _ w' rfl eb hnb hlb rfl (fun j e => by simp [t3] at e; rw [← e]) hr ⟨b0, ev, rfl, hnb, hr.blk⟩)
    · have e1 := hrd 2 (by decide) (by kernel_rfl) _ rfl
      obtain ⟨⟨b0, ev, eb, hnb, hbb⟩, hlb⟩ := htok 7 (by simp [t3])
      have hlb := (hlb b0 (by rw [eb]; simp)).2
      have ex : (Act.mk ((t3 n p4 b ga gc pa pc tm w).F vals) (t3 n p4 b ga gc pa pc tm w).ds).eval (.tmp 11) = .pointer (some ⟨b0, 0, none⟩) := (Ord.Fr_new (i := 7) (by kernel_rfl) (by omega)).trans ev
      have ey : (Act.mk ((t3 n p4 b ga gc pa pc tm w).F vals) (t3 n p4 b ga gc pa pc tm w).ds).eval (.tmp 62) = .agg (bcells b (.slice ga b.gs.length gc) (.slice pa b.ps.length pc)) := (Ord.Fr_new (i := 2) (by kernel_rfl) (by omega)).trans e1
      refine st_store ok3 hF rfl rfl agg_bean rfl rfl ex ey hbb rfl rfl (by simp [Value.oneCell']) (fun _ _ _ _ => trivial) (vals 7) fun w' hr => ?_
      exact hRR _ _ (hst 12 7 (vals 7) b0 _ w' rfl eb hnb hlb rfl (fun j e => by simp [t3] at e; rw [← e]) hr ⟨b0, ev, rfl, hnb, hr.blk⟩)
    · have e1 := hrd 3 (by decide) (by kernel_rfl) _ rfl
      obtain ⟨⟨b0, ev, eb, hnb, hbb⟩, hlb⟩ := htok 8 (by simp [t3])
      have hlb := (hlb b0 (by rw [eb]; simp)).2
      have ex : (Act.mk ((t3 n p4 b ga gc pa pc tm w).F vals) (t3 n p4 b ga gc pa pc tm w).ds).eval (.tmp 12) = .pointer (some ⟨b0, 0, none⟩) := (Ord.Fr_new (i := 8) (by kernel_rfl) (by omega)).trans ev
      have ey : (Act.mk ((t3 n p4 b ga gc pa pc tm w).F vals) (t3 n p4 b ga gc pa pc tm w).ds).eval (.tmp 63) = .agg (bcells b (.slice ga b.gs.length gc) (.slice pa b.ps.length pc)) := (Ord.Fr_new (i := 3) (by kernel_rfl) (by omega)).trans e1
      refine st_store ok3 hF rfl rfl agg_bean rfl rfl ex ey hbb rfl rfl (by simp [Value.oneCell']) (fun _ _ _ _ => trivial) (vals 8) fun w' hr => ?_
      exact hRR _ _ (hst 13 8 (vals 8) b0 _ w' rfl eb hnb hlb rfl (fun j e => by simp [t3] at e; rw [← e]) hr ⟨b0, ev, rfl, hnb, hr.blk⟩)
    · have e1 := hrd 4 (by decide) (by kernel_rfl) _ rfl
      obtain ⟨⟨b0, ev, eb, hnb, hbb⟩, hlb⟩ := htok 9 (by simp [t3])
      have hlb := (hlb b0 (by rw [eb]; simp)).2
      have ex : (Act.mk ((t3 n p4 b ga gc pa pc tm w).F vals) (t3 n p4 b ga gc pa pc tm w).ds).eval (.tmp 13) = .pointer (some ⟨b0, 0, none⟩) := (Ord.Fr_new (i := 9) (by kernel_rfl) (by omega)).trans ev
      have ey : (Act.mk ((t3 n p4 b ga gc pa pc tm w).F vals) (t3 n p4 b ga gc pa pc tm w).ds).eval (.tmp 64) = .agg (bcells b (.slice ga b.gs.length gc) (.slice pa b.ps.length pc)) := (Ord.Fr_new (i := 4) (by kernel_rfl) (by omega)).trans e1
      refine st_store ok3 hF rfl rfl agg_bean rfl rfl ex ey hbb rfl rfl (by simp [Value.oneCell']) (fun _ _ _ _ => trivial) (vals 9) fun w' hr => ?_
      exact hRR _ _ (hst 14 9 (vals 9) b0 _ w' rfl eb hnb hlb rfl (fun j e => by simp [t3] at e; rw [← e]) hr ⟨b0, ev, rfl, hnb, hr.blk⟩)
  · intro vals bs W hH hrd htok hdis hlk
    have hsurv : ∀ j, 10 ≤ j → j < 15 → ∀ c, c < m3.length → j ∉ (t3 n p4 b ga gc pa pc tm w).take c := fun j h1 h2 c hc => by
      have hc' : c < 15 := hc
      rcases (show c = 0 ∨ c = 1 ∨ c = 2 ∨ c = 3 ∨ c = 4 ∨ c = 5 ∨ c = 6 ∨ c = 7 ∨ c = 8 ∨ c = 9 ∨ c = 10 ∨ c = 11 ∨ c = 12 ∨ c = 13 ∨ c = 14 by omega) with rfl | rfl | rfl | rfl | rfl | rfl | rfl | rfl | rfl | rfl | rfl | rfl | rfl | rfl | rfl <;> simp [t3] <;> omega
    have hfin : ∀ j, 10 ≤ j → j < 15 → (t3 n p4 b ga gc pa pc tm w).T j (vals j) (bs j) W ∧ ∀ k ∈ bs j, n ≤ k ∧ k < W.heap.size := fun j h1 h2 => htok j (.inr h2) (hsurv j h1 h2)
    have hdd : ∀ i j, 10 ≤ i → i < 15 → 10 ≤ j → j < 15 → i ≠ j → ∀ k ∈ bs i, k ∉ bs j := fun i j h1 h2 h3 h4 h5 => hdis i j (.inr h2) (hsurv i h1 h2) (.inr h4) (hsurv j h3 h4) h5
    obtain ⟨p9, v10, e10, g9, B9⟩ := (hfin 10 (by omega) (by omega)).1
    have q10 := hlk 10 (by decide) 5 rfl
    obtain ⟨p10, v11, e11, g10, B10⟩ := (hfin 11 (by omega) (by omega)).1
    have q11 := hlk 11 (by decide) 6 rfl
    obtain ⟨p11, v12, e12, g11, B11⟩ := (hfin 12 (by omega) (by omega)).1
    have q12 := hlk 12 (by decide) 7 rfl
    obtain ⟨p12, v13, e13, g12, B12⟩ := (hfin 13 (by omega) (by omega)).1
    have q13 := hlk 13 (by decide) 8 rfl
    obtain ⟨p13, v14, e14, g13, B13⟩ := (hfin 14 (by omega) (by omega)).1
    have q14 := hlk 14 (by decide) 9 rfl
    have d0 := hdd 10 11 (by omega) (by omega) (by omega) (by omega) (by omega) p9 (by rw [e10]; simp)
    rw [e11] at d0
    have d1 := hdd 10 12 (by omega) (by omega) (by omega) (by omega) (by omega) p9 (by rw [e10]; simp)
    rw [e12] at d1
    have d2 := hdd 10 13 (by omega) (by omega) (by omega) (by omega) (by omega) p9 (by rw [e10]; simp)
    rw [e13] at d2
    have d3 := hdd 10 14 (by omega) (by omega) (by omega) (by omega) (by omega) p9 (by rw [e10]; simp)
    rw [e14] at d3
    have d4 := hdd 11 12 (by omega) (by omega) (by omega) (by omega) (by omega) p10 (by rw [e11]; simp)
    rw [e12] at d4
    have d5 := hdd 11 13 (by omega) (by omega) (by omega) (by omega) (by omega) p10 (by rw [e11]; simp)
    rw [e13] at d5
    have d6 := hdd 11 14 (by omega) (by omega) (by omega) (by omega) (by omega) p10 (by rw [e11]; simp)
    rw [e14] at d6
    have d7 := hdd 12 13 (by omega) (by omega) (by omega) (by omega) (by omega) p11 (by rw [e12]; simp)
    rw [e13] at d7
    have d8 := hdd 12 14 (by omega) (by omega) (by omega) (by omega) (by omega) p11 (by rw [e12]; simp)
    rw [e14] at d8
    have d9 := hdd 13 14 (by omega) (by omega) (by omega) (by omega) (by omega) p12 (by rw [e13]; simp)
    rw [e14] at d9
    simp only [List.mem_cons, List.not_mem_nil, or_false] at d0 d1 d2 d3 d4 d5 d6 d7 d8 d9
    rw [hn] at hexit
    refine hexit vals W p9 p10 p11 p12 p13 hH (q10.symm.trans v10) (q11.symm.trans v11) (q12.symm.trans v12) (q13.symm.trans v13) (q14.symm.trans v14) B9 B10 B11 B12 B13 ?_ ?_
    · simp only [List.nodup_cons, List.mem_cons, List.not_mem_nil, or_false, not_or, List.nodup_nil, and_true, not_false_eq_true]
      refine ⟨⟨?_, ?_, ?_, ?_⟩, ⟨?_, ?_, ?_⟩, ⟨?_, ?_⟩, ?_⟩ <;> assumption
    · intro k hk
      simp only [List.mem_cons, List.not_mem_nil, or_false] at hk
      rcases hk with rfl | rfl | rfl | rfl | rfl <;> assumption
noncomputable def m4 : List Oper := regOf 4 moreCode
theorem ok4 : Ord.okD m4 = true := by kernel_rfl
def X9 (w : World) (n p9 : Nat) (b : Bn) (l : List (Int × Int × Int)) (pv : Value) (u : Value) (bu : List Nat) : Prop := Blk w p9 (bcells b u pv) 27 ∧ OwnT w n 49 3 gcell l u bu
def X10 (w : World) (n p10 : Nat) (b : Bn) (l : List (Int × Int × Bool)) (gv : Value) (u : Value) (bu : List Nat) : Prop := Blk w p10 (bcells b gv u) 27 ∧ OwnT w n 54 3 pcell l u bu
noncomputable def t4 (z n p4 p5 p6 p9 p10 p11 : Nat) (b : Bn) (g : Int × Int × Int) (p : Int × Int × Bool) (ga : Option Addr) (gc : Nat) (pa : Option Addr) (pc : Nat) (B : List Nat) (K : World → Prop) (tm : Array Value) (w0 : World) : Ord.Tk where
  n0 := z
  F vals := Ord.Fr m4 tm vals
  ds := []
  H W := Below z w0 W
  rd i := match i with
    | 1 => some (.pointer (some ⟨p4, 4, none⟩))
    | 2 => some (.slice ga b.gs.length gc)
    | 4 => some (.agg #[.int .i64 g.1, .int .i64 g.2.1, .int .i64 g.2.2])
    | 8 => some (.pointer (some ⟨p4, 5, none⟩))
    | 9 => some (.slice pa b.ps.length pc)
    | 11 => some (.agg #[.int .i64 p.1, .int .i64 p.2.1, .bool p.2.2])
    | 15 => some (.pointer (some ⟨p4, 4, none⟩))
    | 16 => some (.slice ga b.gs.length gc)
    | 18 => some (.pointer (some ⟨p9, 4, none⟩))
    | 20 => some (.pointer (some ⟨p10, 5, none⟩))
    | 22 => some (.pointer (some ⟨p11, 4, none⟩))
    | _ => none
  use i := match i with
    | 3 => [0]
    | 6 => [3, 5]
    | 10 => [7]
    | 13 => [10, 12]
    | 17 => [14]
    | 19 => [24, 6]
    | 21 => [25, 13]
    | 23 => [26, 17]
    | _ => []
  take i := match i with
    | 3 => [0]
    | 6 => [3]
    | 10 => [7]
    | 13 => [10]
    | 17 => [14]
    | 19 => [24, 6]
    | 21 => [25, 13]
    | 23 => [26, 17]
    | _ => []
  T i v bs w := match i with
    | 0 => EmpT w n 49 v bs
    | 3 => OwnT w n 49 3 gcell b.gs v bs
    | 5 => OneT w n 49 #[.int .i64 g.1, .int .i64 g.2.1, .int .i64 g.2.2] v bs
    | 6 => OwnT w n 49 3 gcell (b.gs ++ [g]) v bs
    | 7 => EmpT w n 54 v bs
    | 10 => OwnT w n 54 3 pcell b.ps v bs
    | 12 => OneT w n 54 #[.int .i64 p.1, .int .i64 p.2.1, .bool p.2.2] v bs
    | 13 => OwnT w n 54 3 pcell (b.ps ++ [p]) v bs
    | 14 => EmpT w n 49 v bs
    | 17 => OwnT w n 49 3 gcell b.gs v bs
    | 19 => ∃ u bu, bs = p9 :: bu ∧ X9 w n p9 b (b.gs ++ [g]) (.slice pa b.ps.length pc) u bu
    | 21 => ∃ u bu, bs = p10 :: bu ∧ X10 w n p10 b (b.ps ++ [p]) (.slice ga b.gs.length gc) u bu
    | 23 => ∃ u bu, bs = p11 :: bu ∧ X9 w n p11 b b.gs (.slice pa b.ps.length pc) u bu
    | 24 => bs = [p9] ∧ Blk w p9 (bcells b (.slice ga b.gs.length gc) (.slice pa b.ps.length pc)) 27
    | 25 => bs = [p10] ∧ Blk w p10 (bcells b (.slice ga b.gs.length gc) (.slice pa b.ps.length pc)) 27
    | 26 => bs = [p11] ∧ Blk w p11 (bcells b (.slice ga b.gs.length gc) (.slice pa b.ps.length pc)) 27
    | 27 => bs = B ∧ K w
    | _ => bs = []
  init := [24, 25, 26, 27]
theorem t4_stay {z n p4 p5 p6 p9 p10 p11 : Nat} {b : Bn} {g : Int × Int × Int} {p : Int × Int × Bool} {ga : Option Addr} {gc : Nat} {pa : Option Addr} {pc : Nat} {B : List Nat} {K : World → Prop} {tm : Array Value} {w0 : World} (hK : ∀ w w', (∀ k ∈ B, w'.heap[k]? = w.heap[k]?) → K w → K w') (i : Nat) (v : Value) (bs : List Nat) (w w' : World) (h : ∀ k ∈ bs, w'.heap[k]? = w.heap[k]?) (hT : (t4 z n p4 p5 p6 p9 p10 p11 b g p ga gc pa pc B K tm w0).T i v bs w) : (t4 z n p4 p5 p6 p9 p10 p11 b g p ga gc pa pc B K tm w0).T i v bs w' := by
  match i, hT with
  | 0, hT => exact EmpT.stay hT h
  | 1, hT => exact hT
  | 2, hT => exact hT
  | 3, hT => exact OwnT.stay hT h
  | 4, hT => exact hT
  | 5, hT => exact OneT.stay hT h
  | 6, hT => exact OwnT.stay hT h
  | 7, hT => exact EmpT.stay hT h
  | 8, hT => exact hT
  | 9, hT => exact hT
  | 10, hT => exact OwnT.stay hT h
  | 11, hT => exact hT
  | 12, hT => exact OneT.stay hT h
  | 13, hT => exact OwnT.stay hT h
  | 14, hT => exact EmpT.stay hT h
  | 15, hT => exact hT
  | 16, hT => exact hT
  | 17, hT => exact OwnT.stay hT h
  | 18, hT => exact hT
  | 19, ⟨u, bu, e, h1, h2⟩ => exact ⟨u, bu, e, (h p9 (by simp [e])).trans h1, h2.stay fun k hk => h k (by simp [e, hk])⟩
  | 20, hT => exact hT
  | 21, ⟨u, bu, e, h1, h2⟩ => exact ⟨u, bu, e, (h p10 (by simp [e])).trans h1, h2.stay fun k hk => h k (by simp [e, hk])⟩
  | 22, hT => exact hT
  | 23, ⟨u, bu, e, h1, h2⟩ => exact ⟨u, bu, e, (h p11 (by simp [e])).trans h1, h2.stay fun k hk => h k (by simp [e, hk])⟩
  | 24, ⟨e, h1⟩ => exact ⟨e, (h p9 (by simp [e])).trans h1⟩
  | 25, ⟨e, h1⟩ => exact ⟨e, (h p10 (by simp [e])).trans h1⟩
  | 26, ⟨e, h1⟩ => exact ⟨e, (h p11 (by simp [e])).trans h1⟩
  | 27, ⟨e, h1⟩ => exact ⟨e, hK w w' (fun k hk => h k (by rw [e]; exact hk)) h1⟩
  | n + 28, hT => exact hT
set_option maxHeartbeats 4000000 in
set_option maxRecDepth 100000 in
theorem more_r4 {b : Bn} {g : Int × Int × Int} {p : Int × Int × Bool} {ga pa : Option Addr} {gc pc : Nat} {w : World} {tm : Array Value} (hsz : tm.size = 495) {z p4 p5 p6 p9 p10 p11 : Nat} {B : List Nat} {K : World → Prop} (h4 : tm[4]? = some (.pointer (some ⟨p4, 0, none⟩))) (h5 : tm[5]? = some (.pointer (some ⟨p5, 0, none⟩))) (h6 : tm[6]? = some (.pointer (some ⟨p6, 0, none⟩))) (h9 : tm[9]? = some (.pointer (some ⟨p9, 0, none⟩))) (h10 : tm[10]? = some (.pointer (some ⟨p10, 0, none⟩))) (h11 : tm[11]? = some (.pointer (some ⟨p11, 0, none⟩)))
    (b4 : Blk w p4 (bcells b (.slice ga b.gs.length gc) (.slice pa b.ps.length pc)) 27) (b5 : Blk w p5 #[.int .i64 g.1, .int .i64 g.2.1, .int .i64 g.2.2] 49) (b6 : Blk w p6 #[.int .i64 p.1, .int .i64 p.2.1, .bool p.2.2] 54) (hp4 : p4 < z) (hp5 : p5 < z) (hp6 : p6 < z) (b9 : Blk w p9 (bcells b (.slice ga b.gs.length gc) (.slice pa b.ps.length pc)) 27) (b10 : Blk w p10 (bcells b (.slice ga b.gs.length gc) (.slice pa b.ps.length pc)) 27) (b11 : Blk w p11 (bcells b (.slice ga b.gs.length gc) (.slice pa b.ps.length pc)) 27) (hz9 : z ≤ p9) (hz10 : z ≤ p10) (hz11 : z ≤ p11)
    (hm : ∀ W, Below z w W → BnAt W b ga pa) (hl : b.gs.length ≤ 40 ∧ b.ps.length ≤ 40) (hK : ∀ w w', (∀ k ∈ B, w'.heap[k]? = w.heap[k]?) → K w → K w') (hKw : K w) (hdw : ∀ w, K w → K w.drew) (hB : ∀ k ∈ B, z ≤ k ∧ k < w.heap.size) (hne : p9 ≠ p10 ∧ p9 ≠ p11 ∧ p10 ≠ p11) (hB9 : p9 ∉ B ∧ p10 ∉ B ∧ p11 ∉ B) {Q : Exit → Act → World → Prop}
    (hexit : ∀ (vals : Nat → Value) W u9 b9 u10 b10 u11 b11, Below z w W → X9 W w.heap.size p9 b (b.gs ++ [g]) (.slice pa b.ps.length pc) u9 b9 → X10 W w.heap.size p10 b (b.ps ++ [p]) (.slice ga b.gs.length gc) u10 b10 → X9 W w.heap.size p11 b b.gs (.slice pa b.ps.length pc) u11 b11 → K W → (∀ k ∈ p9 :: b9, k ∉ p10 :: b10 ∧ k ∉ p11 :: b11) → (∀ k ∈ p10 :: b10, k ∉ p11 :: b11) → (∀ k ∈ B, k ∉ p9 :: b9 ∧ k ∉ p10 :: b10 ∧ k ∉ p11 :: b11) → Q .normal ⟨Ord.Fr m4 tm vals, []⟩ W) : (Code.region 4 m4.toArray true).wp Try.prog Q ⟨tm, []⟩ w := by
  obtain ⟨i0, hi0, hz0, hs0, hy0⟩ := info_of Try.info49
  obtain ⟨i1, hi1, hz1, hs1, hy1⟩ := info_of Try.info54
  obtain ⟨l1, l2⟩ := hl
  obtain ⟨n, hn⟩ : ∃ n, w.heap.size = n := ⟨_, rfl⟩
  have hl9 : p9 < n := by rw [← hn]; exact b9.lt
  have hl10 : p10 < n := by rw [← hn]; exact b10.lt
  have hl11 : p11 < n := by rw [← hn]; exact b11.lt
  rw [hn] at hexit hB
  refine Ord.wp_regionW (t4 z n p4 p5 p6 p9 p10 p11 b g p ga gc pa pc B K tm w) (by kernel_rfl) (by kernel_rfl) (by kernel_rfl) (by kernel_rfl) (by intro j hj; simp [t4] at hj; rcases hj with rfl | rfl | rfl | rfl <;> decide) (t4_stay hK) (Ord.valsO m4 tm) (fun i => if i = 24 then [p9] else if i = 25 then [p10] else if i = 26 then [p11] else B) (Ord.Fr_start m4 tm []) (Below.refl _ _).drew ?_ ?_ ?_ ?_
  · intro j hj
    simp [t4] at hj
    rcases hj with rfl | rfl | rfl | rfl
    · exact ⟨⟨rfl, b9.drew⟩, fun k hk => by simp at hk; subst hk; exact ⟨hz9, b9.lt⟩⟩
    · exact ⟨⟨rfl, b10.drew⟩, fun k hk => by simp at hk; subst hk; exact ⟨hz10, b10.lt⟩⟩
    · exact ⟨⟨rfl, b11.drew⟩, fun k hk => by simp at hk; subst hk; exact ⟨hz11, b11.lt⟩⟩
    · exact ⟨⟨rfl, hdw _ hKw⟩, fun k hk => by have := hB k (by simpa using hk); exact ⟨this.1, by show k < w.heap.size; omega⟩⟩
  · intro i hi j hj hij k hk
    simp [t4] at hi hj
    obtain ⟨q1, q2, q3⟩ := hB9
    obtain ⟨m1, m2, m3⟩ := hne
    have hkB : ∀ k, k ∈ B → k ≠ p9 ∧ k ≠ p10 ∧ k ≠ p11 := fun k h => ⟨fun e => q1 (e ▸ h), fun e => q2 (e ▸ h), fun e => q3 (e ▸ h)⟩
    rcases hi with rfl | rfl | rfl | rfl <;> rcases hj with rfl | rfl | rfl | rfl <;> simp at hk ⊢ <;> first | exact absurd rfl hij | (subst hk; first | exact m1 | exact m2 | exact m3 | exact m1.symm | exact m2.symm | exact m3.symm | exact q1 | exact q2 | exact q3) | exact (hkB k hk).1 | exact (hkB k hk).2.1 | exact (hkB k hk).2.2
  · intro j hj vals bs W hH hrd htok hdis R hRR
    have hF : ∀ vals, (t4 z n p4 p5 p6 p9 p10 p11 b g p ga gc pa pc B K tm w).F vals = Ord.Fr m4 tm vals := fun _ => rfl
    have hBw : Below z w W := hH
    have hnW : n ≤ W.heap.size := by have := hBw.size; omega
    have b4W := b4.below hBw hp4
    have b5W := b5.below hBw hp5
    have b6W := b6.below hBw hp6
    have r4 := b4W.cell
    have e4 : (Act.mk ((t4 z n p4 p5 p6 p9 p10 p11 b g p ga gc pa pc B K tm w).F vals) (t4 z n p4 p5 p6 p9 p10 p11 b g p ga gc pa pc B K tm w).ds).eval (.tmp 4) = .pointer (some ⟨p4, 0, none⟩) := Ord.Fr_old (by kernel_rfl) h4
    have e5 : (Act.mk ((t4 z n p4 p5 p6 p9 p10 p11 b g p ga gc pa pc B K tm w).F vals) (t4 z n p4 p5 p6 p9 p10 p11 b g p ga gc pa pc B K tm w).ds).eval (.tmp 5) = .pointer (some ⟨p5, 0, none⟩) := Ord.Fr_old (by kernel_rfl) h5
    have e6 : (Act.mk ((t4 z n p4 p5 p6 p9 p10 p11 b g p ga gc pa pc B K tm w).F vals) (t4 z n p4 p5 p6 p9 p10 p11 b g p ga gc pa pc B K tm w).ds).eval (.tmp 6) = .pointer (some ⟨p6, 0, none⟩) := Ord.Fr_old (by kernel_rfl) h6
    have e9 : (Act.mk ((t4 z n p4 p5 p6 p9 p10 p11 b g p ga gc pa pc B K tm w).F vals) (t4 z n p4 p5 p6 p9 p10 p11 b g p ga gc pa pc B K tm w).ds).eval (.tmp 9) = .pointer (some ⟨p9, 0, none⟩) := Ord.Fr_old (by kernel_rfl) h9
    have e10 : (Act.mk ((t4 z n p4 p5 p6 p9 p10 p11 b g p ga gc pa pc B K tm w).F vals) (t4 z n p4 p5 p6 p9 p10 p11 b g p ga gc pa pc B K tm w).ds).eval (.tmp 10) = .pointer (some ⟨p10, 0, none⟩) := Ord.Fr_old (by kernel_rfl) h10
    have e11 : (Act.mk ((t4 z n p4 p5 p6 p9 p10 p11 b g p ga gc pa pc B K tm w).F vals) (t4 z n p4 p5 p6 p9 p10 p11 b g p ga gc pa pc B K tm w).ds).eval (.tmp 11) = .pointer (some ⟨p11, 0, none⟩) := Ord.Fr_old (by kernel_rfl) h11
    have hmW : BnAt W b ga pa := hm W hBw
    have hj24 : j < 24 := hj
    rcases (show j = 0 ∨ j = 1 ∨ j = 2 ∨ j = 3 ∨ j = 4 ∨ j = 5 ∨ j = 6 ∨ j = 7 ∨ j = 8 ∨ j = 9 ∨ j = 10 ∨ j = 11 ∨ j = 12 ∨ j = 13 ∨ j = 14 ∨ j = 15 ∨ j = 16 ∨ j = 17 ∨ j = 18 ∨ j = 19 ∨ j = 20 ∨ j = 21 ∨ j = 22 ∨ j = 23 by omega) with rfl | rfl | rfl | rfl | rfl | rfl | rfl | rfl | rfl | rfl | rfl | rfl | rfl | rfl | rfl | rfl | rfl | rfl | rfl | rfl | rfl | rfl | rfl | rfl
    · refine st_sem ok4 hF rfl rfl (s := Instr.buildSlice 24 0 #[]) (v := .slice (some ⟨W.heap.size, 0, none⟩) 0 0) (w' := W.alloc (.cells #[] 49)) (by simp [execOp]) (by simp [Instr.buildSlice, run_underlying Try.underlying24, go_sem]) ?_
      exact hR_alloc hRR rfl (hBw.alloc (by omega) _) (by simp [t4]) ⟨_, rfl, by omega, rfl, Blk.new _ _ _⟩ (by show z ≤ _; omega)
    · refine st_sem ok4 hF rfl rfl (s := Instr.fieldAt 27 (.pointer (some ⟨p4, 0, none⟩)) 3) (v := .pointer (some ⟨p4, 4, none⟩)) (w' := W) (by rw [← e4]; rfl) (by first | (simp [go_sem]; done) | (simp [go_sem]; rfl)) ?_
      exact hR_read hRR rfl hH (by simp [t4]) rfl
    · have e1 := hrd 1 (by decide) (by kernel_rfl) _ rfl
      have ex : (Act.mk ((t4 z n p4 p5 p6 p9 p10 p11 b g p ga gc pa pc B K tm w).F vals) (t4 z n p4 p5 p6 p9 p10 p11 b g p ga gc pa pc B K tm w).ds).eval (.tmp 66) = .pointer (some ⟨p4, 4, none⟩) := (Ord.Fr_new (i := 1) (by kernel_rfl) (by omega)).trans e1
      refine st_sem ok4 hF rfl rfl (s := Instr.loadAt 24 (.pointer (some ⟨p4, 4, none⟩))) (v := .slice ga b.gs.length gc) (w' := W) (by rw [← ex]; rfl) (by simp [go_sem, r4]) ?_
      exact hR_read hRR rfl hH (by simp [t4]) rfl
    · have e2 := hrd 2 (by decide) (by kernel_rfl) _ rfl
      obtain ⟨⟨b0, eb, hb3, ev, bb⟩, _⟩ := htok 0 (by simp [t4])
      have es : (Act.mk ((t4 z n p4 p5 p6 p9 p10 p11 b g p ga gc pa pc B K tm w).F vals) (t4 z n p4 p5 p6 p9 p10 p11 b g p ga gc pa pc B K tm w).ds).eval (.tmp 65) = .slice (some ⟨b0, 0, none⟩) 0 0 := (Ord.Fr_new (i := 0) (by kernel_rfl) (by omega)).trans ev
      have ex : (Act.mk ((t4 z n p4 p5 p6 p9 p10 p11 b g p ga gc pa pc B K tm w).F vals) (t4 z n p4 p5 p6 p9 p10 p11 b g p ga gc pa pc B K tm w).ds).eval (.tmp 67) = .slice ga b.gs.length gc := (Ord.Fr_new (i := 2) (by kernel_rfl) (by omega)).trans e2
      refine st_append ok4 hF rfl rfl (ty := 24) rfl (n1 := n) (e := 49) Try.underlying24 hi0 hz0 hs0 hy0 rfl (by decide) es (own_empty bb hb3) ex (src_gs hmW.gs _) (gcell_one _) (by unfold maxLen; omega) (by omega) (by omega) hRR ?_ rfl ?_ ?_ (by show z ≤ n; omega)
      · intro w' hg; exact hBw.grown hg (by omega) (fun g e => by simp [Value.ownBlock] at e; omega)
      · intro v' w' ho
        simp only [Nat.zero_add, List.nil_append] at ho
        exact ⟨rfl, ho⟩
      · intro k hk
        exact ⟨0, by simp [t4], by simp [Value.ownBlock] at hk; subst hk; rw [eb]; simp⟩
    · refine st_sem ok4 hF rfl rfl (s := Instr.loadAt 49 (.pointer (some ⟨p5, 0, none⟩))) (v := .agg #[.int .i64 g.1, .int .i64 g.2.1, .int .i64 g.2.2]) (w' := W) (by rw [← e5]; rfl) (loadVar_blk agg_group b5W rfl) ?_
      exact hR_read hRR rfl hH (by simp [t4]) rfl
    · have e1 := hrd 4 (by decide) (by kernel_rfl) _ rfl
      have ex : (Act.mk ((t4 z n p4 p5 p6 p9 p10 p11 b g p ga gc pa pc B K tm w).F vals) (t4 z n p4 p5 p6 p9 p10 p11 b g p ga gc pa pc B K tm w).ds).eval (.tmp 69) = .agg #[.int .i64 g.1, .int .i64 g.2.1, .int .i64 g.2.2] := (Ord.Fr_new (i := 4) (by kernel_rfl) (by omega)).trans e1
      refine st_sem ok4 hF rfl rfl (s := Instr.buildSlice 24 1 #[(0, .agg #[.int .i64 g.1, .int .i64 g.2.1, .int .i64 g.2.2])]) (v := .slice (some ⟨W.heap.size, 0, none⟩) 1 1) (w' := W.alloc (.cells #[.int .i64 g.1, .int .i64 g.2.1, .int .i64 g.2.2] 49)) (by simp [execOp, ex]) (by simp [Instr.buildSlice, run_underlying Try.underlying24, go_sem]) ?_
      exact hR_alloc hRR rfl (hBw.alloc (by omega) _) (by simp [t4]) ⟨_, rfl, by omega, rfl, Blk.new _ _ _⟩ (by show z ≤ _; omega)
    · obtain ⟨hown, hlb⟩ := htok 3 (by simp [t4])
      obtain ⟨⟨b1, eb, hb3, ev, bb⟩, _⟩ := htok 5 (by simp [t4])
      replace hown : OwnT W n 49 3 gcell b.gs (vals 3) (bs 3) := hown
      have es : (Act.mk ((t4 z n p4 p5 p6 p9 p10 p11 b g p ga gc pa pc B K tm w).F vals) (t4 z n p4 p5 p6 p9 p10 p11 b g p ga gc pa pc B K tm w).ds).eval (.tmp 68) = vals 3 := Ord.Fr_new (i := 3) (by kernel_rfl) (by omega)
      have ex : (Act.mk ((t4 z n p4 p5 p6 p9 p10 p11 b g p ga gc pa pc B K tm w).F vals) (t4 z n p4 p5 p6 p9 p10 p11 b g p ga gc pa pc B K tm w).ds).eval (.tmp 70) = .slice (some ⟨b1, 0, none⟩) 1 1 := (Ord.Fr_new (i := 5) (by kernel_rfl) (by omega)).trans ev
      refine st_append ok4 hF rfl rfl (ty := 24) rfl (n1 := n) (e := 49) Try.underlying24 hi0 hz0 hs0 hy0 rfl (by decide) es hown.2 ex (m := 1) (news := gcell g) ⟨rfl, .inr ⟨_, _, rfl, news_blk (A := #[.int .i64 g.1, .int .i64 g.2.1, .int .i64 g.2.2]) bb⟩⟩ (fun u hu => by simp [gcell] at hu; rcases hu with rfl | rfl | rfl <;> rfl) (by unfold maxLen; omega) (by omega) (by omega) hRR ?_ rfl ?_ ?_ (by show z ≤ n; omega)
      · intro w' hg; exact hBw.grown hg (by omega) (fun g' e => by have := hown.lt g' (by rw [hown.1, e]; simp); omega)
      · intro v' w' ho
        exact ⟨rfl, by simpa [List.flatMap_append] using ho⟩
      · intro k hk
        exact ⟨3, by simp [t4], by rw [hown.1, hk]; simp⟩
    · refine st_sem ok4 hF rfl rfl (s := Instr.buildSlice 25 0 #[]) (v := .slice (some ⟨W.heap.size, 0, none⟩) 0 0) (w' := W.alloc (.cells #[] 54)) (by simp [execOp]) (by simp [Instr.buildSlice, run_underlying Try.underlying25, go_sem]) ?_
      exact hR_alloc hRR rfl (hBw.alloc (by omega) _) (by simp [t4]) ⟨_, rfl, by omega, rfl, Blk.new _ _ _⟩ (by show z ≤ _; omega)
    · refine st_sem ok4 hF rfl rfl (s := Instr.fieldAt 27 (.pointer (some ⟨p4, 0, none⟩)) 4) (v := .pointer (some ⟨p4, 5, none⟩)) (w' := W) (by rw [← e4]; rfl) (by first | (simp [go_sem]; done) | (simp [go_sem]; rfl)) ?_
      exact hR_read hRR rfl hH (by simp [t4]) rfl
    · have e1 := hrd 8 (by decide) (by kernel_rfl) _ rfl
      have ex : (Act.mk ((t4 z n p4 p5 p6 p9 p10 p11 b g p ga gc pa pc B K tm w).F vals) (t4 z n p4 p5 p6 p9 p10 p11 b g p ga gc pa pc B K tm w).ds).eval (.tmp 73) = .pointer (some ⟨p4, 5, none⟩) := (Ord.Fr_new (i := 8) (by kernel_rfl) (by omega)).trans e1
      refine st_sem ok4 hF rfl rfl (s := Instr.loadAt 25 (.pointer (some ⟨p4, 5, none⟩))) (v := .slice pa b.ps.length pc) (w' := W) (by rw [← ex]; rfl) (by simp [go_sem, r4]) ?_
      exact hR_read hRR rfl hH (by simp [t4]) rfl
    · have e2 := hrd 9 (by decide) (by kernel_rfl) _ rfl
      obtain ⟨⟨b0, eb, hb3, ev, bb⟩, _⟩ := htok 7 (by simp [t4])
      have es : (Act.mk ((t4 z n p4 p5 p6 p9 p10 p11 b g p ga gc pa pc B K tm w).F vals) (t4 z n p4 p5 p6 p9 p10 p11 b g p ga gc pa pc B K tm w).ds).eval (.tmp 72) = .slice (some ⟨b0, 0, none⟩) 0 0 := (Ord.Fr_new (i := 7) (by kernel_rfl) (by omega)).trans ev
      have ex : (Act.mk ((t4 z n p4 p5 p6 p9 p10 p11 b g p ga gc pa pc B K tm w).F vals) (t4 z n p4 p5 p6 p9 p10 p11 b g p ga gc pa pc B K tm w).ds).eval (.tmp 74) = .slice pa b.ps.length pc := (Ord.Fr_new (i := 9) (by kernel_rfl) (by omega)).trans e2
      refine st_append ok4 hF rfl rfl (ty := 25) rfl (n1 := n) (e := 54) Try.underlying25 hi1 hz1 hs1 hy1 rfl (by decide) es (own_empty bb hb3) ex (src_ps hmW.ps _) (pcell_one _) (by unfold maxLen; omega) (by omega) (by omega) hRR ?_ rfl ?_ ?_ (by show z ≤ n; omega)
      · intro w' hg; exact hBw.grown hg (by omega) (fun g e => by simp [Value.ownBlock] at e; omega)
      · intro v' w' ho
        simp only [Nat.zero_add, List.nil_append] at ho
        exact ⟨rfl, ho⟩
      · intro k hk
        exact ⟨7, by simp [t4], by simp [Value.ownBlock] at hk; subst hk; rw [eb]; simp⟩
    · refine st_sem ok4 hF rfl rfl (s := Instr.loadAt 54 (.pointer (some ⟨p6, 0, none⟩))) (v := .agg #[.int .i64 p.1, .int .i64 p.2.1, .bool p.2.2]) (w' := W) (by rw [← e6]; rfl) (loadVar_blk agg_pairX b6W rfl) ?_
      exact hR_read hRR rfl hH (by simp [t4]) rfl
    · have e1 := hrd 11 (by decide) (by kernel_rfl) _ rfl
      have ex : (Act.mk ((t4 z n p4 p5 p6 p9 p10 p11 b g p ga gc pa pc B K tm w).F vals) (t4 z n p4 p5 p6 p9 p10 p11 b g p ga gc pa pc B K tm w).ds).eval (.tmp 76) = .agg #[.int .i64 p.1, .int .i64 p.2.1, .bool p.2.2] := (Ord.Fr_new (i := 11) (by kernel_rfl) (by omega)).trans e1
      refine st_sem ok4 hF rfl rfl (s := Instr.buildSlice 25 1 #[(0, .agg #[.int .i64 p.1, .int .i64 p.2.1, .bool p.2.2])]) (v := .slice (some ⟨W.heap.size, 0, none⟩) 1 1) (w' := W.alloc (.cells #[.int .i64 p.1, .int .i64 p.2.1, .bool p.2.2] 54)) (by simp [execOp, ex]) (by simp [Instr.buildSlice, run_underlying Try.underlying25, go_sem]) ?_
      exact hR_alloc hRR rfl (hBw.alloc (by omega) _) (by simp [t4]) ⟨_, rfl, by omega, rfl, Blk.new _ _ _⟩ (by show z ≤ _; omega)
    · obtain ⟨hown, hlb⟩ := htok 10 (by simp [t4])
      obtain ⟨⟨b1, eb, hb3, ev, bb⟩, _⟩ := htok 12 (by simp [t4])
      replace hown : OwnT W n 54 3 pcell b.ps (vals 10) (bs 10) := hown
      have es : (Act.mk ((t4 z n p4 p5 p6 p9 p10 p11 b g p ga gc pa pc B K tm w).F vals) (t4 z n p4 p5 p6 p9 p10 p11 b g p ga gc pa pc B K tm w).ds).eval (.tmp 75) = vals 10 := Ord.Fr_new (i := 10) (by kernel_rfl) (by omega)
      have ex : (Act.mk ((t4 z n p4 p5 p6 p9 p10 p11 b g p ga gc pa pc B K tm w).F vals) (t4 z n p4 p5 p6 p9 p10 p11 b g p ga gc pa pc B K tm w).ds).eval (.tmp 77) = .slice (some ⟨b1, 0, none⟩) 1 1 := (Ord.Fr_new (i := 12) (by kernel_rfl) (by omega)).trans ev
      refine st_append ok4 hF rfl rfl (ty := 25) rfl (n1 := n) (e := 54) Try.underlying25 hi1 hz1 hs1 hy1 rfl (by decide) es hown.2 ex (m := 1) (news := pcell p) ⟨rfl, .inr ⟨_, _, rfl, news_blk (A := #[.int .i64 p.1, .int .i64 p.2.1, .bool p.2.2]) bb⟩⟩ (fun u hu => by simp [pcell] at hu; rcases hu with rfl | rfl | rfl <;> rfl) (by unfold maxLen; omega) (by omega) (by omega) hRR ?_ rfl ?_ ?_ (by show z ≤ n; omega)
      · intro w' hg; exact hBw.grown hg (by omega) (fun g' e => by have := hown.lt g' (by rw [hown.1, e]; simp); omega)
      · intro v' w' ho
        exact ⟨rfl, by simpa [List.flatMap_append] using ho⟩
      · intro k hk
        exact ⟨10, by simp [t4], by rw [hown.1, hk]; simp⟩
    · refine st_sem ok4 hF rfl rfl (s := Instr.buildSlice 24 0 #[]) (v := .slice (some ⟨W.heap.size, 0, none⟩) 0 0) (w' := W.alloc (.cells #[] 49)) (by simp [execOp]) (by simp [Instr.buildSlice, run_underlying Try.underlying24, go_sem]) ?_
      exact hR_alloc hRR rfl (hBw.alloc (by omega) _) (by simp [t4]) ⟨_, rfl, by omega, rfl, Blk.new _ _ _⟩ (by show z ≤ _; omega)
    · refine st_sem ok4 hF rfl rfl (s := Instr.fieldAt 27 (.pointer (some ⟨p4, 0, none⟩)) 3) (v := .pointer (some ⟨p4, 4, none⟩)) (w' := W) (by rw [← e4]; rfl) (by first | (simp [go_sem]; done) | (simp [go_sem]; rfl)) ?_
      exact hR_read hRR rfl hH (by simp [t4]) rfl
    · have e1 := hrd 15 (by decide) (by kernel_rfl) _ rfl
      have ex : (Act.mk ((t4 z n p4 p5 p6 p9 p10 p11 b g p ga gc pa pc B K tm w).F vals) (t4 z n p4 p5 p6 p9 p10 p11 b g p ga gc pa pc B K tm w).ds).eval (.tmp 80) = .pointer (some ⟨p4, 4, none⟩) := (Ord.Fr_new (i := 15) (by kernel_rfl) (by omega)).trans e1
      refine st_sem ok4 hF rfl rfl (s := Instr.loadAt 24 (.pointer (some ⟨p4, 4, none⟩))) (v := .slice ga b.gs.length gc) (w' := W) (by rw [← ex]; rfl) (by simp [go_sem, r4]) ?_
      exact hR_read hRR rfl hH (by simp [t4]) rfl
    · have e2 := hrd 16 (by decide) (by kernel_rfl) _ rfl
      obtain ⟨⟨b0, eb, hb3, ev, bb⟩, _⟩ := htok 14 (by simp [t4])
      have es : (Act.mk ((t4 z n p4 p5 p6 p9 p10 p11 b g p ga gc pa pc B K tm w).F vals) (t4 z n p4 p5 p6 p9 p10 p11 b g p ga gc pa pc B K tm w).ds).eval (.tmp 79) = .slice (some ⟨b0, 0, none⟩) 0 0 := (Ord.Fr_new (i := 14) (by kernel_rfl) (by omega)).trans ev
      have ex : (Act.mk ((t4 z n p4 p5 p6 p9 p10 p11 b g p ga gc pa pc B K tm w).F vals) (t4 z n p4 p5 p6 p9 p10 p11 b g p ga gc pa pc B K tm w).ds).eval (.tmp 81) = .slice ga b.gs.length gc := (Ord.Fr_new (i := 16) (by kernel_rfl) (by omega)).trans e2
      refine st_append ok4 hF rfl rfl (ty := 24) rfl (n1 := n) (e := 49) Try.underlying24 hi0 hz0 hs0 hy0 rfl (by decide) es (own_empty bb hb3) ex (src_gs hmW.gs _) (gcell_one _) (by unfold maxLen; omega) (by omega) (by omega) hRR ?_ rfl ?_ ?_ (by show z ≤ n; omega)
      · intro w' hg; exact hBw.grown hg (by omega) (fun g e => by simp [Value.ownBlock] at e; omega)
      · intro v' w' ho
        simp only [Nat.zero_add, List.nil_append] at ho
        exact ⟨rfl, ho⟩
      · intro k hk
        exact ⟨14, by simp [t4], by simp [Value.ownBlock] at hk; subst hk; rw [eb]; simp⟩
    · refine st_sem ok4 hF rfl rfl (s := Instr.fieldAt 27 (.pointer (some ⟨p9, 0, none⟩)) 3) (v := .pointer (some ⟨p9, 4, none⟩)) (w' := W) (by rw [← e9]; rfl) (by first | (simp [go_sem]; done) | (simp [go_sem]; rfl)) ?_
      exact hR_read hRR rfl hH (by simp [t4]) rfl
    · obtain ⟨⟨ea, ba⟩, hla⟩ := htok 24 (by simp [t4])
      obtain ⟨hown, hlb⟩ := htok 6 (by simp [t4])
      replace hown : OwnT W n 49 3 gcell (b.gs ++ [g]) (vals 6) (bs 6) := hown
      have e1 := hrd 18 (by decide) (by kernel_rfl) _ rfl
      obtain ⟨a', c', ev⟩ := own_nil3 hown.2
      have ex : (Act.mk ((t4 z n p4 p5 p6 p9 p10 p11 b g p ga gc pa pc B K tm w).F vals) (t4 z n p4 p5 p6 p9 p10 p11 b g p ga gc pa pc B K tm w).ds).eval (.tmp 83) = .pointer (some ⟨p9, 4, none⟩) := (Ord.Fr_new (i := 18) (by kernel_rfl) (by omega)).trans e1
      have ey : (Act.mk ((t4 z n p4 p5 p6 p9 p10 p11 b g p ga gc pa pc B K tm w).F vals) (t4 z n p4 p5 p6 p9 p10 p11 b g p ga gc pa pc B K tm w).ds).eval (.tmp 71) = vals 6 := Ord.Fr_new (i := 6) (by kernel_rfl) (by omega)
      have ra := ba.cell
      have fa := ba.free
      have hgt := fun k hk => (hown.lt k hk).1
      have hla' := hla p9 (by rw [ea]; simp)
      have hsc' : ∀ k, k ≠ p9 → (W.setCell ⟨p9, 4, none⟩ (vals 6)).heap[k]? = W.heap[k]? := fun k hk => Below.heap_setCell W _ _ k hk
      have hsc : ∀ k ∈ bs 6, (W.setCell ⟨p9, 4, none⟩ (vals 6)).heap[k]? = W.heap[k]? := fun k hk => hsc' k (by have := hgt k hk; omega)
      have hblk := ba.set 4 (vals 6)
      refine st_cell ok4 hF rfl rfl (ty := 24) rfl rfl ex ey (w' := W.setCell ⟨p9, 4, none⟩ (vals 6)) (by rw [ev]; simp [go_sem, ra, fa]) undef ?_
      refine hRR _ _ ⟨undef, p9 :: bs 6, rfl, hBw.setCell (by show z ≤ p9; omega) _, by simp [t4], ⟨vals 6, bs 6, rfl, hblk, hown.stay hsc⟩, fun k hk => ?_, by simp, fun k hk hkT => hsc' k (fun e => hkT 24 (by simp [t4]) (by rw [ea, e]; simp)), fun _ h => by simp [t4] at h⟩
      simp only [List.mem_cons] at hk
      rcases hk with rfl | hk
      · exact ⟨hla'.1, by simpa using hla'.2, .inr ⟨24, by simp [t4], by rw [ea]; simp⟩⟩
      · have := hlb k hk
        exact ⟨this.1, by simpa using this.2, .inr ⟨6, by simp [t4], hk⟩⟩
    · refine st_sem ok4 hF rfl rfl (s := Instr.fieldAt 27 (.pointer (some ⟨p10, 0, none⟩)) 4) (v := .pointer (some ⟨p10, 5, none⟩)) (w' := W) (by rw [← e10]; rfl) (by first | (simp [go_sem]; done) | (simp [go_sem]; rfl)) ?_
      exact hR_read hRR rfl hH (by simp [t4]) rfl
    · obtain ⟨⟨ea, ba⟩, hla⟩ := htok 25 (by simp [t4])
      obtain ⟨hown, hlb⟩ := htok 13 (by simp [t4])
      replace hown : OwnT W n 54 3 pcell (b.ps ++ [p]) (vals 13) (bs 13) := hown
      have e1 := hrd 20 (by decide) (by kernel_rfl) _ rfl
      obtain ⟨a', c', ev⟩ := own_nil3 hown.2
      have ex : (Act.mk ((t4 z n p4 p5 p6 p9 p10 p11 b g p ga gc pa pc B K tm w).F vals) (t4 z n p4 p5 p6 p9 p10 p11 b g p ga gc pa pc B K tm w).ds).eval (.tmp 84) = .pointer (some ⟨p10, 5, none⟩) := (Ord.Fr_new (i := 20) (by kernel_rfl) (by omega)).trans e1
      have ey : (Act.mk ((t4 z n p4 p5 p6 p9 p10 p11 b g p ga gc pa pc B K tm w).F vals) (t4 z n p4 p5 p6 p9 p10 p11 b g p ga gc pa pc B K tm w).ds).eval (.tmp 78) = vals 13 := Ord.Fr_new (i := 13) (by kernel_rfl) (by omega)
      have ra := ba.cell
      have fa := ba.free
      have hgt := fun k hk => (hown.lt k hk).1
      have hla' := hla p10 (by rw [ea]; simp)
      have hsc' : ∀ k, k ≠ p10 → (W.setCell ⟨p10, 5, none⟩ (vals 13)).heap[k]? = W.heap[k]? := fun k hk => Below.heap_setCell W _ _ k hk
      have hsc : ∀ k ∈ bs 13, (W.setCell ⟨p10, 5, none⟩ (vals 13)).heap[k]? = W.heap[k]? := fun k hk => hsc' k (by have := hgt k hk; omega)
      have hblk := ba.set 5 (vals 13)
      refine st_cell ok4 hF rfl rfl (ty := 25) rfl rfl ex ey (w' := W.setCell ⟨p10, 5, none⟩ (vals 13)) (by rw [ev]; simp [go_sem, ra, fa]) undef ?_
      refine hRR _ _ ⟨undef, p10 :: bs 13, rfl, hBw.setCell (by show z ≤ p10; omega) _, by simp [t4], ⟨vals 13, bs 13, rfl, hblk, hown.stay hsc⟩, fun k hk => ?_, by simp, fun k hk hkT => hsc' k (fun e => hkT 25 (by simp [t4]) (by rw [ea, e]; simp)), fun _ h => by simp [t4] at h⟩
      simp only [List.mem_cons] at hk
      rcases hk with rfl | hk
      · exact ⟨hla'.1, by simpa using hla'.2, .inr ⟨25, by simp [t4], by rw [ea]; simp⟩⟩
      · have := hlb k hk
        exact ⟨this.1, by simpa using this.2, .inr ⟨13, by simp [t4], hk⟩⟩
    · refine st_sem ok4 hF rfl rfl (s := Instr.fieldAt 27 (.pointer (some ⟨p11, 0, none⟩)) 3) (v := .pointer (some ⟨p11, 4, none⟩)) (w' := W) (by rw [← e11]; rfl) (by first | (simp [go_sem]; done) | (simp [go_sem]; rfl)) ?_
      exact hR_read hRR rfl hH (by simp [t4]) rfl
    · obtain ⟨⟨ea, ba⟩, hla⟩ := htok 26 (by simp [t4])
      obtain ⟨hown, hlb⟩ := htok 17 (by simp [t4])
      replace hown : OwnT W n 49 3 gcell b.gs (vals 17) (bs 17) := hown
      have e1 := hrd 22 (by decide) (by kernel_rfl) _ rfl
      obtain ⟨a', c', ev⟩ := own_nil3 hown.2
      have ex : (Act.mk ((t4 z n p4 p5 p6 p9 p10 p11 b g p ga gc pa pc B K tm w).F vals) (t4 z n p4 p5 p6 p9 p10 p11 b g p ga gc pa pc B K tm w).ds).eval (.tmp 85) = .pointer (some ⟨p11, 4, none⟩) := (Ord.Fr_new (i := 22) (by kernel_rfl) (by omega)).trans e1
      have ey : (Act.mk ((t4 z n p4 p5 p6 p9 p10 p11 b g p ga gc pa pc B K tm w).F vals) (t4 z n p4 p5 p6 p9 p10 p11 b g p ga gc pa pc B K tm w).ds).eval (.tmp 82) = vals 17 := Ord.Fr_new (i := 17) (by kernel_rfl) (by omega)
      have ra := ba.cell
      have fa := ba.free
      have hgt := fun k hk => (hown.lt k hk).1
      have hla' := hla p11 (by rw [ea]; simp)
      have hsc' : ∀ k, k ≠ p11 → (W.setCell ⟨p11, 4, none⟩ (vals 17)).heap[k]? = W.heap[k]? := fun k hk => Below.heap_setCell W _ _ k hk
      have hsc : ∀ k ∈ bs 17, (W.setCell ⟨p11, 4, none⟩ (vals 17)).heap[k]? = W.heap[k]? := fun k hk => hsc' k (by have := hgt k hk; omega)
      have hblk := ba.set 4 (vals 17)
      refine st_cell ok4 hF rfl rfl (ty := 24) rfl rfl ex ey (w' := W.setCell ⟨p11, 4, none⟩ (vals 17)) (by rw [ev]; simp [go_sem, ra, fa]) undef ?_
      refine hRR _ _ ⟨undef, p11 :: bs 17, rfl, hBw.setCell (by show z ≤ p11; omega) _, by simp [t4], ⟨vals 17, bs 17, rfl, hblk, hown.stay hsc⟩, fun k hk => ?_, by simp, fun k hk hkT => hsc' k (fun e => hkT 26 (by simp [t4]) (by rw [ea, e]; simp)), fun _ h => by simp [t4] at h⟩
      simp only [List.mem_cons] at hk
      rcases hk with rfl | hk
      · exact ⟨hla'.1, by simpa using hla'.2, .inr ⟨26, by simp [t4], by rw [ea]; simp⟩⟩
      · have := hlb k hk
        exact ⟨this.1, by simpa using this.2, .inr ⟨17, by simp [t4], hk⟩⟩
  · intro vals bs W hH hrd htok hdis _
    have hsurv : ∀ j, j = 19 ∨ j = 21 ∨ j = 23 ∨ j = 27 → ∀ c, c < m4.length → j ∉ (t4 z n p4 p5 p6 p9 p10 p11 b g p ga gc pa pc B K tm w).take c := fun j h1 c hc => by
      have hc' : c < 24 := hc
      rcases (show c = 0 ∨ c = 1 ∨ c = 2 ∨ c = 3 ∨ c = 4 ∨ c = 5 ∨ c = 6 ∨ c = 7 ∨ c = 8 ∨ c = 9 ∨ c = 10 ∨ c = 11 ∨ c = 12 ∨ c = 13 ∨ c = 14 ∨ c = 15 ∨ c = 16 ∨ c = 17 ∨ c = 18 ∨ c = 19 ∨ c = 20 ∨ c = 21 ∨ c = 22 ∨ c = 23 by omega) with rfl | rfl | rfl | rfl | rfl | rfl | rfl | rfl | rfl | rfl | rfl | rfl | rfl | rfl | rfl | rfl | rfl | rfl | rfl | rfl | rfl | rfl | rfl | rfl <;> simp [t4] <;> omega
    have hin : ∀ j, j = 19 ∨ j = 21 ∨ j = 23 ∨ j = 27 → j ∈ (t4 z n p4 p5 p6 p9 p10 p11 b g p ga gc pa pc B K tm w).init ∨ j < m4.length := fun j h => by
      rcases h with rfl | rfl | rfl | rfl
      · exact .inr (by decide)
      · exact .inr (by decide)
      · exact .inr (by decide)
      · exact .inl (by simp [t4])
    have hd : ∀ i j, i = 19 ∨ i = 21 ∨ i = 23 ∨ i = 27 → j = 19 ∨ j = 21 ∨ j = 23 ∨ j = 27 → i ≠ j → ∀ k ∈ bs i, k ∉ bs j := fun i j hi hj hij => hdis i j (hin i hi) (hsurv i hi) (hin j hj) (hsurv j hj) hij
    obtain ⟨u9, c9, ea, h1⟩ := (htok 19 (hin 19 (by omega)) (hsurv 19 (by omega))).1
    obtain ⟨u10, c10, ec, h2⟩ := (htok 21 (hin 21 (by omega)) (hsurv 21 (by omega))).1
    obtain ⟨u11, c11, ee, h3⟩ := (htok 23 (hin 23 (by omega)) (hsurv 23 (by omega))).1
    obtain ⟨ed, h4'⟩ := (htok 27 (hin 27 (by omega)) (hsurv 27 (by omega))).1
    have d1 := hd 19 21 (by omega) (by omega) (by omega)
    have d2 := hd 19 23 (by omega) (by omega) (by omega)
    have d3 := hd 21 23 (by omega) (by omega) (by omega)
    have d4 := hd 27 19 (by omega) (by omega) (by omega)
    have d5 := hd 27 21 (by omega) (by omega) (by omega)
    have d6 := hd 27 23 (by omega) (by omega) (by omega)
    rw [ea, ec] at d1
    rw [ea, ee] at d2
    rw [ec, ee] at d3
    rw [ed, ea] at d4
    rw [ed, ec] at d5
    rw [ed, ee] at d6
    exact hexit vals W u9 c9 u10 c10 u11 c11 hH h1 h2 h3 h4' (fun k hk => ⟨d1 k hk, d2 k hk⟩) d3 (fun k hk => ⟨d4 k hk, d5 k hk, d6 k hk⟩)
end Go.Proofs.Ytjbjmoghloabpaa
