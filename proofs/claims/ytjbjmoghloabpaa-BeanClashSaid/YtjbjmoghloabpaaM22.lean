/- Parts of a proof: BnRefK, BnAC. -/
import Derived.Test.YtjbjmoghloabpaaM21
import Derived.Laws.ResultCell
import Derived.Test.YtjbjmoghloabpaaM05
import Derived.Test.YtjbjmoghloabpaaM08
import Derived.Test.YtjbjmoghloabpaaM17
import Derived.Test.YtjbjmoghloabpaaM19
/- Contracts of shearworksref03: Whites. -/
set_option linter.unusedVariables false
set_option linter.unusedSimpArgs false
namespace Go.Proofs.Ytjbjmoghloabpaa
open Go.RowKit Go.Proofs

def loL (l : List Nat) : Nat := l.foldl (fun m x => min m (sz x)) (sz (l.headD 0))
def hiL (l : List Nat) : Nat := l.foldl (fun m x => max m (sz x)) (sz (l.headD 0))
theorem take_fold {α : Type} (l : List Nat) (f : α → Nat → α) (x0 : α) (k : Nat) (hk : k < l.length) : (l.take (k + 1)).foldl f x0 = f ((l.take k).foldl f x0) l[k] := by
  rw [List.take_succ_eq_append_getElem hk, List.foldl_append]; rfl

set_option maxHeartbeats 4000000 in
set_option maxRecDepth 100000 in
theorem r_Whites (b : Bn) (ga : Option Addr) (gc : Nat) (pa : Option Addr) (pc : Nat) (w : World) (hg : GsAt w ga b.gs) (hp : PsAt w pa b.ps)
    (hgl : b.gs.length ≤ 40) (hpl : b.ps.length ≤ 40) :
    Calls Try.prog 15 #[bv b ga gc pa pc] w
      (if toldE b true = 0 then Gives2 (.agg #[.int .i64 (loL (TL b) : Nat), .int .i64 (hiL (TL b) : Nat)]) (.int .i64 0) w else Gives2 (.agg #[.int .i64 0, .int .i64 0]) (.int .i64 (toldE b true)) w) := by
  have HT : Hid (∀ w', Below w.heap.size w w' → Calls Try.prog 49 #[bv b ga gc pa pc, .bool true] w' (ToldAt (toldL b true) (toldE b true) w')) :=
    fun w' hb => r_told b ga gc pa pc w' (hg.below hb) (hp.below hb) hgl hpl true
  by_cases e0 : toldE b true = 0
  · rw [if_pos e0]
    obtain ⟨hv, -, hne⟩ := toldE_zero e0
    rw [toldL_zero e0, e0] at HT
    have hs := TL_small hv
    have hl := TL_len hv
    have HC : Hid (loL (TL b) = (TL b).foldl (fun m x => min m (sz x)) (sz ((TL b).headD 0))) := rfl
    have HD : Hid (hiL (TL b) = (TL b).foldl (fun m x => max m (sz x)) (sz ((TL b).headD 0))) := rfl
    unfold bv at *
    generalize loL (TL b) = lo at *
    generalize hiL (TL b) = hi at *
    generalize TL b = T at *
    clear hg hp hgl hpl e0 hv
    have hpos : 0 < T.length := List.length_pos_iff.2 hne
    have hhd : T.headD 0 = T[0] := by cases T with | nil => simp at hpos | cons x xs => rfl
    go_enter Try.func15, Try.ntmps15
    go_wp2_with (first
      | (go_at_call 49; refine (HT.out _ ?_).mono ?_; (focus (repeat (first | assumption | exact Below.refl _ _ | refine Below.drew ?_ | refine Below.alloc ?_ (by first | omega | (simp; done) | (simp; omega)) _ | refine Below.setCell ?_ (by first | omega | (simp; done) | (simp; omega)) _ | refine Below.trans ?_ (Below.mono (by assumption) (by first | omega | (simp; done) | (simp; omega)))))); rintro e w1 ⟨a, c, rfl, hI, hb1⟩; obtain ⟨c1, f1, z1⟩ := after hb1 (by simp; rfl)))
    obtain ⟨bb, o, rfl, e1⟩ := hI 0 hpos
    have hbw : bb < w1.heap.size := World.block_lt_of_cell? w1 _ e1
    have hx := hs.at hpos
    rw [hhd] at HC HD
    generalize T[0] = x0 at *
    replace e1 : w1.cell? ⟨bb, o, none⟩ = some (.int .i64 x0) := by simpa [natV] using e1
    have HX := Lib.hid (fun w => r_size (x0 : Int) x0 rfl hx w)
    have hsz62 := sz_lt x0
    generalize sz x0 = s0 at *
    have r0 : w1.cell? ⟨w.heap.size + 1, 0, none⟩ = some (.int .i64 0) := by rw [c1]; simp [go_sem]
    have r1 : w1.cell? ⟨w.heap.size + 1, 1, none⟩ = some (.int .i64 0) := by rw [c1]; simp [go_sem]
    have r2 : w1.frozen? ⟨w.heap.size + 1, 0, none⟩ = false := by rw [f1]; simp [go_sem]
    have r3 : w1.frozen? ⟨w.heap.size + 1, 1, none⟩ = false := by rw [f1]; simp [go_sem]
    have hBw : Below w.heap.size w w1 := by (repeat (first | assumption | exact Below.refl _ _ | refine Below.drew ?_ | refine Below.alloc ?_ (by first | omega | (simp; done) | (simp; omega)) _ | refine Below.setCell ?_ (by first | omega | (simp; done) | (simp; omega)) _ | refine Below.trans ?_ (Below.mono (by assumption) (by first | omega | (simp; done) | (simp; omega)))))
    have z2 : w.heap.size + 1 < w1.heap.size := by omega
    clear c1 f1 hb1
    refine Ord.wp_region [(0, 1), (1, 1), (2, 1), (3, 1), (4, 1), (5, 1), (6, 1), (7, 1), (8, 1), (9, 2), (10, 2)] (fun W => W.cell? ⟨bb, o, none⟩ = some (.int .i64 x0)) (by kernel_rfl) (by kernel_rfl) (fun c a d v w h => by cases d <;> exact h) (by simpa using e1) ?_
    have HI := Lib.hid hI
    have HS := Lib.hid hs
    clear hx hs hI HT
    go_wp2_with (first
      | ((with_reducible refine Ord.at_calm ?_); refine Ord.calm_skip rfl rfl (fun K hK => ?_)) | with_reducible refine Ord.walk_calm rfl rfl (fun K hK => ?_) | ((with_reducible refine Ord.at_wild ?_); refine Ord.wild_fieldAddr rfl rfl (fun W => by simp [go_sem]; rfl) (fun K hK => ?_)) | ((with_reducible refine Ord.at_wild ?_); refine Ord.wild_move rfl rfl (fun K hK => ?_)) | ((with_reducible refine Ord.at_wild ?_); refine Ord.wild_nilCheck rfl rfl (fun K hK => ?_)) | with_reducible refine Ord.walk_eff rfl (by first | (simp; done) | assumption | (go_simp; done) | (repeat (first | assumption | exact Below.refl _ _ | refine Below.drew ?_ | refine Below.alloc ?_ (by first | omega | (simp; done) | (simp; omega)) _ | refine Below.setCell ?_ (by first | omega | (simp; done) | (simp; omega)) _ | refine Below.trans ?_ (Below.mono (by assumption) (by first | omega | (simp; done) | (simp; omega)))))) (fun K hK => ?_) | with_reducible refine Ord.at_fork ?_ ?_ | with_reducible refine Ord.walk_nil ?_ | (with_reducible refine Ord.next_of (by first | (simp; done) | (go_simp; done) | (repeat (first | assumption | exact Below.refl _ _ | refine Below.drew ?_ | refine Below.alloc ?_ (by first | omega | (simp; done) | (simp; omega)) _ | refine Below.setCell ?_ (by first | omega | (simp; done) | (simp; omega)) _ | refine Below.trans ?_ (Below.mono (by assumption) (by first | omega | (simp; done) | (simp; omega)))))) (fun _ => ?_))
      | ((with_reducible refine Ord.at_wild ?_); refine Ord.wild_load (ad := ⟨bb, o, none⟩) (.int .i64 x0) rfl rfl ?_ ?_; (focus (intro W hW; simp [go_sem, hW]; done)); intro K hK)
      | ((with_reducible refine Ord.at_wild ?_); refine Ord.wild_idx (.pointer (some ⟨bb, o, none⟩)) rfl ?_ ?_; (focus (intro W hW; simp [go_sem, hpos]; done)); intro K hK)
      | ((with_reducible refine Ord.at_wild ?_); refine Ord.wild_build (.agg #[.int .i64 s0, .int .i64 s0]) rfl ?_ ?_; (focus (intro W hW; simp [go_sem]; done)); intro K hK)
      | ((with_reducible refine Ord.at_calm ?_); refine Ord.calm_call rfl (fun W => Try.call50 _ W) (HX.out _) (fun K hK => ?_)) | ((with_reducible refine Ord.at_wild ?_); refine Ord.wild_call rfl (fun W => Try.call50 _ W) (fun W hW => HX.out _) (fun K hK => ?_)))
    have hw2 : Below w1.heap.size w1 (w1.alloc (.cells #[.int .i64 s0, .int .i64 s0] 23)).drew := by (repeat (first | assumption | exact Below.refl _ _ | refine Below.drew ?_ | refine Below.alloc ?_ (by first | omega | (simp; done) | (simp; omega)) _ | refine Below.setCell ?_ (by first | omega | (simp; done) | (simp; omega)) _ | refine Below.trans ?_ (Below.mono (by assumption) (by first | omega | (simp; done) | (simp; omega)))))
    have d0 : (w1.alloc (.cells #[.int .i64 s0, .int .i64 s0] 23)).drew.cell? ⟨w1.heap.size, 0, none⟩ = some (.int .i64 s0) := by simp [go_sem]
    have d1 : (w1.alloc (.cells #[.int .i64 s0, .int .i64 s0] 23)).drew.cell? ⟨w1.heap.size, 1, none⟩ = some (.int .i64 s0) := by simp [go_sem]
    have d2 : (w1.alloc (.cells #[.int .i64 s0, .int .i64 s0] 23)).drew.frozen? ⟨w1.heap.size, 0, none⟩ = false := by simp [go_sem]
    have d3 : (w1.alloc (.cells #[.int .i64 s0, .int .i64 s0] 23)).drew.frozen? ⟨w1.heap.size, 1, none⟩ = false := by simp [go_sem]
    have d4 : w1.heap.size < (w1.alloc (.cells #[.int .i64 s0, .int .i64 s0] 23)).drew.heap.size := by simp
    clear HX e1 hbw hhd
    go_loopw [7] (fun i wr => ∃ k m M : Nat, k ≤ T.length ∧ Hid (m = (T.take k).foldl (fun m x => min m (sz x)) s0) ∧ Hid (M = (T.take k).foldl (fun m x => max m (sz x)) s0) ∧ m ≤ 62 ∧ M ≤ 62 ∧ i = .int .i64 k ∧ Below w1.heap.size w1 wr ∧ wr.cell? ⟨w1.heap.size, 0, none⟩ = some (.int .i64 m) ∧ wr.cell? ⟨w1.heap.size, 1, none⟩ = some (.int .i64 M) ∧ wr.frozen? ⟨w1.heap.size, 0, none⟩ = false ∧ wr.frozen? ⟨w1.heap.size, 1, none⟩ = false ∧ w1.heap.size < wr.heap.size) (fun i _ => T.length - (intOf i).toNat)
    case atStart => exact ⟨0, s0, s0, by omega, rfl, rfl, hsz62, hsz62, rfl, hw2, d0, d1, d2, d3, d4⟩
    case round =>
      clear d0 d1 d2 d3 d4 hw2
      obtain ⟨k, m, M, hk, hm, hM, hm2, hM2, rfl, hB, d0, d1, d2, d3, d4⟩ := hrel
      by_cases hlt : k < T.length
      · obtain ⟨bb2, o2, hoo, e1⟩ := HI.out k hlt
        obtain ⟨rfl, rfl⟩ : bb = bb2 ∧ o = o2 := by simpa using hoo
        have hbw : bb < w1.heap.size := World.block_lt_of_cell? w1 _ e1
        have e2 : wr.cell? ⟨bb, o + k, none⟩ = some (natV T[k]) := cell_later hB e1
        have hlt' : (k : Int) < T.length := by omega
        have hx := HS.out.at hlt
        have HTC := Lib.hid (take_fold T (fun m x => min m (sz x)) s0 k hlt)
        have HTD := Lib.hid (take_fold T (fun m x => max m (sz x)) s0 k hlt)
        generalize T[k] = x at *
        have HX := Lib.hid (fun w => r_size (x : Int) x rfl hx w)
        have hsx := sz_lt x
        generalize hsxe : sz x = sx at *
        have HE := Lib.hid hsxe
        clear hsxe hx hoo e1
        go_wp2_with fail
        refine Ord.wp_region [(0, 0), (1, 0), (2, 0), (3, 0), (4, 0), (5, 0), (6, 0), (7, 0), (8, 0), (9, 0), (10, 0), (11, 0), (12, 0), (13, 0), (14, 0), (15, 0), (16, 0), (17, 2)] (fun _ => True) (by kernel_rfl) (by kernel_rfl) (fun c a d v w h => by cases d <;> exact h) trivial ?_
        go_wp2_with (first
          | ((with_reducible refine Ord.at_calm ?_); refine Ord.calm_skip rfl rfl (fun K hK => ?_)) | with_reducible refine Ord.walk_calm rfl rfl (fun K hK => ?_) | ((with_reducible refine Ord.at_wild ?_); refine Ord.wild_fieldAddr rfl rfl (fun W => by simp [go_sem]; rfl) (fun K hK => ?_)) | ((with_reducible refine Ord.at_wild ?_); refine Ord.wild_move rfl rfl (fun K hK => ?_)) | ((with_reducible refine Ord.at_wild ?_); refine Ord.wild_nilCheck rfl rfl (fun K hK => ?_)) | with_reducible refine Ord.walk_eff rfl (by first | (simp; done) | assumption | (go_simp; done) | (repeat (first | assumption | exact Below.refl _ _ | refine Below.drew ?_ | refine Below.alloc ?_ (by first | omega | (simp; done) | (simp; omega)) _ | refine Below.setCell ?_ (by first | omega | (simp; done) | (simp; omega)) _ | refine Below.trans ?_ (Below.mono (by assumption) (by first | omega | (simp; done) | (simp; omega)))))) (fun K hK => ?_) | with_reducible refine Ord.at_fork ?_ ?_ | with_reducible refine Ord.walk_nil ?_ | (with_reducible refine Ord.next_of (by first | (simp; done) | (go_simp; done) | (repeat (first | assumption | exact Below.refl _ _ | refine Below.drew ?_ | refine Below.alloc ?_ (by first | omega | (simp; done) | (simp; omega)) _ | refine Below.setCell ?_ (by first | omega | (simp; done) | (simp; omega)) _ | refine Below.trans ?_ (Below.mono (by assumption) (by first | omega | (simp; done) | (simp; omega)))))) (fun _ => ?_))
          | ((with_reducible refine Ord.at_calm ?_); refine Ord.calm_call rfl (fun W => Try.call50 _ W) (HX.out _) (fun K hK => ?_)) | ((with_reducible refine Ord.at_wild ?_); refine Ord.wild_call rfl (fun W => Try.call50 _ W) (fun W hW => HX.out _) (fun K hK => ?_)))
        have E1 : (if sx < m then (sx : Int) else m) = ((min m sx : Nat) : Int) := by split <;> omega
        have E2 : (if M < sx then (sx : Int) else M) = ((max M sx : Nat) : Int) := by split <;> omega
        rw [E1, E2]
        refine ⟨⟨k + 1, min m sx, max M sx, by omega, ?_, ?_, by omega, by omega, by go_num, by (repeat (first | assumption | exact Below.refl _ _ | refine Below.drew ?_ | refine Below.alloc ?_ (by first | omega | (simp; done) | (simp; omega)) _ | refine Below.setCell ?_ (by first | omega | (simp; done) | (simp; omega)) _ | refine Below.trans ?_ (Below.mono (by assumption) (by first | omega | (simp; done) | (simp; omega))))), ?_, ?_, ?_, ?_, by simpa using d4⟩, by simp [intOf]; omega⟩
        · show _ = _; rw [HTC.out, ← hm.out]
        · show _ = _; rw [HTD.out, ← hM.out]
        · simp [go_sem, d0, d1]
        · simp [go_sem, d0, d1]
        · simp [go_sem, d2, d3]
        · simp [go_sem, d2, d3]
      · replace r0 : wr.cell? ⟨w.heap.size + 1, 0, none⟩ = some (.int .i64 0) := (hB.cell z2).trans r0
        replace r1 : wr.cell? ⟨w.heap.size + 1, 1, none⟩ = some (.int .i64 0) := (hB.cell z2).trans r1
        replace r2 : wr.frozen? ⟨w.heap.size + 1, 0, none⟩ = false := (hB.frozen z2).trans r2
        replace r3 : wr.frozen? ⟨w.heap.size + 1, 1, none⟩ = false := (hB.frozen z2).trans r3
        have hmm : m = lo := by rw [HC.out, hm.out, List.take_of_length_le (by omega)]
        have hMM : M = hi := by rw [HD.out, hM.out, List.take_of_length_le (by omega)]
        subst hmm hMM
        have hBB := hBw.trans (hB.mono (by omega))
        clear HC HD hm hM
        go_wp2
        (try simp only [Exit.inBlock, Exit.then])
        refine bodyPost_ret (v := .tuple #[.agg #[.int .i64 m, .int .i64 M], .int .i64 0]) ((results_cell_tmp rfl _ _ _).trans (by simp [go_sem, r0, r1]; done)) rfl ⟨rfl, ?_⟩
        (repeat (first | assumption | exact Below.refl _ _ | refine Below.drew ?_ | refine Below.alloc ?_ (by first | omega | (simp; done) | (simp; omega)) _ | refine Below.setCell ?_ (by first | omega | (simp; done) | (simp; omega)) _ | refine Below.trans ?_ (Below.mono (by assumption) (by first | omega | (simp; done) | (simp; omega)))))
  · rw [if_neg e0]
    have hne : (toldE b true == 0) = false := by simpa using e0
    have hl0 : toldL b true = [] := by simp [toldL, e0]
    rw [hl0] at HT
    unfold bv at *
    generalize toldE b true = te at *
    clear hg hp hgl hpl e0
    go_enter Try.func15, Try.ntmps15
    go_wp2_with (first
      | (go_at_call 49; refine (HT.out _ ?_).mono ?_; (focus (repeat (first | assumption | exact Below.refl _ _ | refine Below.drew ?_ | refine Below.alloc ?_ (by first | omega | (simp; done) | (simp; omega)) _ | refine Below.setCell ?_ (by first | omega | (simp; done) | (simp; omega)) _ | refine Below.trans ?_ (Below.mono (by assumption) (by first | omega | (simp; done) | (simp; omega)))))); rintro e w1 ⟨a, c, rfl, hI, hb1⟩; obtain ⟨c1, f1, z1⟩ := after hb1 (by simp; rfl)))
    (try simp only [Exit.inBlock, Exit.then])
    refine bodyPost_ret (v := .tuple #[.agg #[.int .i64 0, .int .i64 0], .int .i64 te]) ((results_cell_tmp rfl _ _ _).trans (by simp [go_sem, c1]; done)) rfl ⟨rfl, ?_⟩
    (repeat (first | assumption | exact Below.refl _ _ | refine Below.drew ?_ | refine Below.alloc ?_ (by first | omega | (simp; done) | (simp; omega)) _ | refine Below.setCell ?_ (by first | omega | (simp; done) | (simp; omega)) _ | refine Below.trans ?_ (Below.mono (by assumption) (by first | omega | (simp; done) | (simp; omega)))))
end Go.Proofs.Ytjbjmoghloabpaa
/- What the functions of package bean count, in the words of the reference. -/
set_option linter.unusedVariables false
set_option linter.unusedSimpArgs false
namespace Go.Proofs.Ytjbjmoghloabpaa
open Go.RowKit Go.Proofs

theorem bothTo_eq (x y k : Nat) : bothTo x y k = (List.range k).countP fun i => hasB x i && hasB y i := by
  induction k with
  | zero => rfl
  | succ k ih =>
    rw [List.range_succ, List.countP_append, List.countP_singleton, ← ih, bothTo]
    cases (hasB x k && hasB y k) <;> rfl
theorem right_eq {b : Bn} (hv : valid b = true) (k w : Nat) (hk : k < (knOf b).length) : rightB b k w = rightK (hasB w) (knOf b)[k] := by
  have hlen := knOf_len b
  unfold rightB
  by_cases h : k < b.gs.length
  · rw [dif_pos h]
    have : (knOf b)[k] = gkn b.gs[k] := by
      simp only [knOf]; rw [List.getElem_append_left (by simpa using h)]; simp
    rw [this]
    simp only [gkn, rightK, cntG]
    rw [bothTo_eq]
  · have h2 : k - b.gs.length < b.ps.length := by omega
    rw [dif_neg h, dif_pos h2]
    have : (knOf b)[k] = pkn b.ps[k - b.gs.length] := by
      simp only [knOf]; rw [List.getElem_append_right (by simpa using h)]; simp
    rw [this]
    simp only [pkn, rightK]
theorem okTo_eq {b : Bn} (hv : valid b = true) (set w : Nat) : ∀ k, k ≤ (knOf b).length → okTo b set w k = (inB (sz w : Nat) b.lo b.hi && (selTo (knOf b) set k).all (rightK (hasB w)))
  | 0, _ => by simp [okTo, selTo]
  | k + 1, h => by
    rw [okTo, okTo_eq hv set w k (by omega), selTo_succ _ _ _ (by omega), List.all_append, right_eq hv k w (by omega)]
    cases hasB set k <;> simp [Bool.and_assoc]
theorem selTo_sub (ks : List Kn) (set : Nat) : ∀ k, k ≤ ks.length → (selTo ks set k).Sublist (ks.take k)
  | 0, _ => by simp [selTo]
  | k + 1, h => by
    rw [selTo_succ _ _ _ (by omega), List.take_succ_eq_append_getElem (by omega)]
    refine (selTo_sub ks set k (by omega)).append ?_
    split
    · exact List.Sublist.refl _
    · exact List.nil_sublist _
theorem knOf_in {b : Bn} (hv : valid b = true) : ∀ x ∈ knOf b, knIn b.V.toNat x := by
  intro x hx
  simp only [knOf, List.mem_append, List.mem_map] at hx
  rcases hx with ⟨g, hg, rfl⟩ | ⟨p, hp, rfl⟩
  · obtain ⟨i, hi, rfl⟩ := List.getElem_of_mem hg
    have := valid_g hv hi
    show _ < 256
    omega
  · obtain ⟨i, hi, rfl⟩ := List.getElem_of_mem hp
    have := valid_p hv hi
    exact ⟨by omega, by omega⟩
theorem knOf_gr (b : Bn) : ((knOf b).filterMap grOfK).length = b.gs.length := by
  have h1 : ∀ l : List (Int × Int × Int), ((l.map gkn).filterMap grOfK).length = l.length := by
    intro l; induction l with
    | nil => rfl
    | cons g l ih => simp [gkn, grOfK]
  have h2 : ∀ l : List (Int × Int × Bool), ((l.map pkn).filterMap grOfK).length = 0 := by
    intro l; induction l with
    | nil => rfl
    | cons g l ih => rw [List.map_cons, List.filterMap_cons]; exact ih
  unfold knOf
  rw [List.filterMap_append, List.length_append, h1, h2]; rfl
theorem counts_sel {b : Bn} (hv : valid b = true) (ws : List Kn) (hw : ∀ x ∈ ws, knIn b.V.toNat x) (hwl : ws.length ≤ 2) (set n : Nat) :
    countN b.V.toNat b.lo b.hi (sel (knOf b) set ws) n = (truthsL b set).countP fun w => ws.all (rightK (hasB w)) && (sz w == n) := by
  have hV := valid_V hv
  have hsub := selTo_sub (knOf b) set (knOf b).length (Nat.le_refl _)
  rw [List.take_length] at hsub
  rw [countN_eq (by omega)]
  · unfold truthsL
    rw [List.countP_filter]
    apply List.countP_congr
    intro w _
    unfold okB sel
    have e : b.kn = (knOf b).length := (knOf_len b).symm
    rw [e, okTo_eq hv set w _ (Nat.le_refl _), List.all_append]
    generalize inB (sz w : Nat) b.lo b.hi = x
    generalize List.all (selTo (knOf b) set (knOf b).length) (rightK (hasB w)) = y
    generalize ws.all (rightK (hasB w)) = z
    cases x <;> cases y <;> cases z <;> simp
  · intro x hx
    rcases List.mem_append.1 hx with hx | hx
    · exact knOf_in hv x (hsub.subset hx)
    · exact hw x hx
  · unfold sel
    rw [List.filterMap_append, List.length_append]
    have h1 := (hsub.filterMap grOfK).length_le
    rw [knOf_gr] at h1
    have h2 := List.length_filterMap_le grOfK ws
    have h3 := (valid_len hv).1
    omega
theorem sz_le {w : Nat} (h : w < 256) : sz w ≤ 8 := by
  rw [sz_eq w h]; have := List.countP_le_length (p := hasB w) (l := List.range 8); simpa using this
theorem csum_count (l : List Nat) (q : Nat → Bool) (hl : ∀ w ∈ l, sz w ≤ 8) : csum (fun n => l.countP fun w => q w && (sz w == n)) = l.countP q := by
  induction l with
  | nil => rfl
  | cons w l ih =>
    have ih := ih fun x hx => hl x (List.mem_cons_of_mem _ hx)
    have h8 := hl w (List.mem_cons_self ..)
    unfold csum at *
    simp only [List.countP_cons]
    rw [← ih]
    cases hq : q w
    · simp
    · rcases (show sz w = 0 ∨ sz w = 1 ∨ sz w = 2 ∨ sz w = 3 ∨ sz w = 4 ∨ sz w = 5 ∨ sz w = 6 ∨ sz w = 7 ∨ sz w = 8 by omega) with h | h | h | h | h | h | h | h | h <;> rw [h] <;> simp <;> omega
theorem truthsL_lt {b : Bn} (hv : valid b = true) {set w : Nat} (h : w ∈ truthsL b set) : w < 256 := by
  have hV := valid_V hv
  simp only [truthsL, List.mem_filter, List.mem_range] at h
  have h8 : (2 : Nat) ^ b.V.toNat ≤ 2 ^ 8 := Nat.pow_le_pow_right (by omega) (by omega)
  omega
theorem csum_sel {b : Bn} (hv : valid b = true) (ws : List Kn) (hw : ∀ x ∈ ws, knIn b.V.toNat x) (hwl : ws.length ≤ 2) (set : Nat) :
    csum (countN b.V.toNat b.lo b.hi (sel (knOf b) set ws)) = (truthsL b set).countP fun w => ws.all (rightK (hasB w)) := by
  rw [← csum_count (truthsL b set) _ fun w h => sz_le (truthsL_lt hv h)]
  congr 1
  funext n
  exact counts_sel hv ws hw hwl set n
theorem sel_all (b : Bn) (ws : List Kn) : sel (knOf b) (2 ^ b.kn - 1) ws = knOf b ++ ws := by
  have : b.kn = (knOf b).length := (knOf_len b).symm
  rw [this, sel_full]
/-- How many truths there are. -/
theorem csum_set {b : Bn} (hv : valid b = true) (set : Nat) : csum (countN b.V.toNat b.lo b.hi (sel (knOf b) set [])) = (truthsL b set).length := by
  rw [csum_sel hv [] (by simp) (by simp)]
  simp
theorem csum_TL {b : Bn} (hv : valid b = true) : csum (countN b.V.toNat b.lo b.hi (knOf b)) = (TL b).length := by
  have := csum_set hv (2 ^ b.kn - 1)
  rwa [sel_all, List.append_nil] at this
theorem countN_TL {b : Bn} (hv : valid b = true) (n : Nat) : countN b.V.toNat b.lo b.hi (knOf b) n = (TL b).countP fun w => sz w == n := by
  have := counts_sel hv [] (by simp) (by simp) (2 ^ b.kn - 1) n
  rw [sel_all, List.append_nil] at this
  rw [this]; simp; rfl
theorem bit_pow : ∀ i, i < 8 → ∀ j, j < 8 → hasB (2 ^ i) j = (j == i) := by decide
theorem right_one (c : Nat → Bool) (i : Nat) (h : i < 8) : rightK c (.g (2 ^ i) 1 1) = c i := by
  have hb := bit_pow i h
  simp only [rightK, cntG]
  have : ((List.range 8).countP fun j => hasB (2 ^ i) j && c j) = (c i).toNat := by
    have e : ((List.range 8).countP fun j => hasB (2 ^ i) j && c j) = (List.range 8).countP fun j => (j == i) && c j := by
      apply List.countP_congr
      intro j hj
      rw [hb j (List.mem_range.1 hj)]
    rw [e]
    rcases (show i = 0 ∨ i = 1 ∨ i = 2 ∨ i = 3 ∨ i = 4 ∨ i = 5 ∨ i = 6 ∨ i = 7 by omega) with rfl | rfl | rfl | rfl | rfl | rfl | rfl | rfl <;> simp [List.range_succ, List.countP_cons] <;> cases c _ <;> rfl
  rw [this]
  cases c i <;> rfl
theorem knIn_one {V i : Nat} (h : i < 8) : knIn V (.g (2 ^ i) 1 1) := by
  show 2 ^ i < 256
  have := Nat.pow_le_pow_right (show 0 < 2 by omega) (show i ≤ 7 by omega)
  have e : (2 : Nat) ^ 7 = 128 := rfl
  omega
/-- In how many truths a voter gave a white bean. -/
theorem csum_one {b : Bn} (hv : valid b = true) (i : Nat) (h : i < 8) : csum (cOne b.V.toNat b.lo b.hi (knOf b) i) = cntH (TL b) i := by
  have := csum_sel hv [.g (2 ^ i) 1 1] (by intro x hx; simp only [List.mem_singleton] at hx; subst hx; exact knIn_one h) (by simp) (2 ^ b.kn - 1)
  rw [sel_all] at this
  unfold cOne cntH TL
  rw [this]
  apply List.countP_congr
  intro w _
  simp only [List.all_cons, List.all_nil, Bool.and_true]
  rw [right_one _ _ h]
theorem one_with {b : Bn} (hv : valid b = true) (i n : Nat) (h : i < 8) : cOne b.V.toNat b.lo b.hi (knOf b) i n = cntH (withL (TL b) n) i := by
  have := counts_sel hv [.g (2 ^ i) 1 1] (by intro x hx; simp only [List.mem_singleton] at hx; subst hx; exact knIn_one h) (by simp) (2 ^ b.kn - 1) n
  rw [sel_all] at this
  unfold cOne cntH withL TL
  rw [this, List.countP_filter]
  apply List.countP_congr
  intro w _
  simp only [List.all_cons, List.all_nil, Bool.and_true]
  rw [right_one _ _ h]
  simp only [Bool.and_eq_true, beq_iff_eq, decide_eq_true_eq]
  constructor <;> (intro h; exact ⟨by first | exact h.1 | exact h.2, by have := h.1; have := h.2; omega⟩)
theorem with_len {b : Bn} (hv : valid b = true) (n : Nat) : countN b.V.toNat b.lo b.hi (knOf b) n = (withL (TL b) n).length := by
  rw [countN_TL hv, withL, ← List.countP_eq_length_filter]
  apply List.countP_congr
  intro w _
  simp only [beq_iff_eq, decide_eq_true_eq]
  omega
theorem csum_same {b : Bn} (hv : valid b = true) (i j : Nat) (hi : i < b.V.toNat) (hj : j < b.V.toNat) : csum (countN b.V.toNat b.lo b.hi (knOf b ++ [.p i j true])) = sameN (TL b) i j := by
  have := csum_sel hv [.p i j true] (by intro x hx; simp only [List.mem_singleton] at hx; subst hx; exact ⟨hi, hj⟩) (by simp) (2 ^ b.kn - 1)
  rw [sel_all] at this
  rw [this]
  unfold sameN TL
  apply List.countP_congr
  intro w _
  simp [rightK]
/-- Whose beans are known. -/
theorem sure_mask (m : (Nat → Nat) → Nat) (V : Nat) (lo hi : Int) (ks : List Kn) (l : List Nat) (hl : m (countN V lo hi ks) = l.length) (h : ∀ i, i < V → m (cOne V lo hi ks i) = cntH l i) (hp : 0 < l.length) :
    ∀ k, k ≤ V → sureTo m V lo hi ks k = (whiteM l k, blackM l k)
  | 0, _ => rfl
  | k + 1, hk => by
    rw [sureTo, sure_mask m V lo hi ks l hl h hp k (by omega), h k (by omega), hl]
    simp only [whiteM, blackM, maskTo]
    by_cases h1 : cntH l k = l.length
    · rw [if_pos h1]
      have h2 : (cntH l k == l.length) = true := by simpa using h1
      have h3 : (cntH l k == 0) = false := by simp; omega
      simp only [h2, h3, if_true, if_false, Bool.false_eq_true, Nat.add_zero]
    · rw [if_neg h1]
      have h2 : (cntH l k == l.length) = false := by simpa using h1
      simp only [h2, Bool.false_eq_true, if_false, Nat.add_zero]
      by_cases h0 : cntH l k = 0
      · rw [if_pos h0]
        have h3 : (cntH l k == 0) = true := by simpa using h0
        simp only [h3, if_true, if_false, Bool.false_eq_true, Nat.add_zero]
      · rw [if_neg h0]
        have h3 : (cntH l k == 0) = false := by simpa using h0
        simp only [h3, if_true, if_false, Bool.false_eq_true, Nat.add_zero]
theorem sure_all {b : Bn} (hv : valid b = true) (hp : 0 < (TL b).length) : sureTo csum b.V.toNat b.lo b.hi (knOf b) b.V.toNat = (whiteM (TL b) b.V.toNat, blackM (TL b) b.V.toNat) :=
  sure_mask csum _ _ _ _ (TL b) (csum_TL hv) (fun i hi => csum_one hv i (by have := valid_V hv; omega)) hp _ (Nat.le_refl _)
theorem sure_at {b : Bn} (hv : valid b = true) (n : Nat) (hp : 0 < (withL (TL b) n).length) : sureTo (atN n) b.V.toNat b.lo b.hi (knOf b) b.V.toNat = (whiteM (withL (TL b) n) b.V.toNat, blackM (withL (TL b) n) b.V.toNat) :=
  sure_mask (atN n) _ _ _ _ (withL (TL b) n) (with_len hv n) (fun i hi => one_with hv i n (by have := valid_V hv; omega)) hp _ (Nat.le_refl _)
end Go.Proofs.Ytjbjmoghloabpaa
