/- Parts of a proof: ClashP, ClashC. -/
import Derived.Test.YtjbjmoghloabpaaM45
import Derived.Test.YtjbjmoghloabpaaM39
/- Plain laws of the law BeanClash. -/
set_option linter.unusedVariables false
set_option linter.unusedSimpArgs false
namespace Go.Proofs.Ytjbjmoghloabpaa
open Go.RowKit Go.Proofs
attribute [local irreducible] Ord.walk
theorem bitI_hasB (x i : Nat) : bitI x i = if hasB x i then 1 else 0 := by
  unfold bitI hasB
  rcases Nat.mod_two_eq_zero_or_one (x / 2 ^ i) with h | h <;> rw [h] <;> rfl
/-- What of a list a set takes. -/
def selL {α : Type} (l : List α) (s o : Nat) : Nat → List α
  | 0 => []
  | k + 1 => selL l s o k ++ if hasB s (o + k) then (l[k]?).toList else []
theorem selL_yes {α : Type} (l : List α) (s o k : Nat) (h : k < l.length) (hb : hasB s (o + k) = true) : selL l s o (k + 1) = selL l s o k ++ [l[k]] := by
  rw [selL, if_pos hb, List.getElem?_eq_getElem h]; rfl
theorem selL_no {α : Type} (l : List α) (s o k : Nat) (hb : hasB s (o + k) = false) : selL l s o (k + 1) = selL l s o k := by
  rw [selL, hb]; simp
theorem selL_len {α : Type} (l : List α) (s o : Nat) : ∀ k, (selL l s o k).length ≤ k
  | 0 => Nat.le_refl _
  | k + 1 => by
    have ih := selL_len l s o k
    rw [selL, List.length_append]
    have : (if hasB s (o + k) = true then (l[k]?).toList else []).length ≤ 1 := by
      split
      · cases l[k]? <;> simp
      · simp
    omega
theorem selL_mem {α : Type} (l : List α) (s o : Nat) : ∀ k, ∀ x ∈ selL l s o k, x ∈ l
  | 0, x, h => by cases h
  | k + 1, x, h => by
    rw [selL, List.mem_append] at h
    rcases h with h | h
    · exact selL_mem l s o k x h
    · split at h
      · rw [Option.mem_toList] at h; exact List.mem_of_getElem? h
      · cases h
theorem selL_map {α β : Type} (f : α → β) (l : List α) (s o : Nat) : ∀ k, (selL l s o k).map f = selL (l.map f) s o k
  | 0 => rfl
  | k + 1 => by
    rw [selL, selL, List.map_append, selL_map f l s o k]
    congr 1
    split
    · rw [List.getElem?_map]; cases l[k]? <;> rfl
    · rfl
theorem selTo_left (l1 l2 : List Kn) (s : Nat) : ∀ k, k ≤ l1.length → selTo (l1 ++ l2) s k = selL l1 s 0 k
  | 0, _ => by simp [selTo, selL]
  | k + 1, h => by
    rw [selTo_succ _ _ _ (by rw [List.length_append]; omega), selTo_left l1 l2 s k (by omega), selL, List.getElem_append_left (by omega), List.getElem?_eq_getElem (by omega), Nat.zero_add]
    rfl
theorem selTo_right (l1 l2 : List Kn) (s : Nat) : ∀ k, k ≤ l2.length → selTo (l1 ++ l2) s (l1.length + k) = selL l1 s 0 l1.length ++ selL l2 s l1.length k
  | 0, _ => by rw [Nat.add_zero, selTo_left _ _ _ _ (Nat.le_refl _), selL, List.append_nil]
  | k + 1, h => by
    rw [← Nat.add_assoc, selTo_succ _ _ _ (by rw [List.length_append]; omega), selTo_right l1 l2 s k (by omega), selL, List.getElem_append_right (by omega), List.getElem?_eq_getElem (by omega), List.append_assoc]
    simp
/-- A vote of which just what of a set is known. -/
def subB (b : Bn) (s : Nat) : Bn := { b with gs := selL b.gs s 0 b.gs.length, ps := selL b.ps s b.gs.length b.ps.length }
theorem kn_subB (b : Bn) (s : Nat) : knOf (subB b s) = selTo (knOf b) s b.kn := by
  unfold knOf Bn.kn
  show (selL b.gs s 0 b.gs.length).map gkn ++ (selL b.ps s b.gs.length b.ps.length).map pkn = _
  have h := selTo_right (b.gs.map gkn) (b.ps.map pkn) s b.ps.length (by simp)
  rw [List.length_map] at h
  rw [h, selL_map, selL_map]
theorem subB_valid {b : Bn} (hv : valid b = true) (s : Nat) : valid (subB b s) = true := by
  simp only [valid, Bool.and_eq_true] at hv ⊢
  refine ⟨⟨?_, List.all_eq_true.2 fun x hx => List.all_eq_true.1 hv.1.2 x (selL_mem _ _ _ _ x hx)⟩, List.all_eq_true.2 fun x hx => List.all_eq_true.1 hv.2 x (selL_mem _ _ _ _ x hx)⟩
  have h := hv.1.1
  simp only [headOk, Bool.and_eq_true, decide_eq_true_eq] at h ⊢
  refine ⟨⟨h.1.1, Nat.le_trans (selL_len _ _ _ _) h.1.2⟩, Nat.le_trans (selL_len _ _ _ _) h.2⟩
theorem TL_subB {b : Bn} (hv : valid b = true) (s : Nat) : TL (subB b s) = truthsL b s := by
  have hx := subB_valid hv s
  show (List.range (2 ^ b.V.toNat)).filter _ = (List.range (2 ^ b.V.toNat)).filter _
  apply List.filter_congr
  intro w _
  unfold okB
  rw [okTo_eq hx _ _ _ (by rw [kn_len]; exact Nat.le_refl _), okTo_eq hv _ _ _ (by rw [kn_len]; exact Nat.le_refl _)]
  have h0 : selTo (knOf (subB b s)) (2 ^ (subB b s).kn - 1) (subB b s).kn = knOf (subB b s) := by
    have := sel_full (knOf (subB b s)) []
    unfold sel at this
    rw [List.append_nil, List.append_nil, kn_len] at this
    exact this
  rw [h0, kn_subB]
  rfl
theorem count_subB {b : Bn} (hv : valid b = true) (s : Nat) : countR (subB b s) = (((truthsL b s).length : Int), 0) := by
  have hx := subB_valid hv s
  unfold countR
  rw [if_pos (by unfold chkE; simp [hx]), TL_subB hv]
theorem sz_less : ∀ i, i < 8 → ∀ x, x < 256 → hasB x i = true → sz (x ^^^ (x &&& 2 ^ i)) < sz x := by decide +kernel
theorem xor_less : ∀ i, i < 8 → ∀ x, x < 256 → x ^^^ (x &&& 2 ^ i) ≤ x := by decide +kernel
/-- What is returned of what is known. -/
structure Cf (b : Bn) (x e : Int) : Prop where
  clash : clashR b = (x, e)
  case : (e = 4 ∧ x = 0 ∧ (truthsL b (2 ^ b.kn - 1)).isEmpty = false) ∨ (∃ m : Nat, e = 0 ∧ x = m ∧ m < 2 ^ b.kn ∧ (truthsL b (2 ^ b.kn - 1)).isEmpty = true ∧ (truthsL b m).isEmpty = true ∧
    (∀ i, i < b.kn → hasB m i = true → (truthsL b (m ^^^ (m &&& 2 ^ i))).isEmpty = false) ∧ ∀ y, y < 2 ^ b.kn → (truthsL b y).isEmpty = true → sz m < sz y ∨ (sz m = sz y ∧ m ≤ y))
theorem cf {b : Bn} (hv : valid b = true) : ∃ x e, Cf b x e := by
  have e1 : chkE b true = 0 := by unfold chkE; simp [hv]
  have h8 := kn_8 hv
  have hp8 : 2 ^ b.kn ≤ 2 ^ 8 := Nat.pow_le_pow_right (by omega) h8
  have e8 : (2 : Nat) ^ 8 = 256 := rfl
  by_cases ht : TL b = []
  · obtain ⟨h1, h2, h3⟩ := bestTo_prop (fun s => (truthsL b s).isEmpty) b.kn h8 (by show (TL b).isEmpty = true; rw [ht]; rfl) (2 ^ b.kn) (Nat.le_refl _)
    refine ⟨(clashB b : Nat), 0, ⟨by unfold clashR; rw [if_pos e1, if_pos ht], .inr ⟨clashB b, rfl, rfl, h2, by show (TL b).isEmpty = true; rw [ht]; rfl, h1, fun i hi hb => ?_, fun y hy hf => h3 y hy hf⟩⟩⟩
    change clashB b < 2 ^ b.kn at h2
    have hl := sz_less i (by omega) (clashB b) (by omega) hb
    have hx := xor_less i (by omega) (clashB b) (by omega)
    cases hf : (truthsL b (clashB b ^^^ (clashB b &&& 2 ^ i))).isEmpty
    · rfl
    · have h4 := h3 _ (show _ < 2 ^ b.kn by omega) hf
      change sz (clashB b) < _ ∨ (sz (clashB b) = _ ∧ clashB b ≤ _) at h4
      omega
  · refine ⟨0, 4, ⟨by unfold clashR; rw [if_pos e1, if_neg ht], .inl ⟨rfl, rfl, ?_⟩⟩⟩
    show (TL b).isEmpty = false
    cases h : TL b with
    | nil => exact absurd h ht
    | cons _ _ => rfl
end Go.Proofs.Ytjbjmoghloabpaa
/- BeanClash's closure: does what of a set is known clash? -/
set_option linter.unusedVariables false
set_option linter.unusedSimpArgs false
namespace Go.Proofs.Ytjbjmoghloabpaa
open Go.RowKit Go.Proofs
attribute [local irreducible] Ord.walk
set_option maxHeartbeats 4000000 in
set_option maxRecDepth 100000 in
theorem l_clash1 (b : Bn) (ga : Option Addr) (gc : Nat) (pa : Option Addr) (pc : Nat) (s p : Nat) (w : World) (bb : Blk w p #[.int .i64 b.V, .int .i64 b.nd, .int .i64 b.lo, .int .i64 b.hi, .slice ga b.gs.length gc, .slice pa b.ps.length pc] 27)
    (hg : GsAt w ga b.gs) (hp : PsAt w pa b.ps) (hv : valid b = true) (hs : s < 256) :
    Calls Try.prog 42 #[.int .i64 s, .pointer (some ⟨p, 0, none⟩)] w (Gives (.bool (truthsL b s).isEmpty) w) := by
  have hs9 : s < 4611686018427387904 := by omega
  have HL := Lib.hid (valid_len hv)
  have hlen8 : (truthsL b s).length ≤ 256 := truthsL_len hv s
  have HC : Hid (∀ g' c' p' d' W, GsAt W g' (subB b s).gs → PsAt W p' (subB b s).ps → Calls Try.prog 24 #[bv (subB b s) g' c' p' d'] W (Gives2 (.int .i64 (truthsL b s).length) (.int .i64 0) W)) := fun g' c' p' d' W h1 h2 => by
    have h3 := selL_len b.gs s 0 b.gs.length
    have h4 := selL_len b.ps s b.gs.length b.ps.length
    have := HL.out
    have := bb_Count (subB b s) g' c' p' d' W h1 h2 (by show (selL _ _ _ _).length ≤ 40; omega) (by show (selL _ _ _ _).length ≤ 40; omega); rwa [count_subB hv] at this
  obtain ⟨i0, hi0, hz0, hz1, hz2⟩ := info_parts Try.info49
  obtain ⟨j0, hj0, kz0, kz1, kz2⟩ := info_parts Try.info54
  have HR : Hid (subB b s = { b with gs := selL b.gs s 0 b.gs.length, ps := selL b.ps s b.gs.length b.ps.length }) := rfl
  have HM : Hid ((truthsL b s).isEmpty = decide (((truthsL b s).length : Int) = 0)) := by
    show _ = _
    cases truthsL b s with
    | nil => rfl
    | cons x l => symm; simp; omega
  generalize (truthsL b s).isEmpty = em at *
  generalize (truthsL b s).length = cnt at *
  generalize subB b s = sb at *
  have hpl := bb.lt
  clear hv
  rcases b with ⟨V, nd, lo, hi, gs, ps⟩
  simp only at *
  go_enter Try.func42, Try.ntmps42
  go_wp2_with (first
    | (refine wpList_load_blk 27 (.tmp 1) agg_bean rfl rfl rfl bb rfl ?_)
    | (refine wpList_store_blk 27 (.tmp 4) (.tmp 11) agg_bean rfl rfl rfl rfl (Blk.new _ _ _) rfl rfl (by simp [Value.oneCell']) ?_; intro w2 h2; refine at_stop ?_))
  unfold Stop
  have b4 := h2.blk
  have hb2 : Below w.heap.size w w2 := h2.below ((Below.refl _ _).alloc (Nat.le_refl _) _) (Nat.le_refl _)
  have bb2 := bb.below hb2 bb.lt
  have hs2 : w.heap.size < w2.heap.size := b4.lt
  clear h2
  generalize hp6 : w.heap.size = p6 at *
  have HP6 := Lib.hid hp6
  clear hp6
  have r4 := b4.cell
  have f4 := b4.free
  have rb := bb2.cell
  have bb3 : Blk ((w2.setCell ⟨p6, 4, none⟩ (.slice none 0 0)).setCell ⟨p6, 5, none⟩ (.slice none 0 0)) p _ _ := (bb2.other (by show _ ≠ p6; omega) _).other (by show _ ≠ p6; omega) _
  have b43 : Blk ((w2.setCell ⟨p6, 4, none⟩ (.slice none 0 0)).setCell ⟨p6, 5, none⟩ (.slice none 0 0)) p6 #[.int .i64 V, .int .i64 nd, .int .i64 lo, .int .i64 hi, .slice none 0 0, .slice none 0 0] 27 := (b4.set 4 _).set 5 _
  have hB3 : Below p6 w ((w2.setCell ⟨p6, 4, none⟩ (.slice none 0 0)).setCell ⟨p6, 5, none⟩ (.slice none 0 0)) := (hb2.setCell (by show _ ≤ p6; omega) _).setCell (by show _ ≤ p6; omega) _
  go_wp2_with fail
  obtain ⟨w3, hw3⟩ : ∃ w3, ((w2.setCell ⟨p6, 4, none⟩ (.slice none 0 0)).setCell ⟨p6, 5, none⟩ (.slice none 0 0)) = w3 := ⟨_, rfl⟩
  rw [hw3] at bb3 b43 hB3
  rw [hw3]
  clear hw3 r4 f4 rb b4 bb2 hb2 hs2
  have hsq : p6 < w3.heap.size := b43.lt
  have b6s := b43
  have bbs := bb3
  have hBs := hB3
  clear b43 bb3 hB3
  go_loopw [17] (fun i wr => ∃ (k : Nat) (gv : Value), k ≤ gs.length ∧ i = .int .i64 k ∧ Off [p6] w3.heap.size w3 wr ∧ Blk wr p6 #[.int .i64 V, .int .i64 nd, .int .i64 lo, .int .i64 hi, gv, .slice none 0 0] 27 ∧ wr.ownsRow w3.heap.size 49 3 gv (selL gs s 0 k).length ((selL gs s 0 k).flatMap gcell)) (fun i _ => gs.length - (intOf i).toNat)
  case atStart => exact ⟨0, .slice none 0 0, by omega, rfl, Off.refl _ _ _, b6s, World.ownsRow_nil _ _ _ _⟩
  case round =>
    obtain ⟨k, gv, hk, rfl, hO, b6, hown⟩ := hrel
    have hsO := hO.size
    have hll := selL_len gs s 0 k
    by_cases hlt : k < gs.length
    · have hlti : (k : Int) < (gs.length : Int) := by omega
      have hL4 := HL.out.1
      have hL41 := HL.out.1
      obtain ⟨gb, go, rfl, e1, e2, e3⟩ := hg k hlt
      have hgb : gb < p6 := by have h := World.block_lt_of_cell? w _ e1; rw [HP6.out] at h; exact h
      have hcell : ∀ o, wr.cell? ⟨gb, o, none⟩ = w.cell? ⟨gb, o, none⟩ := fun o => (hO.cell (a := ⟨gb, o, none⟩) (by show gb < _; omega) (by show gb ∉ [p6]; simp; omega)).trans (hBs.cell (p := ⟨gb, o, none⟩) hgb)
      have i1 := (hcell _).trans e1
      have i2 := (hcell _).trans e2
      have i3 := (hcell _).trans e3
      have hq := bit_i64 s (0 + k) hs9
      rw [bitI_hasB] at hq
      have HTK := Lib.hid (selL_yes gs s 0 k hlt)
      have HTN := Lib.hid (selL_no gs s 0 k)
      have r6 := b6.cell
      have f6 := b6.free
      have bbr := hO.blk bbs (by omega) (by simp; omega)
      have rb := bbr.cell
      have hb64 := b6.lt
      generalize gs[k] = x at *
      obtain ⟨x1, x2, x3⟩ := x
      simp only at i1 i2 i3
      clear e1 e2 e3 hcell
      have hok : (0 + k : Nat) < 64 := by omega
      cases hb : hasB s (0 + k)
      · rw [hb] at hq
        simp only [Bool.false_eq_true, if_false] at hq
        rw [Nat.zero_add] at hq
        go_wp2_with fail
        exact ⟨⟨k + 1, gv, by omega, by go_num, hO.alloc hsO _, b6.alloc _, by rw [HTN.out hb]; exact World.ownsRow.alloc hown _⟩, by simp [intOf]; omega⟩
      · rw [hb] at hq
        simp only [if_true] at hq
        rw [Nat.zero_add] at hq
        go_wp2_with (first
          | (at_builtin; refine at_stop ?_))
        unfold Stop
        refine wpList_append_own _ rfl (.tmp 28) (.tmp 30) 24 rfl w3.heap.size 49 i0 (.agg #[.int .i64 0, .int .i64 0, .int .i64 0]) 3 24 Try.underlying24 hi0 hz0 hz1 hz2 rfl (by decide) gv (selL gs s 0 k).length ((selL gs s 0 k).flatMap gcell) rfl (World.ownsRow.alloc (World.ownsRow.alloc hown _) _) ⟨wr.heap.size + 1, 0, none⟩ 1 1 (gcell (x1, x2, x3)) rfl rfl (news_blk (A := #[.int .i64 x1, .int .i64 x2, .int .i64 x3]) (Blk.new' _ _ _ _ (by simp))) (by simp [gcell, Value.oneCell']) (by unfold maxLen; omega) (by omega) (by simp; omega) ?_
        intro v6 w6 hown6 hgrow6 _
        obtain ⟨g6, q6, rfl⟩ := own_slice hown6 (by omega)
        have hne : gv.ownBlock ≠ some p6 := fun e => by have := (hown.lt p6 e).1; omega
        have b66 : Blk w6 p6 _ _ := (hgrow6.block p6 (by simp; omega) (Ne.symm hne)).trans ((b6.alloc _).alloc _)
        have hO6 : Off [p6] w3.heap.size w3 w6 := (((hO.alloc hsO _).alloc (by simp; omega) _).grown hgrow6 (by simp; omega) (fun g hg => .inr (hown.lt g hg).1))
        have c6 : w6.cell? ⟨p6, 4, none⟩ = some gv := by rw [b66.cell]; simp
        have f6' : w6.frozen? ⟨p6, 4, none⟩ = false := b66.free 4
        clear r6 f6 hgrow6 i1 i2 i3 rb
        go_wp2_with fail
        refine ⟨⟨k + 1, _, by omega, by go_num, hO6.setCell (.inl (by simp)) _, b66.set 4 _, ?_⟩, by simp [intOf]; omega⟩
        have hown7 := own_store hown6 (Nat.le_refl _) b66 (by decide) (fun j hj => Below.heap_setCell w6 ⟨p6, 4, none⟩ (.slice (some ⟨g6, 0, none⟩) ((selL gs s 0 k).length + 1) q6) j hj)
        rw [HTK.out hb, List.flatMap_append, List.length_append]
        simpa using hown7
    · have hlti : ¬ (k : Int) < (gs.length : Int) := by omega
      have e : k = gs.length := by omega
      subst e
      have hsn := hO.size
      have bbq := hO.blk bbs (by omega) (by simp; omega)
      have hBq : Below p6 w wr := hBs.trans (hO.below (by first | omega | (simp; done) | (simp; omega)) (by first | omega | (simp; done) | (simp; omega)))
      have hL1 := HL.out.1
      have rb := bbq.cell
      clear hO b6s bbs
      have hp6q := b6.lt
      go_wp2_with fail
      clear rb
      have b6s := b6
      have bbs := bbq
      have hBs1 := hBq
      clear b6 bbq hBq hBs
      have hBs := hBs1
      clear hBs1
      generalize wr = wq at *
      have hsq := hp6q
      go_loopw [37] (fun i wr => ∃ (k : Nat) (pv : Value), k ≤ ps.length ∧ i = .int .i64 k ∧ Off [p6] wq.heap.size wq wr ∧ Blk wr p6 #[.int .i64 V, .int .i64 nd, .int .i64 lo, .int .i64 hi, gv, pv] 27 ∧ wr.ownsRow wq.heap.size 54 3 pv (selL ps s gs.length k).length ((selL ps s gs.length k).flatMap pcell)) (fun i _ => ps.length - (intOf i).toNat)
      case atStart => exact ⟨0, .slice none 0 0, by omega, rfl, Off.refl _ _ _, b6s, World.ownsRow_nil _ _ _ _⟩
      case round =>
        obtain ⟨k, pv, hk, rfl, hO, b6, hownx⟩ := hrel
        have hsO := hO.size
        have hll := selL_len ps s gs.length k
        by_cases hlt : k < ps.length
        · have hlti : (k : Int) < (ps.length : Int) := by omega
          have hL4 := HL.out.2
          have hL41 := HL.out.1
          obtain ⟨gb, go, rfl, e1, e2, e3⟩ := hp k hlt
          have hgb : gb < p6 := by have h := World.block_lt_of_cell? w _ e1; rw [HP6.out] at h; exact h
          have hcell : ∀ o, wr.cell? ⟨gb, o, none⟩ = w.cell? ⟨gb, o, none⟩ := fun o => (hO.cell (a := ⟨gb, o, none⟩) (by show gb < _; omega) (by show gb ∉ [p6]; simp; omega)).trans (hBs.cell (p := ⟨gb, o, none⟩) hgb)
          have i1 := (hcell _).trans e1
          have i2 := (hcell _).trans e2
          have i3 := (hcell _).trans e3
          have hq := bit_i64 s (gs.length + k) hs9
          rw [bitI_hasB] at hq
          have HTK := Lib.hid (selL_yes ps s gs.length k hlt)
          have HTN := Lib.hid (selL_no ps s gs.length k)
          have r6 := b6.cell
          have f6 := b6.free
          have bbr := hO.blk bbs (by omega) (by simp; omega)
          have rb := bbr.cell
          have hb64 := b6.lt
          generalize ps[k] = x at *
          obtain ⟨x1, x2, x3⟩ := x
          simp only at i1 i2 i3
          clear e1 e2 e3 hcell
          have hok : (gs.length + k : Nat) < 64 := by omega
          cases hb : hasB s (gs.length + k)
          · rw [hb] at hq
            simp only [Bool.false_eq_true, if_false] at hq
            have hg4 : (gs.length : Int) ≤ 4 := by omega
            have hk4 : (k : Int) < 4 := by omega
            have hsum : ((gs.length : Nat) : Int) + (k : Int) = ((gs.length + k : Nat) : Int) := by omega
            have HB := Lib.hid hb
            clear hb
            generalize gs.length + k = m at hq hok hsum
            go_wp2_with fail
            exact ⟨⟨k + 1, pv, by omega, by go_num, hO.alloc hsO _, b6.alloc _, by rw [HTN.out HB.out]; exact World.ownsRow.alloc hownx _⟩, by simp [intOf]; omega⟩
          · rw [hb] at hq
            simp only [if_true] at hq
            have hg4 : (gs.length : Int) ≤ 4 := by omega
            have hk4 : (k : Int) < 4 := by omega
            have hsum : ((gs.length : Nat) : Int) + (k : Int) = ((gs.length + k : Nat) : Int) := by omega
            have HB := Lib.hid hb
            clear hb
            generalize gs.length + k = m at hq hok hsum
            go_wp2_with (first
              | (at_builtin; refine at_stop ?_))
            unfold Stop
            refine wpList_append_own _ rfl (.tmp 52) (.tmp 54) 25 rfl wq.heap.size 54 j0 (.agg #[.int .i64 0, .int .i64 0, .bool false]) 3 24 Try.underlying25 hj0 kz0 kz1 kz2 rfl (by decide) pv (selL ps s gs.length k).length ((selL ps s gs.length k).flatMap pcell) rfl (World.ownsRow.alloc (World.ownsRow.alloc hownx _) _) ⟨wr.heap.size + 1, 0, none⟩ 1 1 (pcell (x1, x2, x3)) rfl rfl (news_blk (A := #[.int .i64 x1, .int .i64 x2, .bool x3]) (Blk.new' _ _ _ _ (by simp))) (by simp [pcell, Value.oneCell']) (by unfold maxLen; omega) (by omega) (by simp; omega) ?_
            intro v6 w6 hown6 hgrow6 _
            obtain ⟨g6, q6, rfl⟩ := own_slice hown6 (by omega)
            have hne : pv.ownBlock ≠ some p6 := fun e => by have := (hownx.lt p6 e).1; omega
            have b66 : Blk w6 p6 _ _ := (hgrow6.block p6 (by simp; omega) (Ne.symm hne)).trans ((b6.alloc _).alloc _)
            have hO6 : Off [p6] wq.heap.size wq w6 := (((hO.alloc hsO _).alloc (by simp; omega) _).grown hgrow6 (by simp; omega) (fun g hg => .inr (hownx.lt g hg).1))
            have c6 : w6.cell? ⟨p6, 5, none⟩ = some pv := by rw [b66.cell]; simp
            have f6' : w6.frozen? ⟨p6, 5, none⟩ = false := b66.free 5
            clear r6 f6 hgrow6 i1 i2 i3 rb
            go_wp2_with fail
            refine ⟨⟨k + 1, _, by omega, by go_num, hO6.setCell (.inl (by simp)) _, b66.set 5 _, ?_⟩, by simp [intOf]; omega⟩
            have hown7 := own_store hown6 (Nat.le_refl _) b66 (by decide) (fun j hj => Below.heap_setCell w6 ⟨p6, 5, none⟩ (.slice (some ⟨g6, 0, none⟩) ((selL ps s gs.length k).length + 1) q6) j hj)
            rw [HTK.out HB.out, List.flatMap_append, List.length_append]
            simpa using hown7
        · have hlti : ¬ (k : Int) < (ps.length : Int) := by omega
          have e : k = ps.length := by omega
          subst e
          have hOG : OwnG wr w3.heap.size gv (selL gs s 0 gs.length) := own_move hown (Nat.le_refl _) fun g hg => hO.block g (hown.lt g hg).2 (by have := (hown.lt g hg).1; simp; omega)
          have hOP : OwnP wr wq.heap.size pv (selL ps s gs.length ps.length) := hownx
          obtain ⟨g9, c9, rfl, hgs⟩ := hOG.at
          obtain ⟨p9, d9, rfl, hps⟩ := hOP.at
          have hCt := HC.out g9 c9 p9 d9 wr (by rw [HR.out]; exact hgs) (by rw [HR.out]; exact hps)
          rw [HR.out] at hCt
          unfold bv at hCt
          simp only at hCt
          have hBr : Below p6 w wr := hBs.trans (hO.below (by first | omega | (simp; done) | (simp; omega)) (by first | omega | (simp; done) | (simp; omega)))
          clear HC HR hOG hOP hown hownx hgs hps hO hBs bbs b6s hll
          generalize (selL gs s 0 gs.length).length = n8 at *
          generalize (selL ps s gs.length ps.length).length = n9 at *
          go_wp2_with (first
            | (refine wpList_load_blk 27 (.tmp 4) agg_bean rfl rfl rfl b6 rfl ?_)
            | (go_at_call 24; refine hCt.mono ?_; rintro e w8 ⟨rfl, hb8⟩))
          go_ret
          refine ⟨ret_bool (by rw [HM.out]; first | rfl | (simp; done)), ?_⟩
          rw [HP6.out]
          exact hBr.trans (hb8.mono (by have := b6.lt; omega))
end Go.Proofs.Ytjbjmoghloabpaa
