/- shearworksref01: lists walked. -/
import Derived.Test.YteeinehpneppnaaGreatMbF
set_option linter.unusedVariables false
set_option linter.unusedSimpArgs false
namespace Go.Proofs.YteeinehpneppnaaGreat
open Go.RowKit Go.Proofs
attribute [local irreducible] Ord.walk
theorem Tryz.info3 : (Tryz.prog.info? 3).map (fun i => (i.zero, i.size, i.bytes)) = some (some (.int .i64 0), 1, 8) := by kernel_rfl
theorem Tryz.info72 : (Tryz.prog.info? 72).map (fun i => (i.zero, i.size, i.bytes)) = some (some (.slice none 0 0), 1, 24) := by kernel_rfl
theorem info_of {P : Program} {t : TypeId} {z : Value} {s b : Nat} (h : (P.info? t).map (fun i => (i.zero, i.size, i.bytes)) = some (some z, s, b)) : ∃ i, P.info? t = some i ∧ i.zero = some z ∧ i.size = s ∧ i.bytes = b := by
  cases hi : P.info? t with
  | none => rw [hi] at h; cases h
  | some i =>
    rw [hi] at h
    simp only [Option.map_some, Option.some.injEq, Prod.mk.injEq] at h
    exact ⟨i, rfl, h.1, h.2.1, h.2.2⟩
theorem accL_mono (l : List (Int × Int)) (b : List Int) (lo : Int) {i j : Nat} (h : i ≤ j) : (accL l b lo i).length ≤ (accL l b lo j).length := by
  induction j with
  | zero => obtain rfl : i = 0 := by omega
            exact Nat.le_refl _
  | succ j ih =>
    rcases Nat.lt_or_ge i (j + 1) with h1 | h1
    · have := ih (by omega)
      rw [accL_succ, List.length_append]; omega
    · obtain rfl : i = j + 1 := by omega
      exact Nat.le_refl _
theorem icell_one (l : List Int) : ∀ u ∈ l.map icell, u.oneCell' = true := by
  intro u hu
  obtain ⟨x, _, rfl⟩ := List.mem_map.1 hu
  rfl
set_option maxHeartbeats 40000000 in
set_option maxRecDepth 100000 in
theorem r_lists (l : List (Int × Int)) (la : Option Addr) (lc : Nat) (base : Nat) (w0 : World) (h0 : base ≤ w0.heap.size) (HLs : ∀ W, Below base w0 W → RowsAt W la 2 spc l) (hll : l.length ≤ 100) (hlv : ∀ p ∈ l, -1000 ≤ p.1 ∧ p.1 ≤ 1000 ∧ -1000 ≤ p.2 ∧ p.2 ≤ 1000) :
    ∀ (f : Nat) (b : List Int), b.length + f = l.length → ∀ (w : World) (bv v : Value) (xs : List Value), Below base w0 w → IntRow w bv b → w.ownsRow base 72 1 v xs.length xs → xs.length + (extL l b).length ≤ 100000 →
      Calls Tryz.prog 98 #[.slice la l.length lc, bv, v] w (ListsPost base v xs (extL l b) w) := by
  obtain ⟨i0, hi0, hz0, hz1, hz2⟩ := info_of Tryz.info3
  obtain ⟨j0, hj0, kz0, kz1, kz2⟩ := info_of Tryz.info72
  intro f
  induction f with
  | zero =>
    intro b hb w bv v xs hw hbv hown hn
    have hsw := hw.size
    rw [extL_done (by omega)] at hn ⊢
    have hbl : b.length = l.length := by omega
    obtain ⟨a, c, rfl, hbc⟩ := hbv
    have hbr : IntRow w (.slice a b.length c) b := ⟨a, c, rfl, hbc⟩
    have hli : (l.length : Int) ≤ 100 := by omega
    rw [hbl] at *
    clear hbc HLs
    go_enter Tryz.func98, Tryz.ntmps98
    go_wp2_with (first
      | (at_builtin; refine at_stop ?_))
    unfold Stop
    simp only [List.length_singleton] at hn ⊢
    refine wpList_append_own _ rfl (.tmp 15) (.tmp 17) 137 rfl base 72 j0 (.slice none 0 0) 1 24 Tryz.underlying137 hj0 kz0 kz1 kz2 rfl (by decide) v xs.length xs rfl (World.ownsRow.alloc hown _) ⟨w.heap.size, 0, none⟩ 1 1 [.slice a l.length c] rfl rfl (news_blk (A := #[.slice a l.length c]) (Blk.new _ _ _)) (by simp [Value.oneCell']) (by unfold maxLen; omega) (by omega) (by simp; omega) ?_
    intro v6 w6 hown6 hgrow6 _
    have hk6 : KeepT base 72 w w6 := ((KeepT.refl _ _ _).alloc _).trans (KeepT.of_grown (World.ownsRow.alloc hown _) hgrow6)
    go_wp2_with fail
    go_ret
    exact ⟨v6, [.slice a l.length c], rfl, hown6, ⟨rfl, fun i hi => by
      have hi0 : i = 0 := by simp at hi; omega
      subst hi0
      exact ⟨_, rfl, hbr.keep hk6 (by decide)⟩⟩, hk6⟩
  | succ f ih =>
    intro b hb w bv v xs hw hbv hown hn
    have hbl : b.length < l.length := by omega
    have hli : (l.length : Int) ≤ 100 := by omega
    have hbi : (b.length : Int) < (l.length : Int) := by omega
    have hE := extL_more hbl
    have hp := hlv _ (List.getElem_mem hbl)
    have hbne : ((b.length : Int) == (l.length : Int)) = false := by simp; omega
    rw [hE] at hn ⊢
    obtain ⟨lo, hlo⟩ : ∃ lo, (l[b.length]).1 = lo := ⟨_, rfl⟩
    obtain ⟨hi, hhi⟩ : ∃ hi, (l[b.length]).2 = hi := ⟨_, rfl⟩
    rw [hlo, hhi] at hn hp ⊢
    obtain ⟨cnt, hcnt⟩ : ∃ cnt, (hi - lo + 1).toNat = cnt := ⟨_, rfl⟩
    rw [hcnt] at hn ⊢
    have hcells : Hid (∀ W, Below base w0 W → ∃ gb go, la = some ⟨gb, go, none⟩ ∧ W.cell? ⟨gb, go + b.length * 2, none⟩ = some (.int .i64 lo) ∧ W.cell? ⟨gb, go + b.length * 2 + 1, none⟩ = some (.int .i64 hi)) := fun W hW => by
      obtain ⟨gb, go, e0, e1, e2⟩ := (HLs W hW).get2 hbl
      rw [hlo] at e1
      rw [hhi] at e2
      exact ⟨gb, go, e0, e1, e2⟩
    obtain ⟨gb, go, rfl, c1, c2⟩ := hcells.out w hw
    have hsw := hw.size
    obtain ⟨a, c, hbe, hbc⟩ := hbv
    subst hbe
    have hbr : IntRow w (.slice a b.length c) b := ⟨a, c, rfl, hbc⟩
    have IH := Lib.hid ih
    clear hE hlo hhi hbc ih HLs hlv
    go_enter Tryz.func98, Tryz.ntmps98
    go_wp2_with fail
    clear c1 c2
    go_loopw [2, 8] (fun x i wr => ∃ (j : Nat) (v' : Value) (ys : List Value), j ≤ cnt ∧ i = .int .i64 (lo + (j : Int)) ∧ x = v' ∧ wr.ownsRow base 72 1 v' (xs.length + ys.length) (xs ++ ys) ∧ SlicesAt wr ys (accL l b lo j) ∧ KeepT base 72 w wr) (fun _ i _ => (hi + 1 - intOf i).toNat)
    case atStart => exact ⟨0, v, [], by omega, by simp, rfl, by simpa using hown, ⟨rfl, fun i hi => by simp [accL] at hi⟩, KeepT.refl _ _ _⟩
    case round =>
      obtain ⟨j, v', ys, hj, rfl, rfl, hownr, hsl, hkp⟩ := hrel
      have hBr := hkp.below (by omega)
      obtain ⟨gb', go', e0, c1, c2⟩ := hcells.out wr (hw.trans hBr)
      simp only [Option.some.injEq, Addr.mk.injEq] at e0
      obtain ⟨rfl, rfl, -⟩ := e0
      have hsr := hkp.size
      have hyl := hsl.1
      by_cases hlt : j < cnt
      · have hlti : lo + (j : Int) ≤ hi := by omega
        have hmono := accL_mono l b lo (show j + 1 ≤ cnt by omega)
        have hsu := accL_succ l b lo j
        rw [hsu, List.length_append] at hmono
        have hkint : -1000 ≤ lo + (j : Int) ∧ lo + (j : Int) ≤ 1000 := by omega
        have HSU := Lib.hid hsu
        clear hsu
        generalize hkk : lo + (j : Int) = k at *
        go_wp2_with (first
          | (at_builtin; refine at_stop ?_))
        unfold Stop
        have hr := hbr.keep hkp (by decide)
        have hown0 : (wr.alloc (.cells #[] 3)).ownsRow wr.heap.size 3 1 (.slice (some ⟨wr.heap.size, 0, none⟩) 0 0) 0 [] := World.ownsRow_made wr #[] 0 (Nat.le_refl _) (by decide) rfl
        have hra : IntRow (wr.alloc (.cells #[] 3)) (.slice a b.length c) b := hr.keep ((KeepT.refl base 72 wr).alloc _) (by decide)
        refine wpList_append_src rfl (.tmp 34) (.tmp 35) 72 rfl wr.heap.size 3 i0 (.int .i64 0) 1 8 Tryz.underlying72 hi0 hz0 hz1 hz2 rfl (by decide) (.slice (some ⟨wr.heap.size, 0, none⟩) 0 0) 0 [] rfl hown0 (.slice a b.length c) b.length (b.map icell) rfl hra.src (icell_one _) (by unfold maxLen; omega) (by omega) (by simp) ?_
        intro v1 w1 hown1 hgrow1
        simp only [Nat.zero_add, List.nil_append] at hown1
        have hB1 : Below wr.heap.size wr w1 := ((Below.refl _ _).alloc (Nat.le_refl _) _).grown hgrow1 (by simp) (fun g e => by simp only [Value.ownBlock, Option.some.injEq] at e; omega)
        have hs1 := hB1.size
        clear hgrow1 hown0 hra
        go_wp2_with (first
          | (at_builtin; refine at_stop ?_))
        unfold Stop
        refine wpList_append_own _ rfl (.tmp 36) (.tmp 38) 72 rfl wr.heap.size 3 i0 (.int .i64 0) 1 8 Tryz.underlying72 hi0 hz0 hz1 hz2 rfl (by decide) v1 b.length (b.map icell) rfl (World.ownsRow.alloc hown1 _) ⟨w1.heap.size, 0, none⟩ 1 1 [icell k] rfl rfl (news_blk (A := #[.int .i64 k]) (Blk.new _ _ _)) (by simp [icell, Value.oneCell']) (by unfold maxLen; omega) (by omega) (by simp; omega) ?_
        intro v2 w2 hown2 hgrow2 _
        have hB2 : Below wr.heap.size wr w2 := (hB1.alloc (by omega) _).grown hgrow2 (by simp; omega) (fun g e => (hown1.lt g e).1)
        have hrow2 : IntRow w2 v2 (b ++ [k]) := IntRow.of_own (by simpa using hown2)
        have hown' := ownsRow_below hownr hB2
        have hIH := IH.out (b ++ [k]) (by simp; omega) w2 v2 u2 (xs ++ ys) ((hw.trans hBr).trans (hB2.mono (by omega))) hrow2 (by simpa using hown') (by rw [List.length_append]; omega)
        clear hgrow2 hown1 hown2 IH hown' hrow2
        go_wp2_with (first
          | (go_at_call 98; refine hIH.mono ?_; rintro e w3 ⟨v3, zs, rfl, hown3, hs3, hk3⟩))
        refine ⟨⟨j + 1, v3, ys ++ zs, by omega, ?_, rfl, ?_, ?_, (hkp.trans (KeepT.of_below hB2)).trans hk3⟩, by simp [intOf]; omega⟩
        · congr 1; omega
        · have hz := hs3.1
          have e : (xs ++ ys).length + (extL l (b ++ [k])).length = xs.length + (ys ++ zs).length := by simp [hz]; omega
          rw [e] at hown3
          simpa [List.append_assoc] using hown3
        · rw [HSU.out]
          exact ((hsl.keep (KeepT.of_below hB2 : KeepT base 72 wr w2) (by decide)).keep hk3 (by decide)).append hs3
      · have hlti : ¬ lo + (j : Int) ≤ hi := by omega
        have e : j = cnt := by omega
        subst e
        clear hcnt
        go_wp2_with fail
        go_ret
        refine ⟨_, ys, rfl, ?_, hsl, hkp⟩
        rw [← hyl]; exact hownr
end Go.Proofs.YteeinehpneppnaaGreat
