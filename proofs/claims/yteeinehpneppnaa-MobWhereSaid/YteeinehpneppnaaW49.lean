/- Parts of a proof: MwA. -/
import Derived.Test.YteeinehpneppnaaW48
import Derived.Test.YteeinehpneppnaaW42
/- The law's each: a closure is called with how long all legs can take. (Printed by mkMwA.py) -/
set_option linter.unusedVariables false
set_option linter.unusedSimpArgs false
namespace Go.Proofs.Yteeinehpneppnaa
open Go.RowKit Go.Proofs
attribute [local irreducible] Ord.walk
theorem results_nothing {fn : Func} {w : World} (h : fn.results = #[]) (tmps : Array Value) : (results fn tmps).run Try.prog w = .ok (.tuple #[]) w := by
  simp [results, h]
theorem own_emptyV {w : World} {b base : Nat} {e : TypeId} {size : Nat} (h : Blk w b #[] e) (hb : base ≤ b) : w.ownsRow base e size (.slice (some ⟨b, 0, none⟩) 0 0) 0 [] := ⟨by simp, .inr ⟨b, 0, #[], rfl, hb, h, Nat.le_refl _, by unfold maxLen; omega, by simp, by simp⟩⟩
theorem ownsRow_drewV {w : World} {base : Nat} {e : TypeId} {size : Nat} {v : Value} {n : Nat} {xs : List Value} (h : w.ownsRow base e size v n xs) : w.drew.ownsRow base e size v n xs := h
theorem ownsRow_base {w : World} {base base' : Nat} {e : TypeId} {size : Nat} {v : Value} {n : Nat} {xs : List Value} (h : w.ownsRow base e size v n xs) (hb : base' ≤ base) : w.ownsRow base' e size v n xs := by
  obtain ⟨h1, h2⟩ := h
  refine ⟨h1, h2.imp id ?_⟩
  rintro ⟨g, cap, cur, rfl, hg, r⟩
  exact ⟨g, cap, cur, rfl, by omega, r⟩
theorem prodL_snocE {l : List (Int × Int)} {L : List Int} {lo hi v : Int} (h : L ∈ prodL l) (h1 : lo ≤ v) (h2 : v ≤ hi) : L ++ [v] ∈ prodL (l ++ [(lo, hi)]) := by
  obtain ⟨hl, hg⟩ := (mem_prodL _ _).1 h
  refine (mem_prodL _ _).2 ⟨by simp [hl], fun i hi => ?_⟩
  simp only [List.length_append, List.length_cons, List.length_nil] at hi
  rcases Nat.lt_or_ge i l.length with c | c
  · obtain ⟨y, e, h3⟩ := hg i c
    refine ⟨y, by rw [List.getElem?_append_left (by omega)]; exact e, ?_⟩
    simp only [List.getElem_append_left c]
    exact h3
  · obtain rfl : i = l.length := by omega
    refine ⟨v, by rw [← hl]; simp, ?_⟩
    simp only [List.getElem_append_right (Nat.le_refl _), Nat.sub_self, List.getElem_cons_zero]
    exact ⟨h1, h2⟩
/-- The closure that each calls. -/
def whF (caps : Array Value) : Value := .func (.func 36) #[] caps
def onF (pm pf po : Nat) : Value := .func (.func 91) #[] #[.pointer (some ⟨pm, 0, none⟩), .pointer (some ⟨pf, 0, none⟩), .pointer (some ⟨po, 0, none⟩)]
set_option maxHeartbeats 40000000 in
set_option maxRecDepth 100000 in
theorem l_each1 {m : Mb} {A : Ma} (c1 c2 c3 c4 : Value) (pm pf po ca zb : Nat) (w0 : World) (h0 : zb ≤ w0.heap.size) (hm : MbAt w0 m A) (hmz : ∀ W, Off [ca] zb w0 W → MbAt W m A) (hv : validM m = true)
    (bm : Blk w0 pm (mcells m A) 27) (bf : Blk w0 pf #[whF #[c1, c2, c3, c4]] 68) (bo : Blk w0 po #[onF pm pf po] 68) (q1 : pm < zb ∧ pm ≠ ca) (q2 : pf < zb ∧ pf ≠ ca) (q3 : po < zb ∧ po ≠ ca) (q4 : ca < zb)
    (St : List (List Int) → World → Prop) (hSt : ∀ Ls W W', St Ls W → Below zb W W' → St Ls W')
    (hstep : ∀ Ls L a c W, St Ls W → Off [ca] zb w0 W → L ∈ prodL m.legs → IntsM W a L → Calls Try.prog 36 #[.slice a L.length c, c1, c2, c3, c4] W (fun e w' => e = .returned (.tuple #[]) ∧ St (Ls ++ [L]) w' ∧ Off [ca] W.heap.size W w')) :
    ∀ (f : Nat) (b : List Int), b.length + f = m.legs.length → b ∈ prodL (m.legs.take b.length) → ∀ (w : World) (bv : Value) (Ls : List (List Int)), Off [ca] zb w0 w → w.ownsRow zb 3 1 bv b.length (b.map icell) → St Ls w →
      Calls Try.prog 91 #[bv, .pointer (some ⟨pm, 0, none⟩), .pointer (some ⟨pf, 0, none⟩), .pointer (some ⟨po, 0, none⟩)] w (fun e w' => e = .returned (.tuple #[]) ∧ St (Ls ++ extL m.legs b) w' ∧ Off [ca] w.heap.size w w') := by
  have hlen := validM_len hv
  obtain ⟨i0, hi0, hz0, hz1, hz2⟩ := info_of Try.info3
  intro f
  induction f with
  | zero =>
    intro b hb hbL w bv Ls hO hown hs
    rw [extL_done (by omega)]
    obtain ⟨a, c, rfl, hbr⟩ := (IntRow.of_own hown).ints
    have hbl : b.length = m.legs.length := by omega
    rw [hbl, List.take_of_length_le (Nat.le_refl _)] at hbL
    have HS := Lib.hid (hstep Ls b a c w hs hO hbL hbr)
    have bmw := hO.blk bm q1.1 (by simpa using q1.2)
    have bfw := hO.blk bf q2.1 (by simpa using q2.2)
    have r1 := bmw.cell
    have r2 := bfw.cell
    rw [hbl] at HS ⊢
    clear hstep hSt hmz hown hbr hm bm bf bo hbl hb
    rcases A with ⟨pa, pc, la, lc, ha, hc, sa, sc⟩
    rcases m with ⟨ps, ls, hs', ss⟩
    unfold mcells whF at *
    simp only at *
    have hl5 : (ls.length : Int) ≤ 5 := by omega
    go_enter Try.func91, Try.ntmps91
    go_wp2_with (first
      | (go_at_call 36; refine HS.out.mono ?_; rintro e w1 ⟨rfl, hs1, hO1⟩))
    exact bodyPost_ret (v := .tuple #[]) (results_nothing rfl _) rfl ⟨rfl, hs1, hO1⟩
  | succ f ih =>
    intro b hb hbL w bv Ls hO hown hs
    have hbl : b.length < m.legs.length := by omega
    have hE := extL_more hbl
    have hp := (vparts hv).lg _ (List.getElem_mem hbl)
    have hbne : ((b.length : Int) == (m.legs.length : Int)) = false := by rw [beq_eq_false_iff_ne]; omega
    rw [hE]
    have HBL : Hid (∀ k, m.legs[b.length].1 ≤ k → k ≤ m.legs[b.length].2 → b ++ [k] ∈ prodL (m.legs.take (b ++ [k]).length)) := fun k h1 h2 => by
      rw [List.length_append, List.length_singleton, List.take_succ_eq_append_getElem hbl]
      exact prodL_snocE hbL h1 h2
    have HCl : Hid (∀ W, Off [ca] zb w0 W → ∃ gb go, A.la = some ⟨gb, go, none⟩ ∧ W.cell? ⟨gb, go + b.length * 2, none⟩ = some (.int .i64 m.legs[b.length].1) ∧ W.cell? ⟨gb, go + b.length * 2 + 1, none⟩ = some (.int .i64 m.legs[b.length].2)) := fun W hW => (hmz W hW).legs.get2 hbl
    obtain ⟨lo, hlo⟩ : ∃ lo, (m.legs[b.length]).1 = lo := ⟨_, rfl⟩
    obtain ⟨hi, hhi⟩ : ∃ hi, (m.legs[b.length]).2 = hi := ⟨_, rfl⟩
    rw [hlo, hhi] at hp HBL HCl ⊢
    obtain ⟨cnt, hcnt⟩ : ∃ cnt, (hi - lo + 1).toNat = cnt := ⟨_, rfl⟩
    rw [hcnt]
    have IH := Lib.hid ih
    have HST := Lib.hid hSt
    have hsw := hO.size
    have hzw : zb ≤ w.heap.size := by omega
    have bmw := hO.blk bm q1.1 (by simpa using q1.2)
    have r1 := bmw.cell
    obtain ⟨gb, go, hla, d1, d2⟩ := HCl.out w hO
    have hb5 : b.length ≤ 5 := by omega
    have hbi : (b.length : Int) < (m.legs.length : Int) := by omega
    obtain ⟨a, c, rfl, _⟩ := (IntRow.of_own hown).ints
    clear hE hlo hhi ih hstep hSt hmz hbL hm
    rcases A with ⟨pa, pc, la, lc, ha, hc, sa, sc⟩
    rcases m with ⟨ps, ls, hs', ss⟩
    unfold mcells onF at *
    simp only at *
    subst hla
    have hl5 : (ls.length : Int) ≤ 5 := by omega
    go_enter Try.func91, Try.ntmps91
    go_wp2_with fail
    clear r1 d1 d2 bmw
    go_loopw [6] (fun x6 wr => ∃ j : Nat, j ≤ cnt ∧ x6 = .int .i64 (lo + (j : Int)) ∧ St (Ls ++ accL ls b lo j) wr ∧ Off [ca] w.heap.size w wr) (fun x6 _ => (hi + 1 - intOf x6).toNat)
    case atStart => exact ⟨0, by omega, by simp, by simpa [accL] using hs, Off.refl _ _ _⟩
    case round =>
      as_aux_lemma =>
        clear hs
        obtain ⟨j, hj, rfl, hst, hOw⟩ := hrel
        have hsr := hOw.size
        have hOr : Off [ca] zb w0 wr := hO.trans (hOw.mono hzw (fun _ _ h => h))
        have bmr := hOr.blk bm q1.1 (by simpa using q1.2)
        have bor := hOr.blk bo q3.1 (by simpa using q3.2)
        have hownr := ownsRow_off hown hOw (by simp; omega)
        obtain ⟨_, _, e', d1, d2⟩ := HCl.out wr hOr
        simp only [Option.some.injEq, Addr.mk.injEq] at e'
        obtain ⟨rfl, rfl, -⟩ := e'
        have r1 := bmr.cell
        by_cases hlt : j < cnt
        · have hlti : lo + (j : Int) ≤ hi := by omega
          have hkb := HBL.out (lo + (j : Int)) (by omega) hlti
          have HSU := Lib.hid (accL_succ ls b lo j)
          have HLT := Lib.hid hlt
          have hk0 : 0 ≤ lo + (j : Int) ∧ lo + (j : Int) ≤ 100 := by omega
          generalize hkk : lo + (j : Int) = k at *
          have HKK := Lib.hid hkk
          clear hkk
          go_upto_region 6 with fail
          have lor := bor.lt
          have HQ3 := Lib.hid (show po ∉ [ca] from by simpa using q3.2)
          have HOr := Lib.hid hOr
          have HOWN := Lib.hid hownr
          have HHS := Lib.hid hst
          have HOW := Lib.hid hOw
          have HKB := Lib.hid hkb
          have hzr : zb ≤ wr.heap.size := by omega
          clear HBL HCl hownr hO hOw hOr hown bm bf bo hkb hst
          clear r1 d1 d2 bmr
          have hOf0 : Off [ca] wr.heap.size wr wr.drew := (Off.refl _ _ _).drew
          have hOf1 : ∀ o, Off [ca] wr.heap.size wr (wr.alloc o).drew := fun o => ((Off.refl _ _ _).alloc (Nat.le_refl _) _).drew
          have hOf2 : ∀ o o', Off [ca] wr.heap.size wr ((wr.alloc o).alloc o').drew := fun o o' => (((Off.refl _ _ _).alloc (Nat.le_refl _) _).alloc (by simp) _).drew
          refine Ord.wp_regionTN 4 (.fork2 [(0, 1), (2, 1), (4, 1)] 1 (.fork2 [] 3 (.leaf [(5, 2), (6, 2), (7, 2)]) 5 (.leaf [(3, 2), (6, 2), (7, 2)])) 5 (.leaf [(1, 2), (3, 2), (6, 2), (7, 2)])) (fun W => Off [ca] wr.heap.size wr W) (by kernel_rfl) (by kernel_rfl) (Off.refl _ _ _).drew ?_
          go_wp2_with (first
            | ((with_reducible refine Ord.at_wild ?_); refine Ord.wild_load (ad := ⟨po, 0, none⟩) (.func (.func 91) #[] #[.pointer (some ⟨pm, 0, none⟩), .pointer (some ⟨pf, 0, none⟩), .pointer (some ⟨po, 0, none⟩)]) rfl rfl ?_ ?_; (focus (intro W hW; have r := (hW.blk bor lor HQ3.out).cell; simp [go_sem, r]; done)); intro K hK)
            | (at_builtin; refine at_stop ?_)
            | (with_reducible refine Ord.at_nm ?_)
            | (with_reducible refine Ord.walk_eff rfl (by first | exact hOf0 | exact hOf1 _ | exact hOf2 _ _) (fun K hK => ?_))
            | (with_reducible refine Ord.next_of (by first | exact hOf1 _ | exact hOf2 _ _) (fun _ => ?_))
            | with_reducible refine Ord.top_two ?_ | with_reducible refine Ord.top_three ?_ | with_reducible refine Ord.at_two ?_ ?_ | with_reducible refine Ord.at_three ?_ ?_ ?_ | with_reducible refine Ord.tree_leaf ?_ | with_reducible refine Ord.tree_two ?_ | ((with_reducible refine Ord.at_calm ?_); refine Ord.calm_skip rfl ?_ (fun K hK => ?_); (focus (simp [Region.wanted, yielded]; done))) | with_reducible refine Ord.walk_calm rfl rfl (fun K hK => ?_) | ((with_reducible refine Ord.at_wild ?_); refine Ord.wild_fieldAddr rfl rfl (fun W => by simp [go_sem]; rfl) (fun K hK => ?_)) | ((with_reducible refine Ord.at_wild ?_); refine Ord.wild_move rfl rfl (fun K hK => ?_)) | ((with_reducible refine Ord.at_wild ?_); refine Ord.wild_nilCheck rfl rfl (fun K hK => ?_)) | with_reducible refine Ord.walk_eff rfl (by first | (simp; done) | assumption | (go_simp; done) | (repeat (first | assumption | exact Below.refl _ _ | refine Below.drew ?_ | refine Below.alloc ?_ (by first | omega | (simp; done) | (simp; omega)) _ | refine Below.setCell ?_ (by first | omega | (simp; done) | (simp; omega)) _ | refine Below.trans ?_ (Below.mono (by assumption) (by first | omega | (simp; done) | (simp; omega)))))) (fun K hK => ?_) | with_reducible refine Ord.at_fork ?_ ?_ | with_reducible refine Ord.walk_nil ?_ | (with_reducible refine Ord.next_of (by first | (simp; done) | (go_simp; done) | (repeat (first | assumption | exact Below.refl _ _ | refine Below.drew ?_ | refine Below.alloc ?_ (by first | omega | (simp; done) | (simp; omega)) _ | refine Below.setCell ?_ (by first | omega | (simp; done) | (simp; omega)) _ | refine Below.trans ?_ (Below.mono (by assumption) (by first | omega | (simp; done) | (simp; omega)))))) (fun _ => ?_)))
          all_goals unfold Stop
          · refine wpList_appendW rfl (.tmp 34) (.tmp 35) 50 rfl wr.heap.size 3 i0 (.int .i64 0) 1 8 Try.underlying50 hi0 hz0 hz1 hz2 rfl (by decide) (.slice (some ⟨wr.heap.size, 0, none⟩) 0 0) 0 [] rfl (own_emptyV ((Blk.new wr _ _).drew) (by simp)) (.slice a b.length c) b.length (b.map icell) rfl (IntRow.of_own (ownsRow_drewV (World.ownsRow.alloc HOWN.out _))).src (icell_one _) (by unfold maxLen; omega) (by omega) (by first | omega | (simp; done) | (simp; omega)) ?_
            intro v1 wa own1 hga hwa
            simp only [Nat.zero_add, List.nil_append] at own1
            have hsa := hga.size
            (try simp only [World.size_alloc, World.size_drew] at hsa)
            have hBa : Below wr.heap.size wr wa := Below.grown (by (repeat (first | assumption | exact Below.refl _ _ | refine Below.drew ?_ | refine Below.alloc ?_ (by first | omega | (simp; done) | (simp; omega)) _ | refine Below.setCell ?_ (by first | omega | (simp; done) | (simp; omega)) _ | refine Below.trans ?_ (Below.mono (by assumption) (by first | omega | (simp; done) | (simp; omega)))))) hga (by first | omega | (simp; done) | (simp; omega)) (fun g e => by simp [Value.ownBlock] at e; omega)
            have hOfa : Off [ca] wr.heap.size wr wa := Off.of_below hBa (Nat.le_refl _)
            have hOfa1 : ∀ o, Off [ca] wr.heap.size wr (wa.alloc o) := fun o => hOfa.alloc (by omega) _
            clear hga
            go_wp2_with (first
              | (at_builtin; refine at_stop ?_)
              | (with_reducible refine Ord.at_nm ?_)
              | (with_reducible refine Ord.walk_eff rfl (by first | exact hOfa | exact hOfa1 _) (fun K hK => ?_))
              | (with_reducible refine Ord.next_of (by first | exact hOfa | exact hOfa1 _) (fun _ => ?_))
              | with_reducible refine Ord.top_two ?_ | with_reducible refine Ord.top_three ?_ | with_reducible refine Ord.at_two ?_ ?_ | with_reducible refine Ord.at_three ?_ ?_ ?_ | with_reducible refine Ord.tree_leaf ?_ | with_reducible refine Ord.tree_two ?_ | ((with_reducible refine Ord.at_calm ?_); refine Ord.calm_skip rfl ?_ (fun K hK => ?_); (focus (simp [Region.wanted, yielded]; done))) | with_reducible refine Ord.walk_calm rfl rfl (fun K hK => ?_) | ((with_reducible refine Ord.at_wild ?_); refine Ord.wild_fieldAddr rfl rfl (fun W => by simp [go_sem]; rfl) (fun K hK => ?_)) | ((with_reducible refine Ord.at_wild ?_); refine Ord.wild_move rfl rfl (fun K hK => ?_)) | ((with_reducible refine Ord.at_wild ?_); refine Ord.wild_nilCheck rfl rfl (fun K hK => ?_)) | with_reducible refine Ord.walk_eff rfl (by first | (simp; done) | assumption | (go_simp; done) | (repeat (first | assumption | exact Below.refl _ _ | refine Below.drew ?_ | refine Below.alloc ?_ (by first | omega | (simp; done) | (simp; omega)) _ | refine Below.setCell ?_ (by first | omega | (simp; done) | (simp; omega)) _ | refine Below.trans ?_ (Below.mono (by assumption) (by first | omega | (simp; done) | (simp; omega)))))) (fun K hK => ?_) | with_reducible refine Ord.at_fork ?_ ?_ | with_reducible refine Ord.walk_nil ?_ | (with_reducible refine Ord.next_of (by first | (simp; done) | (go_simp; done) | (repeat (first | assumption | exact Below.refl _ _ | refine Below.drew ?_ | refine Below.alloc ?_ (by first | omega | (simp; done) | (simp; omega)) _ | refine Below.setCell ?_ (by first | omega | (simp; done) | (simp; omega)) _ | refine Below.trans ?_ (Below.mono (by assumption) (by first | omega | (simp; done) | (simp; omega)))))) (fun _ => ?_)))
            unfold Stop
            refine wpList_appendW rfl (.tmp 36) (.tmp 38) 50 rfl wr.heap.size 3 i0 (.int .i64 0) 1 8 Try.underlying50 hi0 hz0 hz1 hz2 rfl (by decide) v1 b.length (b.map icell) rfl (World.ownsRow.alloc own1 _) (.slice (some ⟨_, 0, none⟩) 1 1) 1 [icell k] rfl ⟨rfl, .inr ⟨_, _, rfl, news_blk (A := #[.int .i64 k]) (Blk.new _ _ _)⟩⟩ (by simp [icell, Value.oneCell']) (by unfold maxLen; omega) (by omega) (by first | omega | (simp; done) | (simp; omega)) ?_
            intro v2 wb own2 hgb hwb
            have hge : ∀ g, v1.ownBlock = some g → wr.heap.size ≤ g := fun g e => (own1.lt g e).1
            have hBb : Below wr.heap.size wr wb := Below.grown (hBa.alloc (by omega) _) hgb (by first | omega | (simp; done) | (simp; omega)) hge
            have hsb := hBb.size
            have hOfb : Off [ca] wr.heap.size wr wb := Off.of_below hBb (Nat.le_refl _)
            have hIH := IH.out (b ++ [k]) (by simp; omega) HKB.out wb v2 (Ls ++ accL ls b lo j) (HOr.out.trans (hOfb.mono hzr (fun _ _ h => h))) (ownsRow_base (by simpa using own2) hzr) (HST.out _ _ _ HHS.out (hBb.mono hzr))
            clear IH HST HHS HOWN hBb hBa hOfa hOfa1 own1 own2 hgb
            go_wp2_with (first
              | (go_at_call 91; refine hIH.mono ?_; rintro e w3 ⟨rfl, hs3, hO3⟩; have hOf3 : Off [ca] wr.heap.size wr w3 := hOfb.trans (hO3.mono hsb (fun _ _ h => h)))
              | (with_reducible refine Ord.at_nm ?_)
              | (with_reducible refine Ord.walk_eff rfl (by first | exact hOfb | exact hOf3) (fun K hK => ?_))
              | (with_reducible refine Ord.next_of (by first | exact hOfb | exact hOf3) (fun _ => ?_))
              | with_reducible refine Ord.top_two ?_ | with_reducible refine Ord.top_three ?_ | with_reducible refine Ord.at_two ?_ ?_ | with_reducible refine Ord.at_three ?_ ?_ ?_ | with_reducible refine Ord.tree_leaf ?_ | with_reducible refine Ord.tree_two ?_ | ((with_reducible refine Ord.at_calm ?_); refine Ord.calm_skip rfl ?_ (fun K hK => ?_); (focus (simp [Region.wanted, yielded]; done))) | with_reducible refine Ord.walk_calm rfl rfl (fun K hK => ?_) | ((with_reducible refine Ord.at_wild ?_); refine Ord.wild_fieldAddr rfl rfl (fun W => by simp [go_sem]; rfl) (fun K hK => ?_)) | ((with_reducible refine Ord.at_wild ?_); refine Ord.wild_move rfl rfl (fun K hK => ?_)) | ((with_reducible refine Ord.at_wild ?_); refine Ord.wild_nilCheck rfl rfl (fun K hK => ?_)) | with_reducible refine Ord.walk_eff rfl (by first | (simp; done) | assumption | (go_simp; done) | (repeat (first | assumption | exact Below.refl _ _ | refine Below.drew ?_ | refine Below.alloc ?_ (by first | omega | (simp; done) | (simp; omega)) _ | refine Below.setCell ?_ (by first | omega | (simp; done) | (simp; omega)) _ | refine Below.trans ?_ (Below.mono (by assumption) (by first | omega | (simp; done) | (simp; omega)))))) (fun K hK => ?_) | with_reducible refine Ord.at_fork ?_ ?_ | with_reducible refine Ord.walk_nil ?_ | (with_reducible refine Ord.next_of (by first | (simp; done) | (go_simp; done) | (repeat (first | assumption | exact Below.refl _ _ | refine Below.drew ?_ | refine Below.alloc ?_ (by first | omega | (simp; done) | (simp; omega)) _ | refine Below.setCell ?_ (by first | omega | (simp; done) | (simp; omega)) _ | refine Below.trans ?_ (Below.mono (by assumption) (by first | omega | (simp; done) | (simp; omega)))))) (fun _ => ?_)))
            refine ⟨⟨j + 1, by have := HLT.out; omega, by have := HKK.out; congr 1; omega, ?_, HOW.out.trans (hOf3.mono (by omega) (fun _ _ h => h))⟩, by have := HKK.out; simp [intOf]; omega⟩
            rw [HSU.out, ← List.append_assoc]
            exact hs3
          · refine wpList_appendW rfl (.tmp 34) (.tmp 35) 50 rfl wr.heap.size 3 i0 (.int .i64 0) 1 8 Try.underlying50 hi0 hz0 hz1 hz2 rfl (by decide) (.slice (some ⟨wr.heap.size, 0, none⟩) 0 0) 0 [] rfl (own_emptyV (((Blk.new wr _ _).alloc _).drew) (by simp)) (.slice a b.length c) b.length (b.map icell) rfl (IntRow.of_own (ownsRow_drewV (World.ownsRow.alloc (World.ownsRow.alloc HOWN.out _) _))).src (icell_one _) (by unfold maxLen; omega) (by omega) (by first | omega | (simp; done) | (simp; omega)) ?_
            intro v1 wa own1 hga hwa
            simp only [Nat.zero_add, List.nil_append] at own1
            have hsa := hga.size
            (try simp only [World.size_alloc, World.size_drew] at hsa)
            have hBa : Below wr.heap.size wr wa := Below.grown (by (repeat (first | assumption | exact Below.refl _ _ | refine Below.drew ?_ | refine Below.alloc ?_ (by first | omega | (simp; done) | (simp; omega)) _ | refine Below.setCell ?_ (by first | omega | (simp; done) | (simp; omega)) _ | refine Below.trans ?_ (Below.mono (by assumption) (by first | omega | (simp; done) | (simp; omega)))))) hga (by first | omega | (simp; done) | (simp; omega)) (fun g e => by simp [Value.ownBlock] at e; omega)
            have hOfa : Off [ca] wr.heap.size wr wa := Off.of_below hBa (Nat.le_refl _)
            have hOfa1 : ∀ o, Off [ca] wr.heap.size wr (wa.alloc o) := fun o => hOfa.alloc (by omega) _
            have bka : Blk wa (wr.heap.size + 1) #[.int .i64 k] 3 := (hga.block _ (by simp) (by simp [Value.ownBlock])).trans (Blk.new' (wr.alloc _) _ _ _ (by simp)).drew
            clear hga
            go_wp2_with (first
              | (at_builtin; refine at_stop ?_)
              | (with_reducible refine Ord.at_nm ?_)
              | (with_reducible refine Ord.walk_eff rfl (by first | exact hOfa | exact hOfa1 _) (fun K hK => ?_))
              | (with_reducible refine Ord.next_of (by first | exact hOfa | exact hOfa1 _) (fun _ => ?_))
              | with_reducible refine Ord.top_two ?_ | with_reducible refine Ord.top_three ?_ | with_reducible refine Ord.at_two ?_ ?_ | with_reducible refine Ord.at_three ?_ ?_ ?_ | with_reducible refine Ord.tree_leaf ?_ | with_reducible refine Ord.tree_two ?_ | ((with_reducible refine Ord.at_calm ?_); refine Ord.calm_skip rfl ?_ (fun K hK => ?_); (focus (simp [Region.wanted, yielded]; done))) | with_reducible refine Ord.walk_calm rfl rfl (fun K hK => ?_) | ((with_reducible refine Ord.at_wild ?_); refine Ord.wild_fieldAddr rfl rfl (fun W => by simp [go_sem]; rfl) (fun K hK => ?_)) | ((with_reducible refine Ord.at_wild ?_); refine Ord.wild_move rfl rfl (fun K hK => ?_)) | ((with_reducible refine Ord.at_wild ?_); refine Ord.wild_nilCheck rfl rfl (fun K hK => ?_)) | with_reducible refine Ord.walk_eff rfl (by first | (simp; done) | assumption | (go_simp; done) | (repeat (first | assumption | exact Below.refl _ _ | refine Below.drew ?_ | refine Below.alloc ?_ (by first | omega | (simp; done) | (simp; omega)) _ | refine Below.setCell ?_ (by first | omega | (simp; done) | (simp; omega)) _ | refine Below.trans ?_ (Below.mono (by assumption) (by first | omega | (simp; done) | (simp; omega)))))) (fun K hK => ?_) | with_reducible refine Ord.at_fork ?_ ?_ | with_reducible refine Ord.walk_nil ?_ | (with_reducible refine Ord.next_of (by first | (simp; done) | (go_simp; done) | (repeat (first | assumption | exact Below.refl _ _ | refine Below.drew ?_ | refine Below.alloc ?_ (by first | omega | (simp; done) | (simp; omega)) _ | refine Below.setCell ?_ (by first | omega | (simp; done) | (simp; omega)) _ | refine Below.trans ?_ (Below.mono (by assumption) (by first | omega | (simp; done) | (simp; omega)))))) (fun _ => ?_)))
            unfold Stop
            refine wpList_appendW rfl (.tmp 36) (.tmp 38) 50 rfl wr.heap.size 3 i0 (.int .i64 0) 1 8 Try.underlying50 hi0 hz0 hz1 hz2 rfl (by decide) v1 b.length (b.map icell) rfl own1 (.slice (some ⟨_, 0, none⟩) 1 1) 1 [icell k] rfl ⟨rfl, .inr ⟨_, _, rfl, news_blk (A := #[.int .i64 k]) bka⟩⟩ (by simp [icell, Value.oneCell']) (by unfold maxLen; omega) (by omega) (by first | omega | (simp; done) | (simp; omega)) ?_
            intro v2 wb own2 hgb hwb
            have hge : ∀ g, v1.ownBlock = some g → wr.heap.size ≤ g := fun g e => (own1.lt g e).1
            have hBb : Below wr.heap.size wr wb := Below.grown hBa hgb (by first | omega | (simp; done) | (simp; omega)) hge
            have hsb := hBb.size
            have hOfb : Off [ca] wr.heap.size wr wb := Off.of_below hBb (Nat.le_refl _)
            have hIH := IH.out (b ++ [k]) (by simp; omega) HKB.out wb v2 (Ls ++ accL ls b lo j) (HOr.out.trans (hOfb.mono hzr (fun _ _ h => h))) (ownsRow_base (by simpa using own2) hzr) (HST.out _ _ _ HHS.out (hBb.mono hzr))
            clear IH HST HHS HOWN hBb hBa hOfa hOfa1 own1 own2 hgb
            go_wp2_with (first
              | (go_at_call 91; refine hIH.mono ?_; rintro e w3 ⟨rfl, hs3, hO3⟩; have hOf3 : Off [ca] wr.heap.size wr w3 := hOfb.trans (hO3.mono hsb (fun _ _ h => h)))
              | (with_reducible refine Ord.at_nm ?_)
              | (with_reducible refine Ord.walk_eff rfl (by first | exact hOfb | exact hOf3) (fun K hK => ?_))
              | (with_reducible refine Ord.next_of (by first | exact hOfb | exact hOf3) (fun _ => ?_))
              | with_reducible refine Ord.top_two ?_ | with_reducible refine Ord.top_three ?_ | with_reducible refine Ord.at_two ?_ ?_ | with_reducible refine Ord.at_three ?_ ?_ ?_ | with_reducible refine Ord.tree_leaf ?_ | with_reducible refine Ord.tree_two ?_ | ((with_reducible refine Ord.at_calm ?_); refine Ord.calm_skip rfl ?_ (fun K hK => ?_); (focus (simp [Region.wanted, yielded]; done))) | with_reducible refine Ord.walk_calm rfl rfl (fun K hK => ?_) | ((with_reducible refine Ord.at_wild ?_); refine Ord.wild_fieldAddr rfl rfl (fun W => by simp [go_sem]; rfl) (fun K hK => ?_)) | ((with_reducible refine Ord.at_wild ?_); refine Ord.wild_move rfl rfl (fun K hK => ?_)) | ((with_reducible refine Ord.at_wild ?_); refine Ord.wild_nilCheck rfl rfl (fun K hK => ?_)) | with_reducible refine Ord.walk_eff rfl (by first | (simp; done) | assumption | (go_simp; done) | (repeat (first | assumption | exact Below.refl _ _ | refine Below.drew ?_ | refine Below.alloc ?_ (by first | omega | (simp; done) | (simp; omega)) _ | refine Below.setCell ?_ (by first | omega | (simp; done) | (simp; omega)) _ | refine Below.trans ?_ (Below.mono (by assumption) (by first | omega | (simp; done) | (simp; omega)))))) (fun K hK => ?_) | with_reducible refine Ord.at_fork ?_ ?_ | with_reducible refine Ord.walk_nil ?_ | (with_reducible refine Ord.next_of (by first | (simp; done) | (go_simp; done) | (repeat (first | assumption | exact Below.refl _ _ | refine Below.drew ?_ | refine Below.alloc ?_ (by first | omega | (simp; done) | (simp; omega)) _ | refine Below.setCell ?_ (by first | omega | (simp; done) | (simp; omega)) _ | refine Below.trans ?_ (Below.mono (by assumption) (by first | omega | (simp; done) | (simp; omega)))))) (fun _ => ?_)))
            refine ⟨⟨j + 1, by have := HLT.out; omega, by have := HKK.out; congr 1; omega, ?_, HOW.out.trans (hOf3.mono (by omega) (fun _ _ h => h))⟩, by have := HKK.out; simp [intOf]; omega⟩
            rw [HSU.out, ← List.append_assoc]
            exact hs3
          · refine wpList_appendW rfl (.tmp 34) (.tmp 35) 50 rfl wr.heap.size 3 i0 (.int .i64 0) 1 8 Try.underlying50 hi0 hz0 hz1 hz2 rfl (by decide) (.slice (some ⟨wr.heap.size, 0, none⟩) 0 0) 0 [] rfl (own_emptyV (((Blk.new wr _ _).alloc _).drew) (by simp)) (.slice a b.length c) b.length (b.map icell) rfl (IntRow.of_own (ownsRow_drewV (World.ownsRow.alloc (World.ownsRow.alloc HOWN.out _) _))).src (icell_one _) (by unfold maxLen; omega) (by omega) (by first | omega | (simp; done) | (simp; omega)) ?_
            intro v1 wa own1 hga hwa
            simp only [Nat.zero_add, List.nil_append] at own1
            have hsa := hga.size
            (try simp only [World.size_alloc, World.size_drew] at hsa)
            have hBa : Below wr.heap.size wr wa := Below.grown (by (repeat (first | assumption | exact Below.refl _ _ | refine Below.drew ?_ | refine Below.alloc ?_ (by first | omega | (simp; done) | (simp; omega)) _ | refine Below.setCell ?_ (by first | omega | (simp; done) | (simp; omega)) _ | refine Below.trans ?_ (Below.mono (by assumption) (by first | omega | (simp; done) | (simp; omega)))))) hga (by first | omega | (simp; done) | (simp; omega)) (fun g e => by simp [Value.ownBlock] at e; omega)
            have hOfa : Off [ca] wr.heap.size wr wa := Off.of_below hBa (Nat.le_refl _)
            have hOfa1 : ∀ o, Off [ca] wr.heap.size wr (wa.alloc o) := fun o => hOfa.alloc (by omega) _
            have bka : Blk wa (wr.heap.size + 1) #[.int .i64 k] 3 := (hga.block _ (by simp) (by simp [Value.ownBlock])).trans (Blk.new' (wr.alloc _) _ _ _ (by simp)).drew
            clear hga
            go_wp2_with (first
              | (at_builtin; refine at_stop ?_)
              | (with_reducible refine Ord.at_nm ?_)
              | (with_reducible refine Ord.walk_eff rfl (by first | exact hOfa | exact hOfa1 _) (fun K hK => ?_))
              | (with_reducible refine Ord.next_of (by first | exact hOfa | exact hOfa1 _) (fun _ => ?_))
              | with_reducible refine Ord.top_two ?_ | with_reducible refine Ord.top_three ?_ | with_reducible refine Ord.at_two ?_ ?_ | with_reducible refine Ord.at_three ?_ ?_ ?_ | with_reducible refine Ord.tree_leaf ?_ | with_reducible refine Ord.tree_two ?_ | ((with_reducible refine Ord.at_calm ?_); refine Ord.calm_skip rfl ?_ (fun K hK => ?_); (focus (simp [Region.wanted, yielded]; done))) | with_reducible refine Ord.walk_calm rfl rfl (fun K hK => ?_) | ((with_reducible refine Ord.at_wild ?_); refine Ord.wild_fieldAddr rfl rfl (fun W => by simp [go_sem]; rfl) (fun K hK => ?_)) | ((with_reducible refine Ord.at_wild ?_); refine Ord.wild_move rfl rfl (fun K hK => ?_)) | ((with_reducible refine Ord.at_wild ?_); refine Ord.wild_nilCheck rfl rfl (fun K hK => ?_)) | with_reducible refine Ord.walk_eff rfl (by first | (simp; done) | assumption | (go_simp; done) | (repeat (first | assumption | exact Below.refl _ _ | refine Below.drew ?_ | refine Below.alloc ?_ (by first | omega | (simp; done) | (simp; omega)) _ | refine Below.setCell ?_ (by first | omega | (simp; done) | (simp; omega)) _ | refine Below.trans ?_ (Below.mono (by assumption) (by first | omega | (simp; done) | (simp; omega)))))) (fun K hK => ?_) | with_reducible refine Ord.at_fork ?_ ?_ | with_reducible refine Ord.walk_nil ?_ | (with_reducible refine Ord.next_of (by first | (simp; done) | (go_simp; done) | (repeat (first | assumption | exact Below.refl _ _ | refine Below.drew ?_ | refine Below.alloc ?_ (by first | omega | (simp; done) | (simp; omega)) _ | refine Below.setCell ?_ (by first | omega | (simp; done) | (simp; omega)) _ | refine Below.trans ?_ (Below.mono (by assumption) (by first | omega | (simp; done) | (simp; omega)))))) (fun _ => ?_)))
            unfold Stop
            refine wpList_appendW rfl (.tmp 36) (.tmp 38) 50 rfl wr.heap.size 3 i0 (.int .i64 0) 1 8 Try.underlying50 hi0 hz0 hz1 hz2 rfl (by decide) v1 b.length (b.map icell) rfl own1 (.slice (some ⟨_, 0, none⟩) 1 1) 1 [icell k] rfl ⟨rfl, .inr ⟨_, _, rfl, news_blk (A := #[.int .i64 k]) bka⟩⟩ (by simp [icell, Value.oneCell']) (by unfold maxLen; omega) (by omega) (by first | omega | (simp; done) | (simp; omega)) ?_
            intro v2 wb own2 hgb hwb
            have hge : ∀ g, v1.ownBlock = some g → wr.heap.size ≤ g := fun g e => (own1.lt g e).1
            have hBb : Below wr.heap.size wr wb := Below.grown hBa hgb (by first | omega | (simp; done) | (simp; omega)) hge
            have hsb := hBb.size
            have hOfb : Off [ca] wr.heap.size wr wb := Off.of_below hBb (Nat.le_refl _)
            have hIH := IH.out (b ++ [k]) (by simp; omega) HKB.out wb v2 (Ls ++ accL ls b lo j) (HOr.out.trans (hOfb.mono hzr (fun _ _ h => h))) (ownsRow_base (by simpa using own2) hzr) (HST.out _ _ _ HHS.out (hBb.mono hzr))
            clear IH HST HHS HOWN hBb hBa hOfa hOfa1 own1 own2 hgb
            go_wp2_with (first
              | (go_at_call 91; refine hIH.mono ?_; rintro e w3 ⟨rfl, hs3, hO3⟩; have hOf3 : Off [ca] wr.heap.size wr w3 := hOfb.trans (hO3.mono hsb (fun _ _ h => h)))
              | (with_reducible refine Ord.at_nm ?_)
              | (with_reducible refine Ord.walk_eff rfl (by first | exact hOfb | exact hOf3) (fun K hK => ?_))
              | (with_reducible refine Ord.next_of (by first | exact hOfb | exact hOf3) (fun _ => ?_))
              | with_reducible refine Ord.top_two ?_ | with_reducible refine Ord.top_three ?_ | with_reducible refine Ord.at_two ?_ ?_ | with_reducible refine Ord.at_three ?_ ?_ ?_ | with_reducible refine Ord.tree_leaf ?_ | with_reducible refine Ord.tree_two ?_ | ((with_reducible refine Ord.at_calm ?_); refine Ord.calm_skip rfl ?_ (fun K hK => ?_); (focus (simp [Region.wanted, yielded]; done))) | with_reducible refine Ord.walk_calm rfl rfl (fun K hK => ?_) | ((with_reducible refine Ord.at_wild ?_); refine Ord.wild_fieldAddr rfl rfl (fun W => by simp [go_sem]; rfl) (fun K hK => ?_)) | ((with_reducible refine Ord.at_wild ?_); refine Ord.wild_move rfl rfl (fun K hK => ?_)) | ((with_reducible refine Ord.at_wild ?_); refine Ord.wild_nilCheck rfl rfl (fun K hK => ?_)) | with_reducible refine Ord.walk_eff rfl (by first | (simp; done) | assumption | (go_simp; done) | (repeat (first | assumption | exact Below.refl _ _ | refine Below.drew ?_ | refine Below.alloc ?_ (by first | omega | (simp; done) | (simp; omega)) _ | refine Below.setCell ?_ (by first | omega | (simp; done) | (simp; omega)) _ | refine Below.trans ?_ (Below.mono (by assumption) (by first | omega | (simp; done) | (simp; omega)))))) (fun K hK => ?_) | with_reducible refine Ord.at_fork ?_ ?_ | with_reducible refine Ord.walk_nil ?_ | (with_reducible refine Ord.next_of (by first | (simp; done) | (go_simp; done) | (repeat (first | assumption | exact Below.refl _ _ | refine Below.drew ?_ | refine Below.alloc ?_ (by first | omega | (simp; done) | (simp; omega)) _ | refine Below.setCell ?_ (by first | omega | (simp; done) | (simp; omega)) _ | refine Below.trans ?_ (Below.mono (by assumption) (by first | omega | (simp; done) | (simp; omega)))))) (fun _ => ?_)))
            refine ⟨⟨j + 1, by have := HLT.out; omega, by have := HKK.out; congr 1; omega, ?_, HOW.out.trans (hOf3.mono (by omega) (fun _ _ h => h))⟩, by have := HKK.out; simp [intOf]; omega⟩
            rw [HSU.out, ← List.append_assoc]
            exact hs3
          · refine wpList_appendW rfl (.tmp 34) (.tmp 35) 50 rfl wr.heap.size 3 i0 (.int .i64 0) 1 8 Try.underlying50 hi0 hz0 hz1 hz2 rfl (by decide) (.slice (some ⟨wr.heap.size + 1, 0, none⟩) 0 0) 0 [] rfl (own_emptyV ((Blk.new' (wr.alloc _) _ _ (wr.heap.size + 1) (by simp)).drew) (by simp)) (.slice a b.length c) b.length (b.map icell) rfl (IntRow.of_own (ownsRow_drewV (World.ownsRow.alloc (World.ownsRow.alloc HOWN.out _) _))).src (icell_one _) (by unfold maxLen; omega) (by omega) (by first | omega | (simp; done) | (simp; omega)) ?_
            intro v1 wa own1 hga hwa
            simp only [Nat.zero_add, List.nil_append] at own1
            have hsa := hga.size
            (try simp only [World.size_alloc, World.size_drew] at hsa)
            have hBa : Below wr.heap.size wr wa := Below.grown (by (repeat (first | assumption | exact Below.refl _ _ | refine Below.drew ?_ | refine Below.alloc ?_ (by first | omega | (simp; done) | (simp; omega)) _ | refine Below.setCell ?_ (by first | omega | (simp; done) | (simp; omega)) _ | refine Below.trans ?_ (Below.mono (by assumption) (by first | omega | (simp; done) | (simp; omega)))))) hga (by first | omega | (simp; done) | (simp; omega)) (fun g e => by simp [Value.ownBlock] at e; omega)
            have hOfa : Off [ca] wr.heap.size wr wa := Off.of_below hBa (Nat.le_refl _)
            have hOfa1 : ∀ o, Off [ca] wr.heap.size wr (wa.alloc o) := fun o => hOfa.alloc (by omega) _
            have bka : Blk wa wr.heap.size #[.int .i64 k] 3 := (hga.block _ (by simp; omega) (by simp [Value.ownBlock])).trans ((Blk.new wr _ _).alloc _).drew
            clear hga
            go_wp2_with (first
              | (at_builtin; refine at_stop ?_)
              | (with_reducible refine Ord.at_nm ?_)
              | (with_reducible refine Ord.walk_eff rfl (by first | exact hOfa | exact hOfa1 _) (fun K hK => ?_))
              | (with_reducible refine Ord.next_of (by first | exact hOfa | exact hOfa1 _) (fun _ => ?_))
              | with_reducible refine Ord.top_two ?_ | with_reducible refine Ord.top_three ?_ | with_reducible refine Ord.at_two ?_ ?_ | with_reducible refine Ord.at_three ?_ ?_ ?_ | with_reducible refine Ord.tree_leaf ?_ | with_reducible refine Ord.tree_two ?_ | ((with_reducible refine Ord.at_calm ?_); refine Ord.calm_skip rfl ?_ (fun K hK => ?_); (focus (simp [Region.wanted, yielded]; done))) | with_reducible refine Ord.walk_calm rfl rfl (fun K hK => ?_) | ((with_reducible refine Ord.at_wild ?_); refine Ord.wild_fieldAddr rfl rfl (fun W => by simp [go_sem]; rfl) (fun K hK => ?_)) | ((with_reducible refine Ord.at_wild ?_); refine Ord.wild_move rfl rfl (fun K hK => ?_)) | ((with_reducible refine Ord.at_wild ?_); refine Ord.wild_nilCheck rfl rfl (fun K hK => ?_)) | with_reducible refine Ord.walk_eff rfl (by first | (simp; done) | assumption | (go_simp; done) | (repeat (first | assumption | exact Below.refl _ _ | refine Below.drew ?_ | refine Below.alloc ?_ (by first | omega | (simp; done) | (simp; omega)) _ | refine Below.setCell ?_ (by first | omega | (simp; done) | (simp; omega)) _ | refine Below.trans ?_ (Below.mono (by assumption) (by first | omega | (simp; done) | (simp; omega)))))) (fun K hK => ?_) | with_reducible refine Ord.at_fork ?_ ?_ | with_reducible refine Ord.walk_nil ?_ | (with_reducible refine Ord.next_of (by first | (simp; done) | (go_simp; done) | (repeat (first | assumption | exact Below.refl _ _ | refine Below.drew ?_ | refine Below.alloc ?_ (by first | omega | (simp; done) | (simp; omega)) _ | refine Below.setCell ?_ (by first | omega | (simp; done) | (simp; omega)) _ | refine Below.trans ?_ (Below.mono (by assumption) (by first | omega | (simp; done) | (simp; omega)))))) (fun _ => ?_)))
            unfold Stop
            refine wpList_appendW rfl (.tmp 36) (.tmp 38) 50 rfl wr.heap.size 3 i0 (.int .i64 0) 1 8 Try.underlying50 hi0 hz0 hz1 hz2 rfl (by decide) v1 b.length (b.map icell) rfl own1 (.slice (some ⟨_, 0, none⟩) 1 1) 1 [icell k] rfl ⟨rfl, .inr ⟨_, _, rfl, news_blk (A := #[.int .i64 k]) bka⟩⟩ (by simp [icell, Value.oneCell']) (by unfold maxLen; omega) (by omega) (by first | omega | (simp; done) | (simp; omega)) ?_
            intro v2 wb own2 hgb hwb
            have hge : ∀ g, v1.ownBlock = some g → wr.heap.size ≤ g := fun g e => (own1.lt g e).1
            have hBb : Below wr.heap.size wr wb := Below.grown hBa hgb (by first | omega | (simp; done) | (simp; omega)) hge
            have hsb := hBb.size
            have hOfb : Off [ca] wr.heap.size wr wb := Off.of_below hBb (Nat.le_refl _)
            have hIH := IH.out (b ++ [k]) (by simp; omega) HKB.out wb v2 (Ls ++ accL ls b lo j) (HOr.out.trans (hOfb.mono hzr (fun _ _ h => h))) (ownsRow_base (by simpa using own2) hzr) (HST.out _ _ _ HHS.out (hBb.mono hzr))
            clear IH HST HHS HOWN hBb hBa hOfa hOfa1 own1 own2 hgb
            go_wp2_with (first
              | (go_at_call 91; refine hIH.mono ?_; rintro e w3 ⟨rfl, hs3, hO3⟩; have hOf3 : Off [ca] wr.heap.size wr w3 := hOfb.trans (hO3.mono hsb (fun _ _ h => h)))
              | (with_reducible refine Ord.at_nm ?_)
              | (with_reducible refine Ord.walk_eff rfl (by first | exact hOfb | exact hOf3) (fun K hK => ?_))
              | (with_reducible refine Ord.next_of (by first | exact hOfb | exact hOf3) (fun _ => ?_))
              | with_reducible refine Ord.top_two ?_ | with_reducible refine Ord.top_three ?_ | with_reducible refine Ord.at_two ?_ ?_ | with_reducible refine Ord.at_three ?_ ?_ ?_ | with_reducible refine Ord.tree_leaf ?_ | with_reducible refine Ord.tree_two ?_ | ((with_reducible refine Ord.at_calm ?_); refine Ord.calm_skip rfl ?_ (fun K hK => ?_); (focus (simp [Region.wanted, yielded]; done))) | with_reducible refine Ord.walk_calm rfl rfl (fun K hK => ?_) | ((with_reducible refine Ord.at_wild ?_); refine Ord.wild_fieldAddr rfl rfl (fun W => by simp [go_sem]; rfl) (fun K hK => ?_)) | ((with_reducible refine Ord.at_wild ?_); refine Ord.wild_move rfl rfl (fun K hK => ?_)) | ((with_reducible refine Ord.at_wild ?_); refine Ord.wild_nilCheck rfl rfl (fun K hK => ?_)) | with_reducible refine Ord.walk_eff rfl (by first | (simp; done) | assumption | (go_simp; done) | (repeat (first | assumption | exact Below.refl _ _ | refine Below.drew ?_ | refine Below.alloc ?_ (by first | omega | (simp; done) | (simp; omega)) _ | refine Below.setCell ?_ (by first | omega | (simp; done) | (simp; omega)) _ | refine Below.trans ?_ (Below.mono (by assumption) (by first | omega | (simp; done) | (simp; omega)))))) (fun K hK => ?_) | with_reducible refine Ord.at_fork ?_ ?_ | with_reducible refine Ord.walk_nil ?_ | (with_reducible refine Ord.next_of (by first | (simp; done) | (go_simp; done) | (repeat (first | assumption | exact Below.refl _ _ | refine Below.drew ?_ | refine Below.alloc ?_ (by first | omega | (simp; done) | (simp; omega)) _ | refine Below.setCell ?_ (by first | omega | (simp; done) | (simp; omega)) _ | refine Below.trans ?_ (Below.mono (by assumption) (by first | omega | (simp; done) | (simp; omega)))))) (fun _ => ?_)))
            refine ⟨⟨j + 1, by have := HLT.out; omega, by have := HKK.out; congr 1; omega, ?_, HOW.out.trans (hOf3.mono (by omega) (fun _ _ h => h))⟩, by have := HKK.out; simp [intOf]; omega⟩
            rw [HSU.out, ← List.append_assoc]
            exact hs3
          · refine wpList_appendW rfl (.tmp 34) (.tmp 35) 50 rfl wr.heap.size 3 i0 (.int .i64 0) 1 8 Try.underlying50 hi0 hz0 hz1 hz2 rfl (by decide) (.slice (some ⟨wr.heap.size + 1, 0, none⟩) 0 0) 0 [] rfl (own_emptyV ((Blk.new' (wr.alloc _) _ _ (wr.heap.size + 1) (by simp)).drew) (by simp)) (.slice a b.length c) b.length (b.map icell) rfl (IntRow.of_own (ownsRow_drewV (World.ownsRow.alloc (World.ownsRow.alloc HOWN.out _) _))).src (icell_one _) (by unfold maxLen; omega) (by omega) (by first | omega | (simp; done) | (simp; omega)) ?_
            intro v1 wa own1 hga hwa
            simp only [Nat.zero_add, List.nil_append] at own1
            have hsa := hga.size
            (try simp only [World.size_alloc, World.size_drew] at hsa)
            have hBa : Below wr.heap.size wr wa := Below.grown (by (repeat (first | assumption | exact Below.refl _ _ | refine Below.drew ?_ | refine Below.alloc ?_ (by first | omega | (simp; done) | (simp; omega)) _ | refine Below.setCell ?_ (by first | omega | (simp; done) | (simp; omega)) _ | refine Below.trans ?_ (Below.mono (by assumption) (by first | omega | (simp; done) | (simp; omega)))))) hga (by first | omega | (simp; done) | (simp; omega)) (fun g e => by simp [Value.ownBlock] at e; omega)
            have hOfa : Off [ca] wr.heap.size wr wa := Off.of_below hBa (Nat.le_refl _)
            have hOfa1 : ∀ o, Off [ca] wr.heap.size wr (wa.alloc o) := fun o => hOfa.alloc (by omega) _
            have bka : Blk wa wr.heap.size #[.int .i64 k] 3 := (hga.block _ (by simp; omega) (by simp [Value.ownBlock])).trans ((Blk.new wr _ _).alloc _).drew
            clear hga
            go_wp2_with (first
              | (at_builtin; refine at_stop ?_)
              | (with_reducible refine Ord.at_nm ?_)
              | (with_reducible refine Ord.walk_eff rfl (by first | exact hOfa | exact hOfa1 _) (fun K hK => ?_))
              | (with_reducible refine Ord.next_of (by first | exact hOfa | exact hOfa1 _) (fun _ => ?_))
              | with_reducible refine Ord.top_two ?_ | with_reducible refine Ord.top_three ?_ | with_reducible refine Ord.at_two ?_ ?_ | with_reducible refine Ord.at_three ?_ ?_ ?_ | with_reducible refine Ord.tree_leaf ?_ | with_reducible refine Ord.tree_two ?_ | ((with_reducible refine Ord.at_calm ?_); refine Ord.calm_skip rfl ?_ (fun K hK => ?_); (focus (simp [Region.wanted, yielded]; done))) | with_reducible refine Ord.walk_calm rfl rfl (fun K hK => ?_) | ((with_reducible refine Ord.at_wild ?_); refine Ord.wild_fieldAddr rfl rfl (fun W => by simp [go_sem]; rfl) (fun K hK => ?_)) | ((with_reducible refine Ord.at_wild ?_); refine Ord.wild_move rfl rfl (fun K hK => ?_)) | ((with_reducible refine Ord.at_wild ?_); refine Ord.wild_nilCheck rfl rfl (fun K hK => ?_)) | with_reducible refine Ord.walk_eff rfl (by first | (simp; done) | assumption | (go_simp; done) | (repeat (first | assumption | exact Below.refl _ _ | refine Below.drew ?_ | refine Below.alloc ?_ (by first | omega | (simp; done) | (simp; omega)) _ | refine Below.setCell ?_ (by first | omega | (simp; done) | (simp; omega)) _ | refine Below.trans ?_ (Below.mono (by assumption) (by first | omega | (simp; done) | (simp; omega)))))) (fun K hK => ?_) | with_reducible refine Ord.at_fork ?_ ?_ | with_reducible refine Ord.walk_nil ?_ | (with_reducible refine Ord.next_of (by first | (simp; done) | (go_simp; done) | (repeat (first | assumption | exact Below.refl _ _ | refine Below.drew ?_ | refine Below.alloc ?_ (by first | omega | (simp; done) | (simp; omega)) _ | refine Below.setCell ?_ (by first | omega | (simp; done) | (simp; omega)) _ | refine Below.trans ?_ (Below.mono (by assumption) (by first | omega | (simp; done) | (simp; omega)))))) (fun _ => ?_)))
            unfold Stop
            refine wpList_appendW rfl (.tmp 36) (.tmp 38) 50 rfl wr.heap.size 3 i0 (.int .i64 0) 1 8 Try.underlying50 hi0 hz0 hz1 hz2 rfl (by decide) v1 b.length (b.map icell) rfl own1 (.slice (some ⟨_, 0, none⟩) 1 1) 1 [icell k] rfl ⟨rfl, .inr ⟨_, _, rfl, news_blk (A := #[.int .i64 k]) bka⟩⟩ (by simp [icell, Value.oneCell']) (by unfold maxLen; omega) (by omega) (by first | omega | (simp; done) | (simp; omega)) ?_
            intro v2 wb own2 hgb hwb
            have hge : ∀ g, v1.ownBlock = some g → wr.heap.size ≤ g := fun g e => (own1.lt g e).1
            have hBb : Below wr.heap.size wr wb := Below.grown hBa hgb (by first | omega | (simp; done) | (simp; omega)) hge
            have hsb := hBb.size
            have hOfb : Off [ca] wr.heap.size wr wb := Off.of_below hBb (Nat.le_refl _)
            have hIH := IH.out (b ++ [k]) (by simp; omega) HKB.out wb v2 (Ls ++ accL ls b lo j) (HOr.out.trans (hOfb.mono hzr (fun _ _ h => h))) (ownsRow_base (by simpa using own2) hzr) (HST.out _ _ _ HHS.out (hBb.mono hzr))
            clear IH HST HHS HOWN hBb hBa hOfa hOfa1 own1 own2 hgb
            go_wp2_with (first
              | (go_at_call 91; refine hIH.mono ?_; rintro e w3 ⟨rfl, hs3, hO3⟩; have hOf3 : Off [ca] wr.heap.size wr w3 := hOfb.trans (hO3.mono hsb (fun _ _ h => h)))
              | (with_reducible refine Ord.at_nm ?_)
              | (with_reducible refine Ord.walk_eff rfl (by first | exact hOfb | exact hOf3) (fun K hK => ?_))
              | (with_reducible refine Ord.next_of (by first | exact hOfb | exact hOf3) (fun _ => ?_))
              | with_reducible refine Ord.top_two ?_ | with_reducible refine Ord.top_three ?_ | with_reducible refine Ord.at_two ?_ ?_ | with_reducible refine Ord.at_three ?_ ?_ ?_ | with_reducible refine Ord.tree_leaf ?_ | with_reducible refine Ord.tree_two ?_ | ((with_reducible refine Ord.at_calm ?_); refine Ord.calm_skip rfl ?_ (fun K hK => ?_); (focus (simp [Region.wanted, yielded]; done))) | with_reducible refine Ord.walk_calm rfl rfl (fun K hK => ?_) | ((with_reducible refine Ord.at_wild ?_); refine Ord.wild_fieldAddr rfl rfl (fun W => by simp [go_sem]; rfl) (fun K hK => ?_)) | ((with_reducible refine Ord.at_wild ?_); refine Ord.wild_move rfl rfl (fun K hK => ?_)) | ((with_reducible refine Ord.at_wild ?_); refine Ord.wild_nilCheck rfl rfl (fun K hK => ?_)) | with_reducible refine Ord.walk_eff rfl (by first | (simp; done) | assumption | (go_simp; done) | (repeat (first | assumption | exact Below.refl _ _ | refine Below.drew ?_ | refine Below.alloc ?_ (by first | omega | (simp; done) | (simp; omega)) _ | refine Below.setCell ?_ (by first | omega | (simp; done) | (simp; omega)) _ | refine Below.trans ?_ (Below.mono (by assumption) (by first | omega | (simp; done) | (simp; omega)))))) (fun K hK => ?_) | with_reducible refine Ord.at_fork ?_ ?_ | with_reducible refine Ord.walk_nil ?_ | (with_reducible refine Ord.next_of (by first | (simp; done) | (go_simp; done) | (repeat (first | assumption | exact Below.refl _ _ | refine Below.drew ?_ | refine Below.alloc ?_ (by first | omega | (simp; done) | (simp; omega)) _ | refine Below.setCell ?_ (by first | omega | (simp; done) | (simp; omega)) _ | refine Below.trans ?_ (Below.mono (by assumption) (by first | omega | (simp; done) | (simp; omega)))))) (fun _ => ?_)))
            refine ⟨⟨j + 1, by have := HLT.out; omega, by have := HKK.out; congr 1; omega, ?_, HOW.out.trans (hOf3.mono (by omega) (fun _ _ h => h))⟩, by have := HKK.out; simp [intOf]; omega⟩
            rw [HSU.out, ← List.append_assoc]
            exact hs3
        · have hlti : ¬ lo + (j : Int) ≤ hi := by omega
          obtain rfl : j = cnt := by omega
          clear hcnt
          go_wp2_with fail
          exact bodyPost_end (v := .tuple #[]) (results_nothing rfl _) rfl ⟨rfl, hst, hOw⟩
end Go.Proofs.Yteeinehpneppnaa
