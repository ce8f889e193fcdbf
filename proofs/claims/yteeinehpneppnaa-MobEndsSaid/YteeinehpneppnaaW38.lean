/- Parts of a proof: MuA, Lng. -/
import Derived.Test.YteeinehpneppnaaW34
import Derived.Test.YteeinehpneppnaaW37
import Derived.Test.YteeinehpneppnaaW29
import Derived.Test.YteeinehpneppnaaW24
import Derived.Test.YteeinehpneppnaaW30
/- The laws' inside, with: a way with one thing more that was seen. -/
set_option linter.unusedVariables false
set_option linter.unusedSimpArgs false
namespace Go.Proofs.Yteeinehpneppnaa
open Go.RowKit Go.Proofs
attribute [local irreducible] Ord.walk
def insideB (n lo hi : Int) : Bool := decide (lo ≤ n ∧ n ≤ hi)
theorem l_inside (n lo hi : Int) (w : World) : Calls Try.prog 32 #[.int .i64 n, .agg #[.int .i64 lo, .int .i64 hi]] w (Gives (.bool (insideB n lo hi)) w) := by
  go_enter Try.func32, Try.ntmps32
  go_wp2
  all_goals go_ret
  all_goals (refine ⟨ret_bool ?_, (Below.refl _ _).alloc (Nat.le_refl _) _⟩; simp [insideB, *]; try omega)
/-- An owned row, and its block. -/
def OwnT {α : Type} (w : World) (n0 : Nat) (t : TypeId) (n : Nat) (f : α → List Value) (l : List α) (v : Value) (bs : List Nat) : Prop := bs = v.ownBlock.toList ∧ w.ownsRow n0 t n v l.length (l.flatMap f)
theorem OwnT.stay {α : Type} {w w' : World} {n0 : Nat} {t : TypeId} {n : Nat} {f : α → List Value} {l : List α} {v : Value} {bs : List Nat} (h : OwnT w n0 t n f l v bs) (hb : ∀ k ∈ bs, w'.heap[k]? = w.heap[k]?) : OwnT w' n0 t n f l v bs := by
  obtain ⟨rfl, h1, h2⟩ := h
  refine ⟨rfl, h1, h2.imp id ?_⟩
  rintro ⟨g, cap, cur, rfl, hg, hh, r⟩
  exact ⟨g, cap, cur, rfl, hg, (hb g (by simp [Value.ownBlock])).trans hh, r⟩
theorem OwnT.lt {α : Type} {w : World} {n0 : Nat} {t : TypeId} {n : Nat} {f : α → List Value} {l : List α} {v : Value} {bs : List Nat} (h : OwnT w n0 t n f l v bs) : ∀ k ∈ bs, n0 ≤ k ∧ k < w.heap.size := by
  obtain ⟨rfl, h1, ⟨rfl, _⟩ | ⟨g, cap, cur, rfl, hg, hh, r⟩⟩ := h
  · intro k hk; simp [Value.ownBlock] at hk
  · intro k hk
    simp [Value.ownBlock] at hk
    subst hk
    exact ⟨hg, (Array.getElem?_eq_some_iff.1 hh).1⟩
theorem own_empty {w : World} {b base : Nat} {e : TypeId} {size : Nat} (h : Blk w b #[] e) (hb : base ≤ b) : w.ownsRow base e size (.slice (some ⟨b, 0, none⟩) 0 0) 0 [] := ⟨by simp, .inr ⟨b, 0, #[], rfl, hb, h, Nat.le_refl _, by unfold maxLen; omega, by simp, by simp⟩⟩
/-- What with's region does. -/
def withT (n : Nat) (mvv sv : Value) (C : Array Value) (ss : List (Int × Int × Int × Int)) (s : Int × Int × Int × Int) (sa : Option Addr) (sc : Nat) (c0 c1 c2 : Value) (w0 : World) : Ord.Tk where
  n0 := n
  F vals := #[mvv, sv, .pointer (some ⟨n, 0, none⟩), .pointer (some ⟨n + 1, 0, none⟩), .pointer (some ⟨n + 2, 0, none⟩), vals 0, vals 1, vals 2, vals 3, vals 4, vals 5, vals 6, vals 7, undef]
  ds := []
  H W := Below n w0 W ∧ Blk W (n + 1) #[.int .i64 s.1, .int .i64 s.2.1, .int .i64 s.2.2.1, .int .i64 s.2.2.2] 64 ∧ Blk W (n + 2) C 27
  rd i := match i with
    | 1 => some (.pointer (some ⟨n, 3, none⟩))
    | 2 => some (.slice sa ss.length sc)
    | 4 => some (.agg #[.int .i64 s.1, .int .i64 s.2.1, .int .i64 s.2.2.1, .int .i64 s.2.2.2])
    | 7 => some (.pointer (some ⟨n, 3, none⟩))
    | _ => none
  use i := match i with
    | 2 => [9]
    | 3 => [0]
    | 6 => [3, 5]
    | 8 => [6, 9]
    | _ => []
  take i := match i with
    | 3 => [0]
    | 6 => [3, 5]
    | 8 => [6, 9]
    | _ => []
  T i v bs w := match i with
    | 0 => ∃ b, bs = [b] ∧ n + 3 ≤ b ∧ v = .slice (some ⟨b, 0, none⟩) 0 0 ∧ Blk w b #[] 64
    | 3 => OwnT w (n + 3) 64 4 i4c ss v bs
    | 5 => ∃ b, bs = [b] ∧ n + 3 ≤ b ∧ v = .slice (some ⟨b, 0, none⟩) 1 1 ∧ Blk w b #[.int .i64 s.1, .int .i64 s.2.1, .int .i64 s.2.2.1, .int .i64 s.2.2.2] 64
    | 6 => OwnT w (n + 3) 64 4 i4c (ss ++ [s]) v bs
    | 8 => ∃ u bu, bs = n :: bu ∧ Blk w n #[c0, c1, c2, u] 27 ∧ OwnT w (n + 3) 64 4 i4c (ss ++ [s]) u bu
    | 9 => bs = [n] ∧ Blk w n #[c0, c1, c2, .slice sa ss.length sc] 27
    | _ => bs = []
  init := [9]
theorem withT_stay {n : Nat} {mvv sv : Value} {C : Array Value} {ss : List (Int × Int × Int × Int)} {s : Int × Int × Int × Int} {sa : Option Addr} {sc : Nat} {c0 c1 c2 : Value} {w0 : World} (i : Nat) (v : Value) (bs : List Nat) (w w' : World) (h : ∀ k ∈ bs, w'.heap[k]? = w.heap[k]?) (hT : (withT n mvv sv C ss s sa sc c0 c1 c2 w0).T i v bs w) : (withT n mvv sv C ss s sa sc c0 c1 c2 w0).T i v bs w' := by
  have key : ∀ {b : Nat} {A : Array Value} {t : TypeId}, Blk w b A t → b ∈ bs → Blk w' b A t := fun hb hm => (h _ hm).trans hb
  match i, hT with
  | 0, ⟨b, e, h1, h2, h3⟩ => exact ⟨b, e, h1, h2, key h3 (by simp [e])⟩
  | 1, hT => exact hT
  | 2, hT => exact hT
  | 3, hT => exact OwnT.stay hT h
  | 4, hT => exact hT
  | 5, ⟨b, e, h1, h2, h3⟩ => exact ⟨b, e, h1, h2, key h3 (by simp [e])⟩
  | 6, hT => exact OwnT.stay hT h
  | 7, hT => exact hT
  | 8, ⟨u, bu, e, h1, h2⟩ => exact ⟨u, bu, e, key h1 (by simp [e]), h2.stay fun k hk => h k (by simp [e, hk])⟩
  | 9, ⟨e, h1⟩ => exact ⟨e, key h1 (by simp [e])⟩
  | n + 10, hT => exact hT
theorem hR_read {t : Ord.Tk} {i : Nat} {vals : Nat → Value} {bs : Nat → List Nat} {w : World} {R : Act → World → Prop} (hR : ∀ a' w', t.Step i vals bs w a' w' → R a' w') {v : Value} {a' : Act} (ha : a' = ⟨t.F (Ord.setV vals i v), t.ds⟩) (hH : t.H w) (hu : ∀ u, t.rd i = some u → v = u) (hT : t.T i v [] w) : R a' w :=
  hR _ _ ⟨v, [], ha, hH, hu, hT, fun k hk => absurd hk (by simp), Nat.le_refl _, fun _ _ _ => rfl⟩
theorem hR_alloc {t : Ord.Tk} {i : Nat} {vals : Nat → Value} {bs : Nat → List Nat} {w : World} {R : Act → World → Prop} (hR : ∀ a' w', t.Step i vals bs w a' w' → R a' w') {v : Value} {a' : Act} {o : Obj} (ha : a' = ⟨t.F (Ord.setV vals i v), t.ds⟩) (hH : t.H (w.alloc o)) (hu : ∀ u, t.rd i = some u → v = u) (hT : t.T i v [w.heap.size] (w.alloc o)) (hn : t.n0 ≤ w.heap.size) : R a' (w.alloc o) :=
  hR _ _ ⟨v, [w.heap.size], ha, hH, hu, hT, fun k hk => by simp at hk; subst hk; exact ⟨hn, by simp, .inl (Nat.le_refl _)⟩, by simp, fun k hk _ => Below.heap_alloc w o k hk⟩
theorem hR_append {t : Ord.Tk} {i : Nat} {vals : Nat → Value} {bs : Nat → List Nat} {w w' : World} {R : Act → World → Prop} (hR : ∀ a' w', t.Step i vals bs w a' w' → R a' w') {v v' : Value} {a' : Act} {n1 : Nat} {e : TypeId} {n L : Nat} {xs : List Value} (ha : a' = ⟨t.F (Ord.setV vals i v'), t.ds⟩) (hH : t.H w') (hu : ∀ u, t.rd i = some u → v' = u) (hT : t.T i v' v'.ownBlock.toList w')
    (hown : w'.ownsRow n1 e n v' L xs) (hg : w.grownBy w' v.ownBlock) (hw : ∀ k, v'.ownBlock = some k → v.ownBlock = some k ∨ w.heap.size ≤ k) (hv : ∀ k, v.ownBlock = some k → ∃ j ∈ t.take i, k ∈ bs j) (hn : t.n0 ≤ n1) : R a' w' := by
  refine hR _ _ ⟨v', v'.ownBlock.toList, ha, hH, hu, hT, fun k hk => ?_, hg.size, fun k hk hkT => hg.block k hk (fun e => by obtain ⟨j, hj, hb⟩ := hv k e.symm; exact hkT j hj hb)⟩
  have hk' : v'.ownBlock = some k := by simpa using hk
  have h1 := hown.lt k hk'
  refine ⟨by omega, h1.2, ?_⟩
  rcases hw k hk' with h2 | h2
  · exact .inr (hv k h2)
  · exact .inl h2
set_option maxHeartbeats 4000000 in
set_option maxRecDepth 100000 in
theorem l_with (m : Mb) (A : Ma) (s : Int × Int × Int × Int) (w : World) (hm : MbAt w m A) (hl : m.seen.length ≤ 40) : Calls Try.prog 33 #[mv m A, .agg #[.int .i64 s.1, .int .i64 s.2.1, .int .i64 s.2.2.1, .int .i64 s.2.2.2]] w (Mobs (withM m s) w) := by
  obtain ⟨i0, hi0, hz0, hz1, hz2⟩ := info_parts Try.info64
  have hse := hm.seen
  obtain ⟨n, hn⟩ : ∃ n, w.heap.size = n := ⟨_, rfl⟩
  obtain ⟨s1, s2, s3, s4⟩ := s
  go_enter Try.func33, Try.ntmps33
  go_wp2_with fail
  obtain ⟨W3, hW3⟩ : ∃ W3, ((w.alloc (.cells (mcells m A) 27)).alloc (.cells #[.int .i64 s1, .int .i64 s2, .int .i64 s3, .int .i64 s4] 64)).alloc (.cells #[.slice none 0 0, .slice none 0 0, .slice none 0 0, .slice none 0 0] 27) = W3 := ⟨_, rfl⟩
  have hB3 : Below n w W3 := by rw [← hW3]; subst hn; (repeat (first | assumption | exact Below.refl _ _ | refine Below.drew ?_ | refine Below.alloc ?_ (by first | omega | (simp; done) | (simp; omega)) _ | refine Below.setCell ?_ (by first | omega | (simp; done) | (simp; omega)) _ | refine Below.trans ?_ (Below.mono (by assumption) (by first | omega | (simp; done) | (simp; omega)))))
  have b0 : Blk W3 n (mcells m A) 27 := by rw [← hW3]; exact ((Blk.new' _ _ _ _ hn).alloc _).alloc _
  have b1 : Blk W3 (n + 1) #[.int .i64 s1, .int .i64 s2, .int .i64 s3, .int .i64 s4] 64 := by rw [← hW3]; exact (Blk.new' _ _ _ _ (by simp [hn])).alloc _
  have b2 : Blk W3 (n + 2) #[.slice none 0 0, .slice none 0 0, .slice none 0 0, .slice none 0 0] 27 := by rw [← hW3]; exact Blk.new' _ _ _ _ (by simp [hn])
  rw [hW3]
  clear hW3
  go_cut [] from 5 to 13 (fun wx => Below n W3 wx ∧ Blk wx (n + 2) #[.slice none 0 0, .slice none 0 0, .slice none 0 0, .slice none 0 0] 27 ∧ ∃ u bu, Blk wx n #[.slice A.pa m.places.length A.pc, .slice A.la m.legs.length A.lc, .slice A.ha m.herds.length A.hc, u] 27 ∧ OwnT wx (n + 3) 64 4 i4c (m.seen ++ [(s1, s2, s3, s4)]) u bu)
  case first =>
    refine Ord.wp_regionW (withT n (mv m A) (.agg #[.int .i64 s1, .int .i64 s2, .int .i64 s3, .int .i64 s4]) #[.slice none 0 0, .slice none 0 0, .slice none 0 0, .slice none 0 0] m.seen (s1, s2, s3, s4) A.sa A.sc (.slice A.pa m.places.length A.pc) (.slice A.la m.legs.length A.lc) (.slice A.ha m.herds.length A.hc) W3) (by kernel_rfl) (by kernel_rfl) (by kernel_rfl) (by kernel_rfl) ?_ withT_stay (fun _ => undef) (fun _ => [n]) rfl ⟨(Below.refl _ _).drew, b1.drew, b2.drew⟩ ?_ ?_ ?_ ?_
    · intro j hj; simp [withT] at hj; subst hj; simp
    · intro j hj
      simp [withT] at hj
      subst hj
      exact ⟨⟨rfl, b0.drew⟩, fun k hk => by simp at hk; subst hk; exact ⟨Nat.le_refl _, b0.lt⟩⟩
    · intro i hi j hj hne
      simp [withT] at hi hj
      omega
    · intro j hj vals bs W hH hrd htok hdis R hRR
      have HRR := Lib.hid hRR
      clear hRR
      have hH0 := hH
      obtain ⟨hB, k1, k2⟩ := hH
      have l2 := k2.lt
      have r1 := k1.cell
      rcases (show j = 0 ∨ j = 1 ∨ j = 2 ∨ j = 3 ∨ j = 4 ∨ j = 5 ∨ j = 6 ∨ j = 7 ∨ j = 8 by simp at hj; omega) with rfl | rfl | rfl | rfl | rfl | rfl | rfl | rfl | rfl
      all_goals dsimp only [withT]
      · go_wp2_with (first | (with_reducible refine Ord.at_qn ?_) | ((with_reducible refine Ord.at_calm ?_); refine Ord.calm_skip rfl ?_ (fun K hK => ?_); (focus (simp [Region.wanted, yielded]; done))) | with_reducible refine Ord.walk_calm rfl rfl (fun K hK => ?_) | ((with_reducible refine Ord.at_wild ?_); refine Ord.wild_fieldAddr rfl rfl (fun W => by simp [go_sem]; rfl) (fun K hK => ?_)) | ((with_reducible refine Ord.at_wild ?_); refine Ord.wild_move rfl rfl (fun K hK => ?_)) | ((with_reducible refine Ord.at_wild ?_); refine Ord.wild_nilCheck rfl rfl (fun K hK => ?_)) | with_reducible refine Ord.walk_eff rfl (by first | (simp; done) | assumption | (go_simp; done) | (repeat (first | assumption | exact Below.refl _ _ | refine Below.drew ?_ | refine Below.alloc ?_ (by first | omega | (simp; done) | (simp; omega)) _ | refine Below.setCell ?_ (by first | omega | (simp; done) | (simp; omega)) _ | refine Below.trans ?_ (Below.mono (by assumption) (by first | omega | (simp; done) | (simp; omega)))))) (fun K hK => ?_) | with_reducible refine Ord.at_fork ?_ ?_ | with_reducible refine Ord.walk_nil ?_ | (with_reducible refine Ord.next_of (by first | (simp; done) | (go_simp; done) | (repeat (first | assumption | exact Below.refl _ _ | refine Below.drew ?_ | refine Below.alloc ?_ (by first | omega | (simp; done) | (simp; omega)) _ | refine Below.setCell ?_ (by first | omega | (simp; done) | (simp; omega)) _ | refine Below.trans ?_ (Below.mono (by assumption) (by first | omega | (simp; done) | (simp; omega)))))) (fun _ => ?_)))
        exact hR_alloc HRR.out rfl ⟨hB.alloc (by omega) _, k1.alloc _, k2.alloc _⟩ (by simp [withT]) ⟨_, rfl, by omega, rfl, Blk.new _ _ _⟩ (by show n ≤ _; omega)
      · go_wp2_with (first | (with_reducible refine Ord.at_qn ?_) | ((with_reducible refine Ord.at_calm ?_); refine Ord.calm_skip rfl ?_ (fun K hK => ?_); (focus (simp [Region.wanted, yielded]; done))) | with_reducible refine Ord.walk_calm rfl rfl (fun K hK => ?_) | ((with_reducible refine Ord.at_wild ?_); refine Ord.wild_fieldAddr rfl rfl (fun W => by simp [go_sem]; rfl) (fun K hK => ?_)) | ((with_reducible refine Ord.at_wild ?_); refine Ord.wild_move rfl rfl (fun K hK => ?_)) | ((with_reducible refine Ord.at_wild ?_); refine Ord.wild_nilCheck rfl rfl (fun K hK => ?_)) | with_reducible refine Ord.walk_eff rfl (by first | (simp; done) | assumption | (go_simp; done) | (repeat (first | assumption | exact Below.refl _ _ | refine Below.drew ?_ | refine Below.alloc ?_ (by first | omega | (simp; done) | (simp; omega)) _ | refine Below.setCell ?_ (by first | omega | (simp; done) | (simp; omega)) _ | refine Below.trans ?_ (Below.mono (by assumption) (by first | omega | (simp; done) | (simp; omega)))))) (fun K hK => ?_) | with_reducible refine Ord.at_fork ?_ ?_ | with_reducible refine Ord.walk_nil ?_ | (with_reducible refine Ord.next_of (by first | (simp; done) | (go_simp; done) | (repeat (first | assumption | exact Below.refl _ _ | refine Below.drew ?_ | refine Below.alloc ?_ (by first | omega | (simp; done) | (simp; omega)) _ | refine Below.setCell ?_ (by first | omega | (simp; done) | (simp; omega)) _ | refine Below.trans ?_ (Below.mono (by assumption) (by first | omega | (simp; done) | (simp; omega)))))) (fun _ => ?_)))
        exact hR_read HRR.out rfl hH0 (by simp [withT]) rfl
      · obtain ⟨⟨e, b9⟩, _⟩ := htok 9 (by simp [withT])
        have r9 := b9.cell
        have e1 := hrd 1 (by simp) (by kernel_rfl) _ rfl
        rw [e1]
        go_wp2_with (first | (with_reducible refine Ord.at_qn ?_) | ((with_reducible refine Ord.at_calm ?_); refine Ord.calm_skip rfl ?_ (fun K hK => ?_); (focus (simp [Region.wanted, yielded]; done))) | with_reducible refine Ord.walk_calm rfl rfl (fun K hK => ?_) | ((with_reducible refine Ord.at_wild ?_); refine Ord.wild_fieldAddr rfl rfl (fun W => by simp [go_sem]; rfl) (fun K hK => ?_)) | ((with_reducible refine Ord.at_wild ?_); refine Ord.wild_move rfl rfl (fun K hK => ?_)) | ((with_reducible refine Ord.at_wild ?_); refine Ord.wild_nilCheck rfl rfl (fun K hK => ?_)) | with_reducible refine Ord.walk_eff rfl (by first | (simp; done) | assumption | (go_simp; done) | (repeat (first | assumption | exact Below.refl _ _ | refine Below.drew ?_ | refine Below.alloc ?_ (by first | omega | (simp; done) | (simp; omega)) _ | refine Below.setCell ?_ (by first | omega | (simp; done) | (simp; omega)) _ | refine Below.trans ?_ (Below.mono (by assumption) (by first | omega | (simp; done) | (simp; omega)))))) (fun K hK => ?_) | with_reducible refine Ord.at_fork ?_ ?_ | with_reducible refine Ord.walk_nil ?_ | (with_reducible refine Ord.next_of (by first | (simp; done) | (go_simp; done) | (repeat (first | assumption | exact Below.refl _ _ | refine Below.drew ?_ | refine Below.alloc ?_ (by first | omega | (simp; done) | (simp; omega)) _ | refine Below.setCell ?_ (by first | omega | (simp; done) | (simp; omega)) _ | refine Below.trans ?_ (Below.mono (by assumption) (by first | omega | (simp; done) | (simp; omega)))))) (fun _ => ?_)))
        exact hR_read HRR.out (v := .slice A.sa m.seen.length A.sc) (by simp [withT, Ord.setV, e1]) hH0 (by simp [withT]) rfl
      · obtain ⟨⟨b, eb, hb3, ev, bb⟩, _⟩ := htok 0 (by simp [withT])
        have e2 := hrd 2 (by simp) (by kernel_rfl) _ rfl
        rw [ev, e2]
        go_wp2_with (first | (at_builtin; refine at_stop ?_) | (with_reducible refine Ord.at_qn ?_) | ((with_reducible refine Ord.at_calm ?_); refine Ord.calm_skip rfl ?_ (fun K hK => ?_); (focus (simp [Region.wanted, yielded]; done))) | with_reducible refine Ord.walk_calm rfl rfl (fun K hK => ?_) | ((with_reducible refine Ord.at_wild ?_); refine Ord.wild_fieldAddr rfl rfl (fun W => by simp [go_sem]; rfl) (fun K hK => ?_)) | ((with_reducible refine Ord.at_wild ?_); refine Ord.wild_move rfl rfl (fun K hK => ?_)) | ((with_reducible refine Ord.at_wild ?_); refine Ord.wild_nilCheck rfl rfl (fun K hK => ?_)) | with_reducible refine Ord.walk_eff rfl (by first | (simp; done) | assumption | (go_simp; done) | (repeat (first | assumption | exact Below.refl _ _ | refine Below.drew ?_ | refine Below.alloc ?_ (by first | omega | (simp; done) | (simp; omega)) _ | refine Below.setCell ?_ (by first | omega | (simp; done) | (simp; omega)) _ | refine Below.trans ?_ (Below.mono (by assumption) (by first | omega | (simp; done) | (simp; omega)))))) (fun K hK => ?_) | with_reducible refine Ord.at_fork ?_ ?_ | with_reducible refine Ord.walk_nil ?_ | (with_reducible refine Ord.next_of (by first | (simp; done) | (go_simp; done) | (repeat (first | assumption | exact Below.refl _ _ | refine Below.drew ?_ | refine Below.alloc ?_ (by first | omega | (simp; done) | (simp; omega)) _ | refine Below.setCell ?_ (by first | omega | (simp; done) | (simp; omega)) _ | refine Below.trans ?_ (Below.mono (by assumption) (by first | omega | (simp; done) | (simp; omega)))))) (fun _ => ?_)))
        unfold Stop
        refine wpList_appendW rfl (.tmp 5) (.tmp 7) 25 rfl (n + 3) 64 i0 (.agg #[.int .i64 0, .int .i64 0, .int .i64 0, .int .i64 0]) 4 32 Try.underlying25 hi0 hz0 hz1 hz2 rfl (by decide) (.slice (some ⟨b, 0, none⟩) 0 0) 0 [] rfl (own_empty bb hb3) (.slice A.sa m.seen.length A.sc) m.seen.length (m.seen.flatMap i4c) rfl ((hse.below (by rw [hn]; exact hB3.trans hB)).src i4c_len (by decide) _) (fun u hu => by obtain ⟨y, _, hu⟩ := List.mem_flatMap.1 hu; exact i4c_one y u hu) (by unfold maxLen; omega) (by omega) (by omega) ?_
        intro v' w' hown hg hwh
        simp only [Nat.zero_add, List.nil_append] at hown
        go_wp2_with (first | (with_reducible refine Ord.at_qn ?_) | ((with_reducible refine Ord.at_calm ?_); refine Ord.calm_skip rfl ?_ (fun K hK => ?_); (focus (simp [Region.wanted, yielded]; done))) | with_reducible refine Ord.walk_calm rfl rfl (fun K hK => ?_) | ((with_reducible refine Ord.at_wild ?_); refine Ord.wild_fieldAddr rfl rfl (fun W => by simp [go_sem]; rfl) (fun K hK => ?_)) | ((with_reducible refine Ord.at_wild ?_); refine Ord.wild_move rfl rfl (fun K hK => ?_)) | ((with_reducible refine Ord.at_wild ?_); refine Ord.wild_nilCheck rfl rfl (fun K hK => ?_)) | with_reducible refine Ord.walk_eff rfl (by first | (simp; done) | assumption | (go_simp; done) | (repeat (first | assumption | exact Below.refl _ _ | refine Below.drew ?_ | refine Below.alloc ?_ (by first | omega | (simp; done) | (simp; omega)) _ | refine Below.setCell ?_ (by first | omega | (simp; done) | (simp; omega)) _ | refine Below.trans ?_ (Below.mono (by assumption) (by first | omega | (simp; done) | (simp; omega)))))) (fun K hK => ?_) | with_reducible refine Ord.at_fork ?_ ?_ | with_reducible refine Ord.walk_nil ?_ | (with_reducible refine Ord.next_of (by first | (simp; done) | (go_simp; done) | (repeat (first | assumption | exact Below.refl _ _ | refine Below.drew ?_ | refine Below.alloc ?_ (by first | omega | (simp; done) | (simp; omega)) _ | refine Below.setCell ?_ (by first | omega | (simp; done) | (simp; omega)) _ | refine Below.trans ?_ (Below.mono (by assumption) (by first | omega | (simp; done) | (simp; omega)))))) (fun _ => ?_)))
        exact hR_append HRR.out (v' := v') (by simp [withT, Ord.setV, ev, e2, Act.put]) ⟨hB.grown hg (by omega) (fun g e => by simp [Value.ownBlock] at e; omega), (hg.block _ k1.lt (by simp [Value.ownBlock]; omega)).trans k1, (hg.block _ k2.lt (by simp [Value.ownBlock]; omega)).trans k2⟩ (by simp [withT]) ⟨rfl, hown⟩ hown hg hwh (fun k hk => ⟨0, by simp [withT], by simp [Value.ownBlock] at hk; subst hk; rw [eb]; simp⟩) (by show n ≤ n + 3; omega)
      · go_wp2_with (first | (with_reducible refine Ord.at_qn ?_) | ((with_reducible refine Ord.at_calm ?_); refine Ord.calm_skip rfl ?_ (fun K hK => ?_); (focus (simp [Region.wanted, yielded]; done))) | with_reducible refine Ord.walk_calm rfl rfl (fun K hK => ?_) | ((with_reducible refine Ord.at_wild ?_); refine Ord.wild_fieldAddr rfl rfl (fun W => by simp [go_sem]; rfl) (fun K hK => ?_)) | ((with_reducible refine Ord.at_wild ?_); refine Ord.wild_move rfl rfl (fun K hK => ?_)) | ((with_reducible refine Ord.at_wild ?_); refine Ord.wild_nilCheck rfl rfl (fun K hK => ?_)) | with_reducible refine Ord.walk_eff rfl (by first | (simp; done) | assumption | (go_simp; done) | (repeat (first | assumption | exact Below.refl _ _ | refine Below.drew ?_ | refine Below.alloc ?_ (by first | omega | (simp; done) | (simp; omega)) _ | refine Below.setCell ?_ (by first | omega | (simp; done) | (simp; omega)) _ | refine Below.trans ?_ (Below.mono (by assumption) (by first | omega | (simp; done) | (simp; omega)))))) (fun K hK => ?_) | with_reducible refine Ord.at_fork ?_ ?_ | with_reducible refine Ord.walk_nil ?_ | (with_reducible refine Ord.next_of (by first | (simp; done) | (go_simp; done) | (repeat (first | assumption | exact Below.refl _ _ | refine Below.drew ?_ | refine Below.alloc ?_ (by first | omega | (simp; done) | (simp; omega)) _ | refine Below.setCell ?_ (by first | omega | (simp; done) | (simp; omega)) _ | refine Below.trans ?_ (Below.mono (by assumption) (by first | omega | (simp; done) | (simp; omega)))))) (fun _ => ?_)))
        exact hR_read HRR.out (v := .agg #[.int .i64 s1, .int .i64 s2, .int .i64 s3, .int .i64 s4]) (by simp [withT, Ord.setV]) hH0 (by simp [withT]) rfl
      · have e4 := hrd 4 (by simp) (by kernel_rfl) _ rfl
        rw [e4]
        go_wp2_with (first | (with_reducible refine Ord.at_qn ?_) | ((with_reducible refine Ord.at_calm ?_); refine Ord.calm_skip rfl ?_ (fun K hK => ?_); (focus (simp [Region.wanted, yielded]; done))) | with_reducible refine Ord.walk_calm rfl rfl (fun K hK => ?_) | ((with_reducible refine Ord.at_wild ?_); refine Ord.wild_fieldAddr rfl rfl (fun W => by simp [go_sem]; rfl) (fun K hK => ?_)) | ((with_reducible refine Ord.at_wild ?_); refine Ord.wild_move rfl rfl (fun K hK => ?_)) | ((with_reducible refine Ord.at_wild ?_); refine Ord.wild_nilCheck rfl rfl (fun K hK => ?_)) | with_reducible refine Ord.walk_eff rfl (by first | (simp; done) | assumption | (go_simp; done) | (repeat (first | assumption | exact Below.refl _ _ | refine Below.drew ?_ | refine Below.alloc ?_ (by first | omega | (simp; done) | (simp; omega)) _ | refine Below.setCell ?_ (by first | omega | (simp; done) | (simp; omega)) _ | refine Below.trans ?_ (Below.mono (by assumption) (by first | omega | (simp; done) | (simp; omega)))))) (fun K hK => ?_) | with_reducible refine Ord.at_fork ?_ ?_ | with_reducible refine Ord.walk_nil ?_ | (with_reducible refine Ord.next_of (by first | (simp; done) | (go_simp; done) | (repeat (first | assumption | exact Below.refl _ _ | refine Below.drew ?_ | refine Below.alloc ?_ (by first | omega | (simp; done) | (simp; omega)) _ | refine Below.setCell ?_ (by first | omega | (simp; done) | (simp; omega)) _ | refine Below.trans ?_ (Below.mono (by assumption) (by first | omega | (simp; done) | (simp; omega)))))) (fun _ => ?_)))
        exact hR_alloc HRR.out (v := .slice (some ⟨W.heap.size, 0, none⟩) 1 1) (by simp [withT, Ord.setV, e4]) ⟨hB.alloc (by omega) _, k1.alloc _, k2.alloc _⟩ (by simp [withT]) ⟨_, rfl, by omega, rfl, Blk.new _ _ _⟩ (by show n ≤ _; omega)
      · have ht3 : OwnT W (n + 3) 64 4 i4c m.seen (vals 3) (bs 3) := (htok 3 (by simp [withT])).1
        obtain ⟨⟨b, eb, hb3, ev, bb⟩, _⟩ := htok 5 (by simp [withT])
        rw [ev]
        go_wp2_with (first | (at_builtin; refine at_stop ?_) | (with_reducible refine Ord.at_qn ?_) | ((with_reducible refine Ord.at_calm ?_); refine Ord.calm_skip rfl ?_ (fun K hK => ?_); (focus (simp [Region.wanted, yielded]; done))) | with_reducible refine Ord.walk_calm rfl rfl (fun K hK => ?_) | ((with_reducible refine Ord.at_wild ?_); refine Ord.wild_fieldAddr rfl rfl (fun W => by simp [go_sem]; rfl) (fun K hK => ?_)) | ((with_reducible refine Ord.at_wild ?_); refine Ord.wild_move rfl rfl (fun K hK => ?_)) | ((with_reducible refine Ord.at_wild ?_); refine Ord.wild_nilCheck rfl rfl (fun K hK => ?_)) | with_reducible refine Ord.walk_eff rfl (by first | (simp; done) | assumption | (go_simp; done) | (repeat (first | assumption | exact Below.refl _ _ | refine Below.drew ?_ | refine Below.alloc ?_ (by first | omega | (simp; done) | (simp; omega)) _ | refine Below.setCell ?_ (by first | omega | (simp; done) | (simp; omega)) _ | refine Below.trans ?_ (Below.mono (by assumption) (by first | omega | (simp; done) | (simp; omega)))))) (fun K hK => ?_) | with_reducible refine Ord.at_fork ?_ ?_ | with_reducible refine Ord.walk_nil ?_ | (with_reducible refine Ord.next_of (by first | (simp; done) | (go_simp; done) | (repeat (first | assumption | exact Below.refl _ _ | refine Below.drew ?_ | refine Below.alloc ?_ (by first | omega | (simp; done) | (simp; omega)) _ | refine Below.setCell ?_ (by first | omega | (simp; done) | (simp; omega)) _ | refine Below.trans ?_ (Below.mono (by assumption) (by first | omega | (simp; done) | (simp; omega)))))) (fun _ => ?_)))
        unfold Stop
        refine wpList_appendW rfl (.tmp 8) (.tmp 10) 25 rfl (n + 3) 64 i0 (.agg #[.int .i64 0, .int .i64 0, .int .i64 0, .int .i64 0]) 4 32 Try.underlying25 hi0 hz0 hz1 hz2 rfl (by decide) (vals 3) m.seen.length (m.seen.flatMap i4c) rfl ht3.2 (.slice (some ⟨b, 0, none⟩) 1 1) 1 (i4c (s1, s2, s3, s4)) rfl ⟨rfl, .inr ⟨_, _, rfl, news_blk bb⟩⟩ (i4c_one _) (by unfold maxLen; omega) (by omega) (by omega) ?_
        intro v' w' hown hg hwh
        have hn3 : ∀ g, (vals 3).ownBlock = some g → g ∈ bs 3 := fun g e => by rw [ht3.1, e]; simp
        have hge : ∀ g, (vals 3).ownBlock = some g → n + 3 ≤ g := fun g e => (ht3.2.lt g e).1
        go_wp2_with (first | (with_reducible refine Ord.at_qn ?_) | ((with_reducible refine Ord.at_calm ?_); refine Ord.calm_skip rfl ?_ (fun K hK => ?_); (focus (simp [Region.wanted, yielded]; done))) | with_reducible refine Ord.walk_calm rfl rfl (fun K hK => ?_) | ((with_reducible refine Ord.at_wild ?_); refine Ord.wild_fieldAddr rfl rfl (fun W => by simp [go_sem]; rfl) (fun K hK => ?_)) | ((with_reducible refine Ord.at_wild ?_); refine Ord.wild_move rfl rfl (fun K hK => ?_)) | ((with_reducible refine Ord.at_wild ?_); refine Ord.wild_nilCheck rfl rfl (fun K hK => ?_)) | with_reducible refine Ord.walk_eff rfl (by first | (simp; done) | assumption | (go_simp; done) | (repeat (first | assumption | exact Below.refl _ _ | refine Below.drew ?_ | refine Below.alloc ?_ (by first | omega | (simp; done) | (simp; omega)) _ | refine Below.setCell ?_ (by first | omega | (simp; done) | (simp; omega)) _ | refine Below.trans ?_ (Below.mono (by assumption) (by first | omega | (simp; done) | (simp; omega)))))) (fun K hK => ?_) | with_reducible refine Ord.at_fork ?_ ?_ | with_reducible refine Ord.walk_nil ?_ | (with_reducible refine Ord.next_of (by first | (simp; done) | (go_simp; done) | (repeat (first | assumption | exact Below.refl _ _ | refine Below.drew ?_ | refine Below.alloc ?_ (by first | omega | (simp; done) | (simp; omega)) _ | refine Below.setCell ?_ (by first | omega | (simp; done) | (simp; omega)) _ | refine Below.trans ?_ (Below.mono (by assumption) (by first | omega | (simp; done) | (simp; omega)))))) (fun _ => ?_)))
        have hown' : w'.ownsRow (n + 3) 64 4 v' (m.seen ++ [(s1, s2, s3, s4)]).length ((m.seen ++ [(s1, s2, s3, s4)]).flatMap i4c) := by simpa using hown
        exact hR_append HRR.out (v' := v') (by simp [withT, Ord.setV, ev, Act.put]) ⟨hB.grown hg (by omega) (fun g e => by have := hge g e; omega), (hg.block _ k1.lt (fun e => by have := hge _ e.symm; omega)).trans k1, (hg.block _ k2.lt (fun e => by have := hge _ e.symm; omega)).trans k2⟩ (by simp [withT]) ⟨rfl, hown'⟩ hown' hg hwh (fun k hk => ⟨3, by simp [withT], hn3 k hk⟩) (by show n ≤ n + 3; omega)
      · go_wp2_with (first | (with_reducible refine Ord.at_qn ?_) | ((with_reducible refine Ord.at_calm ?_); refine Ord.calm_skip rfl ?_ (fun K hK => ?_); (focus (simp [Region.wanted, yielded]; done))) | with_reducible refine Ord.walk_calm rfl rfl (fun K hK => ?_) | ((with_reducible refine Ord.at_wild ?_); refine Ord.wild_fieldAddr rfl rfl (fun W => by simp [go_sem]; rfl) (fun K hK => ?_)) | ((with_reducible refine Ord.at_wild ?_); refine Ord.wild_move rfl rfl (fun K hK => ?_)) | ((with_reducible refine Ord.at_wild ?_); refine Ord.wild_nilCheck rfl rfl (fun K hK => ?_)) | with_reducible refine Ord.walk_eff rfl (by first | (simp; done) | assumption | (go_simp; done) | (repeat (first | assumption | exact Below.refl _ _ | refine Below.drew ?_ | refine Below.alloc ?_ (by first | omega | (simp; done) | (simp; omega)) _ | refine Below.setCell ?_ (by first | omega | (simp; done) | (simp; omega)) _ | refine Below.trans ?_ (Below.mono (by assumption) (by first | omega | (simp; done) | (simp; omega)))))) (fun K hK => ?_) | with_reducible refine Ord.at_fork ?_ ?_ | with_reducible refine Ord.walk_nil ?_ | (with_reducible refine Ord.next_of (by first | (simp; done) | (go_simp; done) | (repeat (first | assumption | exact Below.refl _ _ | refine Below.drew ?_ | refine Below.alloc ?_ (by first | omega | (simp; done) | (simp; omega)) _ | refine Below.setCell ?_ (by first | omega | (simp; done) | (simp; omega)) _ | refine Below.trans ?_ (Below.mono (by assumption) (by first | omega | (simp; done) | (simp; omega)))))) (fun _ => ?_)))
        exact hR_read HRR.out rfl hH0 (by simp [withT]) rfl
      · have ht6 : OwnT W (n + 3) 64 4 i4c (m.seen ++ [(s1, s2, s3, s4)]) (vals 6) (bs 6) := (htok 6 (by simp [withT])).1
        obtain ⟨⟨e9, b9⟩, _⟩ := htok 9 (by simp [withT])
        have e7 := hrd 7 (by simp) (by kernel_rfl) _ rfl
        obtain ⟨g, q, ev⟩ := own_slice ht6.2 (by simp)
        have f9 := b9.free
        have l9 := b9.lt
        have r9 := b9.cell
        rw [e7, ev]
        go_wp2_with (first | (with_reducible refine Ord.at_qn ?_) | ((with_reducible refine Ord.at_calm ?_); refine Ord.calm_skip rfl ?_ (fun K hK => ?_); (focus (simp [Region.wanted, yielded]; done))) | with_reducible refine Ord.walk_calm rfl rfl (fun K hK => ?_) | ((with_reducible refine Ord.at_wild ?_); refine Ord.wild_fieldAddr rfl rfl (fun W => by simp [go_sem]; rfl) (fun K hK => ?_)) | ((with_reducible refine Ord.at_wild ?_); refine Ord.wild_move rfl rfl (fun K hK => ?_)) | ((with_reducible refine Ord.at_wild ?_); refine Ord.wild_nilCheck rfl rfl (fun K hK => ?_)) | with_reducible refine Ord.walk_eff rfl (by first | (simp; done) | assumption | (go_simp; done) | (repeat (first | assumption | exact Below.refl _ _ | refine Below.drew ?_ | refine Below.alloc ?_ (by first | omega | (simp; done) | (simp; omega)) _ | refine Below.setCell ?_ (by first | omega | (simp; done) | (simp; omega)) _ | refine Below.trans ?_ (Below.mono (by assumption) (by first | omega | (simp; done) | (simp; omega)))))) (fun K hK => ?_) | with_reducible refine Ord.at_fork ?_ ?_ | with_reducible refine Ord.walk_nil ?_ | (with_reducible refine Ord.next_of (by first | (simp; done) | (go_simp; done) | (repeat (first | assumption | exact Below.refl _ _ | refine Below.drew ?_ | refine Below.alloc ?_ (by first | omega | (simp; done) | (simp; omega)) _ | refine Below.setCell ?_ (by first | omega | (simp; done) | (simp; omega)) _ | refine Below.trans ?_ (Below.mono (by assumption) (by first | omega | (simp; done) | (simp; omega)))))) (fun _ => ?_)))
        have hgt : n + 3 ≤ g := by have := (ht6.2.lt g (by rw [ev]; rfl)).1; omega
        have hsc : ∀ k, k ≠ n → (W.setCell ⟨n, 3, none⟩ (.slice (some ⟨g, 0, none⟩) (m.seen ++ [(s1, s2, s3, s4)]).length q)).heap[k]? = W.heap[k]? := fun k hk => Below.heap_setCell W _ _ k hk
        have e1 : (m.seen.length : Int) + 1 = ((m.seen ++ [(s1, s2, s3, s4)]).length : Int) := by simp
        simp only [List.length_append, List.length_cons, List.length_nil] at hsc ev
        refine HRR.out _ _ ⟨undef, n :: (vals 6).ownBlock.toList, by simp [withT, Ord.setV, e7, ev], ⟨hB.setCell (by simp) _, k1.other (by simp) _, k2.other (by simp) _⟩, by simp [withT], ⟨vals 6, _, rfl, by rw [ev]; exact b9.set 3 _, OwnT.stay ⟨rfl, ht6.2⟩ fun k hk => hsc k (by rw [ev] at hk; simp [Value.ownBlock] at hk; omega)⟩, fun k hk => ?_, by simp, fun k hk hkT => hsc k fun e => hkT 9 (by simp [withT]) (by rw [e9]; simp [e])⟩
        simp only [List.mem_cons] at hk
        rcases hk with rfl | hk
        · exact ⟨Nat.le_refl _, by simpa using l9, .inr ⟨9, by simp [withT], by rw [e9]; simp⟩⟩
        · rw [← ht6.1] at hk
          have := ht6.lt k hk
          exact ⟨by show n ≤ k; omega, by simpa using this.2, .inr ⟨6, by simp [withT], hk⟩⟩
    · intro vals bs W hH hrd htok hdis
      obtain ⟨hB, k1, k2⟩ := hH
      obtain ⟨⟨u, bu, _, h1, h2⟩, _⟩ := htok 8 (.inr (by simp)) (fun c hc => by
        have hc' : c < 9 := by simpa using hc
        rcases (show c = 0 ∨ c = 1 ∨ c = 2 ∨ c = 3 ∨ c = 4 ∨ c = 5 ∨ c = 6 ∨ c = 7 ∨ c = 8 by omega) with rfl | rfl | rfl | rfl | rfl | rfl | rfl | rfl | rfl <;> simp [withT])
      dsimp only [withT]
      go_step
      go_step
      go_meet
      exact ⟨hB, k2, u, bu, h1, h2⟩
  case rest =>
    obtain ⟨hBx, b2x, u, bu, b0x, hou⟩ := hcut
    obtain ⟨g, c, rfl, hrs⟩ := own_rows i4c_len hou.2
    go_wp2_with (first
      | (refine wpList_load_blk 27 (.tmp 2) agg_mob rfl rfl rfl b0x rfl ?_)
      | (refine wpList_store_blk 27 (.tmp 4) (.tmp 13) agg_mob rfl rfl rfl rfl b2x rfl rfl (by simp [Value.oneCell']) ?_; intro w7 h7; refine at_stop ?_))
    unfold Stop
    have hBf : Below n w w7 := h7.below (hB3.trans hBx) (by omega)
    have hr7 := hrs.rowed b2x h7 (by simp [isSl]) (by intro a u hu; simp [i4c] at hu; rcases hu with rfl | rfl | rfl | rfl <;> rfl)
    go_wp2_with fail
    refine bodyPost_ret (v := mv (withM m (s1, s2, s3, s4)) ⟨A.pa, A.pc, A.la, A.lc, A.ha, A.hc, g, c⟩) (results_cell_blk rfl _ agg_mob rfl h7.blk rfl) rfl ⟨_, rfl, ⟨?_, ?_, ?_, hr7⟩, by rw [hn]; exact hBf⟩
    · exact hm.places.below (by rw [hn]; exact hBf)
    · exact hm.legs.below (by rw [hn]; exact hBf)
    · exact hm.herds.below (by rw [hn]; exact hBf)
end Go.Proofs.Yteeinehpneppnaa
/- A way that is valid has no long list. -/
set_option linter.unusedVariables false
set_option linter.unusedSimpArgs false
namespace Go.Proofs.Yteeinehpneppnaa
open Go.RowKit Go.Proofs
attribute [local irreducible] Ord.walk
theorem longB_ok {m : Mb} (hv : validM m = true) : longB m = false := by
  have := validM_len hv
  unfold longB
  simp only [decide_eq_false_iff_not]
  omega
end Go.Proofs.Yteeinehpneppnaa
