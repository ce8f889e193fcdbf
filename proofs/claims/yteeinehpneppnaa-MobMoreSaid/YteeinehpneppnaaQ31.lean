/- Parts of a proof: MuP, AppW, MuA. -/
import Derived.Test.YteeinehpneppnaaQ30
import Derived.Test.YteeinehpneppnaaQ28
import Derived.Test.YteeinehpneppnaaQ04
import Derived.Test.YteeinehpneppnaaQ29
import Derived.Test.YteeinehpneppnaaQ24
set_option linter.unusedVariables false
set_option linter.unusedSimpArgs false
namespace Go.Proofs.Yteeinehpneppnaa
open Go.RowKit Go.Proofs
attribute [local irreducible] Ord.walk
/-- A way with one thing more that was seen. -/
def withM (m : Mb) (s : Int × Int × Int × Int) : Mb := { m with seen := m.seen ++ [s] }
theorem mem_TM {m : Mb} (hv : validM m = true) (L D : List Int) : (L, D) ∈ TM m ↔ L ∈ prodL m.legs ∧ D ∈ prodL (leavesL m) ∧ ∀ s ∈ m.seen, seenB m L D s = true := by
  have hlen := validM_len hv
  unfold TM truthsM
  constructor
  · intro h
    obtain ⟨L', hL', h2⟩ := List.mem_flatMap.1 h
    obtain ⟨D', hD', e⟩ := List.mem_map.1 h2
    cases e
    have h3 := List.mem_filter.1 hD'
    refine ⟨hL', h3.1, fun s hs => ?_⟩
    obtain ⟨i, hi, e⟩ := List.mem_iff_getElem.1 hs
    have := (rightM_iff _ _ _ _).1 h3.2 i hi (hasB_every _ i hi (by omega))
    rw [List.getD_eq_getElem?_getD, List.getElem?_eq_getElem hi, Option.getD_some, e] at this
    exact this
  · rintro ⟨h1, h2, h3⟩
    refine List.mem_flatMap.2 ⟨L, h1, List.mem_map.2 ⟨D, List.mem_filter.2 ⟨h2, (rightM_iff _ _ _ _).2 fun i hi _ => ?_⟩, rfl⟩⟩
    rw [List.getD_eq_getElem?_getD, List.getElem?_eq_getElem hi, Option.getD_some]
    exact h3 _ (List.getElem_mem hi)
/-- The days of a mob at a place, in all truths. -/
def daysJ (m : Mb) (i p : Nat) : Int × Int := joinL ((TM m).map fun t => dup (dayAt m t.1 t.2 i p))
theorem daysJ_in {m : Mb} (hT : TM m ≠ []) (i p : Nat) : (∀ L D, (L, D) ∈ TM m → (daysJ m i p).1 ≤ dayAt m L D i p ∧ dayAt m L D i p ≤ (daysJ m i p).2) ∧ (∃ L D, (L, D) ∈ TM m ∧ dayAt m L D i p = (daysJ m i p).1) ∧ (∃ L D, (L, D) ∈ TM m ∧ dayAt m L D i p = (daysJ m i p).2) := by
  have hne := tm_ne hT fun t => dup (dayAt m t.1 t.2 i p)
  have h1 : ∀ L D, (L, D) ∈ TM m → (daysJ m i p).1 ≤ dayAt m L D i p ∧ dayAt m L D i p ≤ (daysJ m i p).2 := fun L D ht =>
    ⟨(joinL_fst hne _).2 ⟨_, List.mem_map.2 ⟨_, ht, rfl⟩, Int.le_refl _⟩, (joinL_snd hne _).1 (Int.le_refl _) _ (List.mem_map.2 ⟨_, ht, rfl⟩)⟩
  refine ⟨h1, ?_, ?_⟩
  · obtain ⟨x, hx, h2⟩ := (joinL_fst hne _).1 (Int.le_refl _)
    obtain ⟨⟨L, D⟩, ht, rfl⟩ := List.mem_map.1 hx
    have := (h1 L D ht).1
    refine ⟨L, D, ht, ?_⟩
    have h3 : dayAt m L D i p ≤ (daysJ m i p).1 := h2
    omega
  · rcases Classical.em (∃ L D, (L, D) ∈ TM m ∧ dayAt m L D i p = (daysJ m i p).2) with h | h
    · exact h
    · exfalso
      have : (daysJ m i p).2 ≤ (daysJ m i p).2 - 1 := (joinL_snd hne _).2 fun x hx => by
        obtain ⟨⟨L, D⟩, ht, rfl⟩ := List.mem_map.1 hx
        have := (h1 L D ht).2
        have : dayAt m L D i p ≠ (daysJ m i p).2 := fun e => h ⟨L, D, ht, e⟩
        show dayAt m L D i p ≤ (daysJ m i p).2 - 1
        omega
      omega
theorem comes_ok {m : Mb} {i p : Nat} (hv : validM m = true) (hf : fromB m i p = true) (hT : TM m ≠ []) : comesR m i p = (daysJ m i p, 0) := by
  rw [comesR_eq]
  unfold comesE
  have hk : knownE m (fromB m i p) = 0 := by unfold knownE; rw [hv, hf, if_neg (by simp), if_neg (by simp), if_neg hT]
  rw [if_pos hk, Int.toNat_natCast, Int.toNat_natCast]
  rfl
theorem comes_clash {m : Mb} {i p : Int} (hv : validM m = true) (hf : fromB m i p = true) (hT : TM m = []) : comesR m i p = ((0, 0), 10) := by
  rw [comesR_eq]
  unfold comesE
  have hk : knownE m (fromB m i p) = 10 := by unfold knownE; rw [hv, hf, if_neg (by simp), if_neg (by simp), if_pos hT]
  rw [hk, if_neg (by decide)]
theorem inK_mono (m : Mb) {L L' : List Int} {s : Nat} {d d' : Int} (hd : d ≤ d') : ∀ k, (∀ j, j < k → L.getD (s + j) 0 ≤ L'.getD (s + j) 0) → inK m L s d k ≤ inK m L' s d' k
  | 0, _ => hd
  | k + 1, h => by
    have ih := inK_mono m hd k (fun j hj => h j (by omega))
    have := h k (by omega)
    simp only [inK]
    omega
def lowL (m : Mb) : List Int := m.legs.map (·.1)
def highL (m : Mb) : List Int := m.legs.map (·.2)
theorem lowL_get (m : Mb) (p : Nat) : (lowL m).getD p 0 = (m.legs.getD p (0, 0)).1 ∧ (highL m).getD p 0 = (m.legs.getD p (0, 0)).2 := by
  unfold lowL highL
  simp only [List.getD_eq_getElem?_getD, List.getElem?_map]
  cases m.legs[p]? <;> simp
theorem leaves_lo {m : Mb} (hv : validM m = true) : m.herds.map (·.2.1) ∈ prodL (leavesL m) ∧ m.herds.map (·.2.2.1) ∈ prodL (leavesL m) := by
  have h := (vparts hv).hd
  constructor
  all_goals
    refine (mem_prodL _ _).2 ⟨by simp [leavesL], fun i hi => ?_⟩
    have hi' : i < m.herds.length := by simpa [leavesL] using hi
    have := h _ (List.getElem_mem hi')
    refine ⟨_, by rw [List.getElem?_map, List.getElem?_eq_getElem hi']; rfl, ?_, ?_⟩ <;> simp only [leavesL, List.getElem_map] <;> omega
theorem fromB_of {m : Mb} {i p : Nat} (hi : i < m.herds.length) (h1 : startI m i ≤ p) (h2 : p < m.places.length) : fromB m i p = true := by
  unfold fromB inB
  simp only [Bool.and_eq_true, decide_eq_true_eq]
  omega
theorem bare_days {m : Mb} (hv : validM m = true) {i p : Nat} (hi : i < m.herds.length) (hp : p < m.places.length) :
    daysJ (bareM m) i p = (inK m (lowL m) (startN m i) (m.herds.getD i (0, 0, 0, 0)).2.1 (p - startN m i), inK m (highL m) (startN m i) (m.herds.getD i (0, 0, 0, 0)).2.2.1 (p - startN m i)) := by
  have hb := bare_valid hv
  obtain ⟨_, hT, _⟩ := bare_known hb rfl (vb := true) rfl
  have hlen := validM_len hv
  have hst := start_le hv hi
  have hday : ∀ L D, dayAt (bareM m) L D i p = inK m L (startN m i) (D.getD i 0) (p - startN m i) := fun L D => inK_sub m [] L _ _ _
  have hget : m.herds.getD i (0, 0, 0, 0) = m.herds[i] := by rw [List.getD_eq_getElem?_getD, List.getElem?_eq_getElem hi]; rfl
  obtain ⟨h1, ⟨L1, D1, t1, e1⟩, ⟨L2, D2, t2, e2⟩⟩ := daysJ_in hT i p
  have hin : ∀ L D, (L, D) ∈ TM (bareM m) → inK m (lowL m) (startN m i) (m.herds.getD i (0, 0, 0, 0)).2.1 (p - startN m i) ≤ dayAt (bareM m) L D i p ∧ dayAt (bareM m) L D i p ≤ inK m (highL m) (startN m i) (m.herds.getD i (0, 0, 0, 0)).2.2.1 (p - startN m i) := fun L D ht => by
    obtain ⟨hL, hD, _⟩ := (mem_TM hb L D).1 ht
    have hL' : L ∈ prodL m.legs := hL
    obtain ⟨_, hD2⟩ := (mem_prodL _ _).1 hD
    obtain ⟨y, ey, hy⟩ := hD2 i (by show i < (leavesL (bareM m)).length; simp [leavesL, bareM]; exact hi)
    have hy' : m.herds[i].2.1 ≤ y ∧ y ≤ m.herds[i].2.2.1 := by simpa [leavesL, bareM] using hy
    rw [hday, hget]
    have hDi : D.getD i 0 = y := by rw [List.getD_eq_getElem?_getD, ey]; rfl
    rw [hDi]
    constructor
    · refine inK_mono m hy'.1 _ fun j hj => ?_
      rw [(lowL_get m _).1]
      exact (legs_in hv hL' (by omega)).1
    · refine inK_mono m hy'.2 _ fun j hj => ?_
      rw [(lowL_get m _).2]
      exact (legs_in hv hL' (by omega)).2.1
  have hlo : (lowL m, m.herds.map (·.2.1)) ∈ TM (bareM m) := (mem_TM hb _ _).2 ⟨(legs_lo hv).1, (leaves_lo hv).1, fun s hs => absurd hs (by simp [bareM])⟩
  have hhi : (highL m, m.herds.map (·.2.2.1)) ∈ TM (bareM m) := (mem_TM hb _ _).2 ⟨(legs_lo hv).2, (leaves_lo hv).2, fun s hs => absurd hs (by simp [bareM])⟩
  have k1 := (h1 _ _ hlo).1
  have k2 := (h1 _ _ hhi).2
  have g1 : (m.herds.map (·.2.1)).getD i 0 = (m.herds.getD i (0, 0, 0, 0)).2.1 := by rw [List.getD_eq_getElem?_getD, List.getElem?_map, List.getElem?_eq_getElem hi, hget]; rfl
  have g2 : (m.herds.map (·.2.2.1)).getD i 0 = (m.herds.getD i (0, 0, 0, 0)).2.2.1 := by rw [List.getD_eq_getElem?_getD, List.getElem?_map, List.getElem?_eq_getElem hi, hget]; rfl
  rw [hday, g1] at k1
  rw [hday, g2] at k2
  have k3 := (hin _ _ t1).1
  have k4 := (hin _ _ t2).2
  rw [e1] at k3
  rw [e2] at k4
  exact Prod.ext (by simp only; omega) (by simp only; omega)
end Go.Proofs.Yteeinehpneppnaa
set_option linter.unusedVariables false
set_option linter.unusedSimpArgs false
namespace Go.Proofs.Yteeinehpneppnaa
open Go.RowKit Go.Proofs
section
variable {P : Program} {w : World}
theorem append_where (base : Nat) (t ty e : TypeId) (i : TypeInfo) (z : Value) (size bytes : Nat) (ht : P.underlying t = some (.slice e)) (hi : P.info? e = some i) (hz : i.zero = some z)
    (hsize : i.size = size) (hby : i.bytes = bytes) (hzs : z.cells.size = size) (hsz : 0 < size)
    (v : Value) (n : Nat) (xs : List Value) (hown : w.ownsRow base e size v n xs)
    (a : Addr) (m c : Nat) (news : List Value) (hl : news.length = m * size) (hnews : ∀ j u, news[j]? = some u → w.cell? (a.add j) = some u) (h1 : ∀ u ∈ news, u.oneCell' = true)
    (h63 : n + m ≤ maxLen) (hbytes : (n + m) * bytes ≤ 140737488355328) (hbase : base ≤ w.heap.size) :
    ∃ v' w', (Builtin.append_ #[t, t] ty #[v, .slice (some a) m c]).run P w = .ok v' w' ∧ w'.ownsRow base e size v' (n + m) (xs ++ news) ∧ w.grownBy w' v.ownBlock ∧ (∀ k, v'.ownBlock = some k → v.ownBlock = some k ∨ w.heap.size ≤ k) := by
  obtain ⟨v', w', hr, h2, h3, h4⟩ := run_append_own (P := P) w base t ty e i z size bytes ht hi hz hsize hby hzs hsz v n xs hown a m c news hl hnews h1 h63 hbytes hbase
  refine ⟨v', w', hr, h2, h3, fun k hk => ?_⟩
  subst hsize hby
  have hsm : n + m ≤ 9223372036854775807 := by unfold maxLen at h63; omega
  rcases hown.2 with ⟨rfl, rfl⟩ | ⟨g, cap, cur, rfl, hbg, hg, hnc, hcm, hcs, htake⟩
  · by_cases hm : m = 0
    · rw [h4.2 ⟨rfl, hm⟩] at hk; cases hk
    · have h5 := run_append_nil (P := P) w t ty e i z ht hi hz a m c news hl hnews (by omega) (by omega) (by rw [Nat.zero_add] at hbytes; omega)
      rw [hr] at h5
      injection h5 with h6 h7
      subst h6
      simp only [Value.ownBlock, Option.some.injEq] at hk
      exact .inr (by omega)
  · by_cases hroom : n + m ≤ cap
    · have h5 := run_append_room (P := P) w t ty e i ht hi g n cap cur hg a m c news hl hnews h1 hroom (by rw [hl, hcs, ← Nat.add_mul]; exact Nat.mul_le_mul_right _ hroom)
      rw [hr] at h5
      injection h5 with h6 h7
      subst h6
      exact .inl hk
    · have h5 := run_append_grow (P := P) w t ty e i z ht hi hz ⟨g, 0, none⟩ n cap xs hown.1 (hown.cells (g := g) rfl) a m c news hl hnews (by omega) (by omega) (growslice_fits (by omega) hbytes)
      rw [hr] at h5
      injection h5 with h6 h7
      subst h6
      simp only [Value.ownBlock, Option.some.injEq] at hk
      exact .inr (by omega)
/-- append(s, l...), s owned, l a list or nil. -/
theorem wpList_appendW {ops : Array Oper} {rest : List Oper} {o : Oper} {a : Act} {Q : Exit → Act → World → Prop} (hgd : o.guard = none) (s x : Operand) (t : TypeId)
    (ho : o.op = .call { callee := .builtin .append, args := #[s, x], argTypes := #[t, t] })
    (base : Nat) (e : TypeId) (i : TypeInfo) (z : Value) (size bytes : Nat) (ht : P.underlying t = some (.slice e)) (hi : P.info? e = some i) (hz : i.zero = some z)
    (hsize : i.size = size) (hby : i.bytes = bytes) (hzs : z.cells.size = size) (hsz : 0 < size)
    (v : Value) (n : Nat) (xs : List Value) (hs : a.eval s = v) (hown : w.ownsRow base e size v n xs)
    (sv : Value) (m : Nat) (news : List Value) (hx : a.eval x = sv) (hsrc : SrcAt w sv m size news) (h1 : ∀ u ∈ news, u.oneCell' = true)
    (h63 : n + m ≤ maxLen) (hbytes : (n + m) * bytes ≤ 140737488355328) (hbase : base ≤ w.heap.size)
    (h : ∀ v' w', w'.ownsRow base e size v' (n + m) (xs ++ news) → w.grownBy w' v.ownBlock → (∀ k, v'.ownBlock = some k → v.ownBlock = some k ∨ w.heap.size ≤ k) → wpList P ops Q rest (a.put o.dst v') w') : wpList P ops Q (o :: rest) a w := by
  obtain ⟨hl, ⟨c, rfl, rfl⟩ | ⟨ad, c, rfl, hnews⟩⟩ := hsrc
  · have hn : news = [] := List.eq_nil_of_length_eq_zero (by simpa using hl)
    subst hn
    refine wpList_plain hgd fun K hK => ?_
    have hr := run_append_none (P := P) (w := w) base t o.type e i ht hi v n size xs hown c
    unfold Oper.wp execOp
    simp only [ho, resolve, invoke, builtin, Sem.run_bind, Sem.run_pure, Result.andThen_ok, List.map_toArray, List.map_cons, List.map_nil, hs, hx, hr]
    refine hK _ _ (h v w (by simpa using hown) ⟨rfl, rfl, rfl, Nat.le_refl _, fun _ _ _ => rfl⟩ (fun k hk => .inl hk))
  · obtain ⟨v', w', hr, h2, h3, h4⟩ := append_where (P := P) (w := w) base t o.type e i z size bytes ht hi hz hsize hby hzs hsz v n xs hown ad m c news hl hnews h1 h63 hbytes hbase
    refine wpList_plain hgd fun K hK => ?_
    unfold Oper.wp execOp
    simp only [ho, resolve, invoke, builtin, Sem.run_bind, Sem.run_pure, Result.andThen_ok, List.map_toArray, List.map_cons, List.map_nil, hs, hx, hr]
    exact hK _ _ (h v' w' h2 h3 h4)
end
end Go.Proofs.Yteeinehpneppnaa
set_option linter.unusedVariables false
set_option linter.unusedSimpArgs false
namespace Go.Proofs.Yteeinehpneppnaa
open Go.RowKit Go.Proofs
attribute [local irreducible] Ord.walk
/-- An owned row, and its block. -/
def OwnT {α : Type} (w : World) (n0 : Nat) (t : TypeId) (n : Nat) (f : α → List Value) (l : List α) (v : Value) (bs : List Nat) : Prop := bs = v.ownBlock.toList ∧ w.ownsRow n0 t n v l.length (l.flatMap f)
theorem OwnT.stay {α : Type} {w w' : World} {n0 : Nat} {t : TypeId} {n : Nat} {f : α → List Value} {l : List α} {v : Value} {bs : List Nat} (h : OwnT w n0 t n f l v bs) (hb : ∀ k ∈ bs, w'.heap[k]? = w.heap[k]?) : OwnT w' n0 t n f l v bs := by
  obtain ⟨rfl, h1, h2⟩ := h
  refine ⟨rfl, h1, h2.imp id ?_⟩
  rintro ⟨g, cap, cur, rfl, hg, hh, r⟩
  exact ⟨g, cap, cur, rfl, hg, (hb g (by simp [Value.ownBlock])).trans hh, r⟩
theorem OwnT.lt {α : Type} {w : World} {n0 : Nat} {t : TypeId} {n : Nat} {f : α → List Value} {l : List α} {v : Value} {bs : List Nat} (h : OwnT w n0 t n f l v bs) : ∀ k ∈ bs, n0 ≤ k ∧ k < w.heap.size := by
  obtain ⟨rfl, h1, ⟨rfl, _⟩ | ⟨g, cap, cur, rfl, hg, hh, r⟩⟩ := h
  · intro k hk; simp [Value.ownBlock] at hk
  · intro k hk
    simp [Value.ownBlock] at hk
    subst hk
    exact ⟨hg, (Array.getElem?_eq_some_iff.1 hh).1⟩
theorem own_empty {w : World} {b base : Nat} {e : TypeId} {size : Nat} (h : Blk w b #[] e) (hb : base ≤ b) : w.ownsRow base e size (.slice (some ⟨b, 0, none⟩) 0 0) 0 [] := ⟨by simp, .inr ⟨b, 0, #[], rfl, hb, h, Nat.le_refl _, by unfold maxLen; omega, by simp, by simp⟩⟩
/-- What with's region does. -/
def withT (n : Nat) (mvv sv : Value) (C : Array Value) (ss : List (Int × Int × Int × Int)) (s : Int × Int × Int × Int) (sa : Option Addr) (sc : Nat) (c0 c1 c2 : Value) (w0 : World) : Ord.Tk where
  n0 := n
  F vals := #[mvv, sv, .pointer (some ⟨n, 0, none⟩), .pointer (some ⟨n + 1, 0, none⟩), .pointer (some ⟨n + 2, 0, none⟩), vals 0, vals 1, vals 2, vals 3, vals 4, vals 5, vals 6, vals 7, undef]
  ds := []
  H W := Below n w0 W ∧ Blk W (n + 1) #[.int .i64 s.1, .int .i64 s.2.1, .int .i64 s.2.2.1, .int .i64 s.2.2.2] 64 ∧ Blk W (n + 2) C 27
  rd i := match i with
    | 1 => some (.pointer (some ⟨n, 3, none⟩))
    | 2 => some (.slice sa ss.length sc)
    | 4 => some (.agg #[.int .i64 s.1, .int .i64 s.2.1, .int .i64 s.2.2.1, .int .i64 s.2.2.2])
    | 7 => some (.pointer (some ⟨n, 3, none⟩))
    | _ => none
  use i := match i with
    | 2 => [9]
    | 3 => [0]
    | 6 => [3, 5]
    | 8 => [6, 9]
    | _ => []
  take i := match i with
    | 3 => [0]
    | 6 => [3, 5]
    | 8 => [6, 9]
    | _ => []
  T i v bs w := match i with
    | 0 => ∃ b, bs = [b] ∧ n + 3 ≤ b ∧ v = .slice (some ⟨b, 0, none⟩) 0 0 ∧ Blk w b #[] 64
    | 3 => OwnT w (n + 3) 64 4 i4c ss v bs
    | 5 => ∃ b, bs = [b] ∧ n + 3 ≤ b ∧ v = .slice (some ⟨b, 0, none⟩) 1 1 ∧ Blk w b #[.int .i64 s.1, .int .i64 s.2.1, .int .i64 s.2.2.1, .int .i64 s.2.2.2] 64
    | 6 => OwnT w (n + 3) 64 4 i4c (ss ++ [s]) v bs
    | 8 => ∃ u bu, bs = n :: bu ∧ Blk w n #[c0, c1, c2, u] 27 ∧ OwnT w (n + 3) 64 4 i4c (ss ++ [s]) u bu
    | 9 => bs = [n] ∧ Blk w n #[c0, c1, c2, .slice sa ss.length sc] 27
    | _ => bs = []
  init := [9]
theorem withT_stay {n : Nat} {mvv sv : Value} {C : Array Value} {ss : List (Int × Int × Int × Int)} {s : Int × Int × Int × Int} {sa : Option Addr} {sc : Nat} {c0 c1 c2 : Value} {w0 : World} (i : Nat) (v : Value) (bs : List Nat) (w w' : World) (h : ∀ k ∈ bs, w'.heap[k]? = w.heap[k]?) (hT : (withT n mvv sv C ss s sa sc c0 c1 c2 w0).T i v bs w) : (withT n mvv sv C ss s sa sc c0 c1 c2 w0).T i v bs w' := by
  have key : ∀ {b : Nat} {A : Array Value} {t : TypeId}, Blk w b A t → b ∈ bs → Blk w' b A t := fun hb hm => (h _ hm).trans hb
  match i, hT with
  | 0, ⟨b, e, h1, h2, h3⟩ => exact ⟨b, e, h1, h2, key h3 (by simp [e])⟩
  | 1, hT => exact hT
  | 2, hT => exact hT
  | 3, hT => exact OwnT.stay hT h
  | 4, hT => exact hT
  | 5, ⟨b, e, h1, h2, h3⟩ => exact ⟨b, e, h1, h2, key h3 (by simp [e])⟩
  | 6, hT => exact OwnT.stay hT h
  | 7, hT => exact hT
  | 8, ⟨u, bu, e, h1, h2⟩ => exact ⟨u, bu, e, key h1 (by simp [e]), h2.stay fun k hk => h k (by simp [e, hk])⟩
  | 9, ⟨e, h1⟩ => exact ⟨e, key h1 (by simp [e])⟩
  | n + 10, hT => exact hT
theorem hR_read {t : Ord.Tk} {i : Nat} {vals : Nat → Value} {bs : Nat → List Nat} {w : World} {R : Act → World → Prop} (hR : ∀ a' w', t.Step i vals bs w a' w' → R a' w') {v : Value} {a' : Act} (ha : a' = ⟨t.F (Ord.setV vals i v), t.ds⟩) (hH : t.H w) (hu : ∀ u, t.rd i = some u → v = u) (hT : t.T i v [] w) (hk : ∀ j, t.lk i = some j → v = vals j := by intro _ h; cases h) : R a' w :=
  hR _ _ ⟨v, [], ha, hH, hu, hT, fun k hk => absurd hk (by simp), Nat.le_refl _, fun _ _ _ => rfl, hk⟩
theorem hR_alloc {t : Ord.Tk} {i : Nat} {vals : Nat → Value} {bs : Nat → List Nat} {w : World} {R : Act → World → Prop} (hR : ∀ a' w', t.Step i vals bs w a' w' → R a' w') {v : Value} {a' : Act} {o : Obj} (ha : a' = ⟨t.F (Ord.setV vals i v), t.ds⟩) (hH : t.H (w.alloc o)) (hu : ∀ u, t.rd i = some u → v = u) (hT : t.T i v [w.heap.size] (w.alloc o)) (hn : t.n0 ≤ w.heap.size) (hk : ∀ j, t.lk i = some j → v = vals j := by intro _ h; cases h) : R a' (w.alloc o) :=
  hR _ _ ⟨v, [w.heap.size], ha, hH, hu, hT, fun k hk => by simp at hk; subst hk; exact ⟨hn, by simp, .inl (Nat.le_refl _)⟩, by simp, fun k hk _ => Below.heap_alloc w o k hk, hk⟩
theorem hR_append {t : Ord.Tk} {i : Nat} {vals : Nat → Value} {bs : Nat → List Nat} {w w' : World} {R : Act → World → Prop} (hR : ∀ a' w', t.Step i vals bs w a' w' → R a' w') {v v' : Value} {a' : Act} {n1 : Nat} {e : TypeId} {n L : Nat} {xs : List Value} (ha : a' = ⟨t.F (Ord.setV vals i v'), t.ds⟩) (hH : t.H w') (hu : ∀ u, t.rd i = some u → v' = u) (hT : t.T i v' v'.ownBlock.toList w')
    (hown : w'.ownsRow n1 e n v' L xs) (hg : w.grownBy w' v.ownBlock) (hw : ∀ k, v'.ownBlock = some k → v.ownBlock = some k ∨ w.heap.size ≤ k) (hv : ∀ k, v.ownBlock = some k → ∃ j ∈ t.take i, k ∈ bs j) (hn : t.n0 ≤ n1) (hk : ∀ j, t.lk i = some j → v' = vals j := by intro _ h; cases h) : R a' w' := by
  refine hR _ _ ⟨v', v'.ownBlock.toList, ha, hH, hu, hT, fun k hk => ?_, hg.size, fun k hk hkT => hg.block k hk (fun e => by obtain ⟨j, hj, hb⟩ := hv k e.symm; exact hkT j hj hb), hk⟩
  have hk' : v'.ownBlock = some k := by simpa using hk
  have h1 := hown.lt k hk'
  refine ⟨by omega, h1.2, ?_⟩
  rcases hw k hk' with h2 | h2
  · exact .inr (hv k h2)
  · exact .inl h2
def WithPost (m : Mb) (A : Ma) (s : Int × Int × Int × Int) (w : World) (e : Ending) (w' : World) : Prop := ∃ g c, e = .returned (mv (withM m s) ⟨A.pa, A.pc, A.la, A.lc, A.ha, A.hc, some ⟨g, 0, none⟩, c⟩) ∧ OwnT w' w.heap.size 64 4 i4c (m.seen ++ [s]) (.slice (some ⟨g, 0, none⟩) (m.seen ++ [s]).length c) [g] ∧ Below w.heap.size w w'
set_option maxHeartbeats 4000000 in
set_option maxRecDepth 100000 in
theorem l_with2 (m : Mb) (A : Ma) (s : Int × Int × Int × Int) (w : World) (hm : MbAt w m A) (hl : m.seen.length ≤ 40) : Calls Try.prog 33 #[mv m A, .agg #[.int .i64 s.1, .int .i64 s.2.1, .int .i64 s.2.2.1, .int .i64 s.2.2.2]] w (WithPost m A s w) := by
  obtain ⟨i0, hi0, hz0, hz1, hz2⟩ := info_parts Try.info64
  have hse := hm.seen
  obtain ⟨n, hn⟩ : ∃ n, w.heap.size = n := ⟨_, rfl⟩
  obtain ⟨s1, s2, s3, s4⟩ := s
  go_enter Try.func33, Try.ntmps33
  go_wp2_with fail
  obtain ⟨W3, hW3⟩ : ∃ W3, ((w.alloc (.cells (mcells m A) 27)).alloc (.cells #[.int .i64 s1, .int .i64 s2, .int .i64 s3, .int .i64 s4] 64)).alloc (.cells #[.slice none 0 0, .slice none 0 0, .slice none 0 0, .slice none 0 0] 27) = W3 := ⟨_, rfl⟩
  have hB3 : Below n w W3 := by rw [← hW3]; subst hn; (repeat (first | assumption | exact Below.refl _ _ | refine Below.drew ?_ | refine Below.alloc ?_ (by first | omega | (simp; done) | (simp; omega)) _ | refine Below.setCell ?_ (by first | omega | (simp; done) | (simp; omega)) _ | refine Below.trans ?_ (Below.mono (by assumption) (by first | omega | (simp; done) | (simp; omega)))))
  have b0 : Blk W3 n (mcells m A) 27 := by rw [← hW3]; exact ((Blk.new' _ _ _ _ hn).alloc _).alloc _
  have b1 : Blk W3 (n + 1) #[.int .i64 s1, .int .i64 s2, .int .i64 s3, .int .i64 s4] 64 := by rw [← hW3]; exact (Blk.new' _ _ _ _ (by simp [hn])).alloc _
  have b2 : Blk W3 (n + 2) #[.slice none 0 0, .slice none 0 0, .slice none 0 0, .slice none 0 0] 27 := by rw [← hW3]; exact Blk.new' _ _ _ _ (by simp [hn])
  rw [hW3]
  clear hW3
  go_cut [] from 5 to 13 (fun wx => Below n W3 wx ∧ Blk wx (n + 2) #[.slice none 0 0, .slice none 0 0, .slice none 0 0, .slice none 0 0] 27 ∧ ∃ u bu, Blk wx n #[.slice A.pa m.places.length A.pc, .slice A.la m.legs.length A.lc, .slice A.ha m.herds.length A.hc, u] 27 ∧ OwnT wx (n + 3) 64 4 i4c (m.seen ++ [(s1, s2, s3, s4)]) u bu)
  case first =>
    refine Ord.wp_regionW (withT n (mv m A) (.agg #[.int .i64 s1, .int .i64 s2, .int .i64 s3, .int .i64 s4]) #[.slice none 0 0, .slice none 0 0, .slice none 0 0, .slice none 0 0] m.seen (s1, s2, s3, s4) A.sa A.sc (.slice A.pa m.places.length A.pc) (.slice A.la m.legs.length A.lc) (.slice A.ha m.herds.length A.hc) W3) (by kernel_rfl) (by kernel_rfl) (by kernel_rfl) (by kernel_rfl) ?_ withT_stay (fun _ => undef) (fun _ => [n]) rfl ⟨(Below.refl _ _).drew, b1.drew, b2.drew⟩ ?_ ?_ ?_ ?_
    · intro j hj; simp [withT] at hj; subst hj; simp
    · intro j hj
      simp [withT] at hj
      subst hj
      exact ⟨⟨rfl, b0.drew⟩, fun k hk => by simp at hk; subst hk; exact ⟨Nat.le_refl _, b0.lt⟩⟩
    · intro i hi j hj hne
      simp [withT] at hi hj
      omega
    · intro j hj vals bs W hH hrd htok hdis R hRR
      have HRR := Lib.hid hRR
      clear hRR
      have hH0 := hH
      obtain ⟨hB, k1, k2⟩ := hH
      have l2 := k2.lt
      have r1 := k1.cell
      rcases (show j = 0 ∨ j = 1 ∨ j = 2 ∨ j = 3 ∨ j = 4 ∨ j = 5 ∨ j = 6 ∨ j = 7 ∨ j = 8 by simp at hj; omega) with rfl | rfl | rfl | rfl | rfl | rfl | rfl | rfl | rfl
      all_goals dsimp only [withT]
      · go_wp2_with (first | (with_reducible refine Ord.at_qn ?_) | ((with_reducible refine Ord.at_calm ?_); refine Ord.calm_skip rfl ?_ (fun K hK => ?_); (focus (simp [Region.wanted, yielded]; done))) | with_reducible refine Ord.walk_calm rfl rfl (fun K hK => ?_) | ((with_reducible refine Ord.at_wild ?_); refine Ord.wild_fieldAddr rfl rfl (fun W => by simp [go_sem]; rfl) (fun K hK => ?_)) | ((with_reducible refine Ord.at_wild ?_); refine Ord.wild_move rfl rfl (fun K hK => ?_)) | ((with_reducible refine Ord.at_wild ?_); refine Ord.wild_nilCheck rfl rfl (fun K hK => ?_)) | with_reducible refine Ord.walk_eff rfl (by first | (simp; done) | assumption | (go_simp; done) | (repeat (first | assumption | exact Below.refl _ _ | refine Below.drew ?_ | refine Below.alloc ?_ (by first | omega | (simp; done) | (simp; omega)) _ | refine Below.setCell ?_ (by first | omega | (simp; done) | (simp; omega)) _ | refine Below.trans ?_ (Below.mono (by assumption) (by first | omega | (simp; done) | (simp; omega)))))) (fun K hK => ?_) | with_reducible refine Ord.at_fork ?_ ?_ | with_reducible refine Ord.walk_nil ?_ | (with_reducible refine Ord.next_of (by first | (simp; done) | (go_simp; done) | (repeat (first | assumption | exact Below.refl _ _ | refine Below.drew ?_ | refine Below.alloc ?_ (by first | omega | (simp; done) | (simp; omega)) _ | refine Below.setCell ?_ (by first | omega | (simp; done) | (simp; omega)) _ | refine Below.trans ?_ (Below.mono (by assumption) (by first | omega | (simp; done) | (simp; omega)))))) (fun _ => ?_)))
        exact hR_alloc HRR.out rfl ⟨hB.alloc (by omega) _, k1.alloc _, k2.alloc _⟩ (by simp [withT]) ⟨_, rfl, by omega, rfl, Blk.new _ _ _⟩ (by show n ≤ _; omega)
      · go_wp2_with (first | (with_reducible refine Ord.at_qn ?_) | ((with_reducible refine Ord.at_calm ?_); refine Ord.calm_skip rfl ?_ (fun K hK => ?_); (focus (simp [Region.wanted, yielded]; done))) | with_reducible refine Ord.walk_calm rfl rfl (fun K hK => ?_) | ((with_reducible refine Ord.at_wild ?_); refine Ord.wild_fieldAddr rfl rfl (fun W => by simp [go_sem]; rfl) (fun K hK => ?_)) | ((with_reducible refine Ord.at_wild ?_); refine Ord.wild_move rfl rfl (fun K hK => ?_)) | ((with_reducible refine Ord.at_wild ?_); refine Ord.wild_nilCheck rfl rfl (fun K hK => ?_)) | with_reducible refine Ord.walk_eff rfl (by first | (simp; done) | assumption | (go_simp; done) | (repeat (first | assumption | exact Below.refl _ _ | refine Below.drew ?_ | refine Below.alloc ?_ (by first | omega | (simp; done) | (simp; omega)) _ | refine Below.setCell ?_ (by first | omega | (simp; done) | (simp; omega)) _ | refine Below.trans ?_ (Below.mono (by assumption) (by first | omega | (simp; done) | (simp; omega)))))) (fun K hK => ?_) | with_reducible refine Ord.at_fork ?_ ?_ | with_reducible refine Ord.walk_nil ?_ | (with_reducible refine Ord.next_of (by first | (simp; done) | (go_simp; done) | (repeat (first | assumption | exact Below.refl _ _ | refine Below.drew ?_ | refine Below.alloc ?_ (by first | omega | (simp; done) | (simp; omega)) _ | refine Below.setCell ?_ (by first | omega | (simp; done) | (simp; omega)) _ | refine Below.trans ?_ (Below.mono (by assumption) (by first | omega | (simp; done) | (simp; omega)))))) (fun _ => ?_)))
        exact hR_read HRR.out rfl hH0 (by simp [withT]) rfl
      · obtain ⟨⟨e, b9⟩, _⟩ := htok 9 (by simp [withT])
        have r9 := b9.cell
        have e1 := hrd 1 (by simp) (by kernel_rfl) _ rfl
        rw [e1]
        go_wp2_with (first | (with_reducible refine Ord.at_qn ?_) | ((with_reducible refine Ord.at_calm ?_); refine Ord.calm_skip rfl ?_ (fun K hK => ?_); (focus (simp [Region.wanted, yielded]; done))) | with_reducible refine Ord.walk_calm rfl rfl (fun K hK => ?_) | ((with_reducible refine Ord.at_wild ?_); refine Ord.wild_fieldAddr rfl rfl (fun W => by simp [go_sem]; rfl) (fun K hK => ?_)) | ((with_reducible refine Ord.at_wild ?_); refine Ord.wild_move rfl rfl (fun K hK => ?_)) | ((with_reducible refine Ord.at_wild ?_); refine Ord.wild_nilCheck rfl rfl (fun K hK => ?_)) | with_reducible refine Ord.walk_eff rfl (by first | (simp; done) | assumption | (go_simp; done) | (repeat (first | assumption | exact Below.refl _ _ | refine Below.drew ?_ | refine Below.alloc ?_ (by first | omega | (simp; done) | (simp; omega)) _ | refine Below.setCell ?_ (by first | omega | (simp; done) | (simp; omega)) _ | refine Below.trans ?_ (Below.mono (by assumption) (by first | omega | (simp; done) | (simp; omega)))))) (fun K hK => ?_) | with_reducible refine Ord.at_fork ?_ ?_ | with_reducible refine Ord.walk_nil ?_ | (with_reducible refine Ord.next_of (by first | (simp; done) | (go_simp; done) | (repeat (first | assumption | exact Below.refl _ _ | refine Below.drew ?_ | refine Below.alloc ?_ (by first | omega | (simp; done) | (simp; omega)) _ | refine Below.setCell ?_ (by first | omega | (simp; done) | (simp; omega)) _ | refine Below.trans ?_ (Below.mono (by assumption) (by first | omega | (simp; done) | (simp; omega)))))) (fun _ => ?_)))
        exact hR_read HRR.out (v := .slice A.sa m.seen.length A.sc) (by simp [withT, Ord.setV, e1]) hH0 (by simp [withT]) rfl
      · obtain ⟨⟨b, eb, hb3, ev, bb⟩, _⟩ := htok 0 (by simp [withT])
        have e2 := hrd 2 (by simp) (by kernel_rfl) _ rfl
        rw [ev, e2]
        go_wp2_with (first | (at_builtin; refine at_stop ?_) | (with_reducible refine Ord.at_qn ?_) | ((with_reducible refine Ord.at_calm ?_); refine Ord.calm_skip rfl ?_ (fun K hK => ?_); (focus (simp [Region.wanted, yielded]; done))) | with_reducible refine Ord.walk_calm rfl rfl (fun K hK => ?_) | ((with_reducible refine Ord.at_wild ?_); refine Ord.wild_fieldAddr rfl rfl (fun W => by simp [go_sem]; rfl) (fun K hK => ?_)) | ((with_reducible refine Ord.at_wild ?_); refine Ord.wild_move rfl rfl (fun K hK => ?_)) | ((with_reducible refine Ord.at_wild ?_); refine Ord.wild_nilCheck rfl rfl (fun K hK => ?_)) | with_reducible refine Ord.walk_eff rfl (by first | (simp; done) | assumption | (go_simp; done) | (repeat (first | assumption | exact Below.refl _ _ | refine Below.drew ?_ | refine Below.alloc ?_ (by first | omega | (simp; done) | (simp; omega)) _ | refine Below.setCell ?_ (by first | omega | (simp; done) | (simp; omega)) _ | refine Below.trans ?_ (Below.mono (by assumption) (by first | omega | (simp; done) | (simp; omega)))))) (fun K hK => ?_) | with_reducible refine Ord.at_fork ?_ ?_ | with_reducible refine Ord.walk_nil ?_ | (with_reducible refine Ord.next_of (by first | (simp; done) | (go_simp; done) | (repeat (first | assumption | exact Below.refl _ _ | refine Below.drew ?_ | refine Below.alloc ?_ (by first | omega | (simp; done) | (simp; omega)) _ | refine Below.setCell ?_ (by first | omega | (simp; done) | (simp; omega)) _ | refine Below.trans ?_ (Below.mono (by assumption) (by first | omega | (simp; done) | (simp; omega)))))) (fun _ => ?_)))
        unfold Stop
        refine wpList_appendW rfl (.tmp 5) (.tmp 7) 25 rfl (n + 3) 64 i0 (.agg #[.int .i64 0, .int .i64 0, .int .i64 0, .int .i64 0]) 4 32 Try.underlying25 hi0 hz0 hz1 hz2 rfl (by decide) (.slice (some ⟨b, 0, none⟩) 0 0) 0 [] rfl (own_empty bb hb3) (.slice A.sa m.seen.length A.sc) m.seen.length (m.seen.flatMap i4c) rfl ((hse.below (by rw [hn]; exact hB3.trans hB)).src i4c_len (by decide) _) (fun u hu => by obtain ⟨y, _, hu⟩ := List.mem_flatMap.1 hu; exact i4c_one y u hu) (by unfold maxLen; omega) (by omega) (by omega) ?_
        intro v' w' hown hg hwh
        simp only [Nat.zero_add, List.nil_append] at hown
        go_wp2_with (first | (with_reducible refine Ord.at_qn ?_) | ((with_reducible refine Ord.at_calm ?_); refine Ord.calm_skip rfl ?_ (fun K hK => ?_); (focus (simp [Region.wanted, yielded]; done))) | with_reducible refine Ord.walk_calm rfl rfl (fun K hK => ?_) | ((with_reducible refine Ord.at_wild ?_); refine Ord.wild_fieldAddr rfl rfl (fun W => by simp [go_sem]; rfl) (fun K hK => ?_)) | ((with_reducible refine Ord.at_wild ?_); refine Ord.wild_move rfl rfl (fun K hK => ?_)) | ((with_reducible refine Ord.at_wild ?_); refine Ord.wild_nilCheck rfl rfl (fun K hK => ?_)) | with_reducible refine Ord.walk_eff rfl (by first | (simp; done) | assumption | (go_simp; done) | (repeat (first | assumption | exact Below.refl _ _ | refine Below.drew ?_ | refine Below.alloc ?_ (by first | omega | (simp; done) | (simp; omega)) _ | refine Below.setCell ?_ (by first | omega | (simp; done) | (simp; omega)) _ | refine Below.trans ?_ (Below.mono (by assumption) (by first | omega | (simp; done) | (simp; omega)))))) (fun K hK => ?_) | with_reducible refine Ord.at_fork ?_ ?_ | with_reducible refine Ord.walk_nil ?_ | (with_reducible refine Ord.next_of (by first | (simp; done) | (go_simp; done) | (repeat (first | assumption | exact Below.refl _ _ | refine Below.drew ?_ | refine Below.alloc ?_ (by first | omega | (simp; done) | (simp; omega)) _ | refine Below.setCell ?_ (by first | omega | (simp; done) | (simp; omega)) _ | refine Below.trans ?_ (Below.mono (by assumption) (by first | omega | (simp; done) | (simp; omega)))))) (fun _ => ?_)))
        exact hR_append HRR.out (v' := v') (by simp [withT, Ord.setV, ev, e2, Act.put]) ⟨hB.grown hg (by omega) (fun g e => by simp [Value.ownBlock] at e; omega), (hg.block _ k1.lt (by simp [Value.ownBlock]; omega)).trans k1, (hg.block _ k2.lt (by simp [Value.ownBlock]; omega)).trans k2⟩ (by simp [withT]) ⟨rfl, hown⟩ hown hg hwh (fun k hk => ⟨0, by simp [withT], by simp [Value.ownBlock] at hk; subst hk; rw [eb]; simp⟩) (by show n ≤ n + 3; omega)
      · go_wp2_with (first | (with_reducible refine Ord.at_qn ?_) | ((with_reducible refine Ord.at_calm ?_); refine Ord.calm_skip rfl ?_ (fun K hK => ?_); (focus (simp [Region.wanted, yielded]; done))) | with_reducible refine Ord.walk_calm rfl rfl (fun K hK => ?_) | ((with_reducible refine Ord.at_wild ?_); refine Ord.wild_fieldAddr rfl rfl (fun W => by simp [go_sem]; rfl) (fun K hK => ?_)) | ((with_reducible refine Ord.at_wild ?_); refine Ord.wild_move rfl rfl (fun K hK => ?_)) | ((with_reducible refine Ord.at_wild ?_); refine Ord.wild_nilCheck rfl rfl (fun K hK => ?_)) | with_reducible refine Ord.walk_eff rfl (by first | (simp; done) | assumption | (go_simp; done) | (repeat (first | assumption | exact Below.refl _ _ | refine Below.drew ?_ | refine Below.alloc ?_ (by first | omega | (simp; done) | (simp; omega)) _ | refine Below.setCell ?_ (by first | omega | (simp; done) | (simp; omega)) _ | refine Below.trans ?_ (Below.mono (by assumption) (by first | omega | (simp; done) | (simp; omega)))))) (fun K hK => ?_) | with_reducible refine Ord.at_fork ?_ ?_ | with_reducible refine Ord.walk_nil ?_ | (with_reducible refine Ord.next_of (by first | (simp; done) | (go_simp; done) | (repeat (first | assumption | exact Below.refl _ _ | refine Below.drew ?_ | refine Below.alloc ?_ (by first | omega | (simp; done) | (simp; omega)) _ | refine Below.setCell ?_ (by first | omega | (simp; done) | (simp; omega)) _ | refine Below.trans ?_ (Below.mono (by assumption) (by first | omega | (simp; done) | (simp; omega)))))) (fun _ => ?_)))
        exact hR_read HRR.out (v := .agg #[.int .i64 s1, .int .i64 s2, .int .i64 s3, .int .i64 s4]) (by simp [withT, Ord.setV]) hH0 (by simp [withT]) rfl
      · have e4 := hrd 4 (by simp) (by kernel_rfl) _ rfl
        rw [e4]
        go_wp2_with (first | (with_reducible refine Ord.at_qn ?_) | ((with_reducible refine Ord.at_calm ?_); refine Ord.calm_skip rfl ?_ (fun K hK => ?_); (focus (simp [Region.wanted, yielded]; done))) | with_reducible refine Ord.walk_calm rfl rfl (fun K hK => ?_) | ((with_reducible refine Ord.at_wild ?_); refine Ord.wild_fieldAddr rfl rfl (fun W => by simp [go_sem]; rfl) (fun K hK => ?_)) | ((with_reducible refine Ord.at_wild ?_); refine Ord.wild_move rfl rfl (fun K hK => ?_)) | ((with_reducible refine Ord.at_wild ?_); refine Ord.wild_nilCheck rfl rfl (fun K hK => ?_)) | with_reducible refine Ord.walk_eff rfl (by first | (simp; done) | assumption | (go_simp; done) | (repeat (first | assumption | exact Below.refl _ _ | refine Below.drew ?_ | refine Below.alloc ?_ (by first | omega | (simp; done) | (simp; omega)) _ | refine Below.setCell ?_ (by first | omega | (simp; done) | (simp; omega)) _ | refine Below.trans ?_ (Below.mono (by assumption) (by first | omega | (simp; done) | (simp; omega)))))) (fun K hK => ?_) | with_reducible refine Ord.at_fork ?_ ?_ | with_reducible refine Ord.walk_nil ?_ | (with_reducible refine Ord.next_of (by first | (simp; done) | (go_simp; done) | (repeat (first | assumption | exact Below.refl _ _ | refine Below.drew ?_ | refine Below.alloc ?_ (by first | omega | (simp; done) | (simp; omega)) _ | refine Below.setCell ?_ (by first | omega | (simp; done) | (simp; omega)) _ | refine Below.trans ?_ (Below.mono (by assumption) (by first | omega | (simp; done) | (simp; omega)))))) (fun _ => ?_)))
        exact hR_alloc HRR.out (v := .slice (some ⟨W.heap.size, 0, none⟩) 1 1) (by simp [withT, Ord.setV, e4]) ⟨hB.alloc (by omega) _, k1.alloc _, k2.alloc _⟩ (by simp [withT]) ⟨_, rfl, by omega, rfl, Blk.new _ _ _⟩ (by show n ≤ _; omega)
      · have ht3 : OwnT W (n + 3) 64 4 i4c m.seen (vals 3) (bs 3) := (htok 3 (by simp [withT])).1
        obtain ⟨⟨b, eb, hb3, ev, bb⟩, _⟩ := htok 5 (by simp [withT])
        rw [ev]
        go_wp2_with (first | (at_builtin; refine at_stop ?_) | (with_reducible refine Ord.at_qn ?_) | ((with_reducible refine Ord.at_calm ?_); refine Ord.calm_skip rfl ?_ (fun K hK => ?_); (focus (simp [Region.wanted, yielded]; done))) | with_reducible refine Ord.walk_calm rfl rfl (fun K hK => ?_) | ((with_reducible refine Ord.at_wild ?_); refine Ord.wild_fieldAddr rfl rfl (fun W => by simp [go_sem]; rfl) (fun K hK => ?_)) | ((with_reducible refine Ord.at_wild ?_); refine Ord.wild_move rfl rfl (fun K hK => ?_)) | ((with_reducible refine Ord.at_wild ?_); refine Ord.wild_nilCheck rfl rfl (fun K hK => ?_)) | with_reducible refine Ord.walk_eff rfl (by first | (simp; done) | assumption | (go_simp; done) | (repeat (first | assumption | exact Below.refl _ _ | refine Below.drew ?_ | refine Below.alloc ?_ (by first | omega | (simp; done) | (simp; omega)) _ | refine Below.setCell ?_ (by first | omega | (simp; done) | (simp; omega)) _ | refine Below.trans ?_ (Below.mono (by assumption) (by first | omega | (simp; done) | (simp; omega)))))) (fun K hK => ?_) | with_reducible refine Ord.at_fork ?_ ?_ | with_reducible refine Ord.walk_nil ?_ | (with_reducible refine Ord.next_of (by first | (simp; done) | (go_simp; done) | (repeat (first | assumption | exact Below.refl _ _ | refine Below.drew ?_ | refine Below.alloc ?_ (by first | omega | (simp; done) | (simp; omega)) _ | refine Below.setCell ?_ (by first | omega | (simp; done) | (simp; omega)) _ | refine Below.trans ?_ (Below.mono (by assumption) (by first | omega | (simp; done) | (simp; omega)))))) (fun _ => ?_)))
        unfold Stop
        refine wpList_appendW rfl (.tmp 8) (.tmp 10) 25 rfl (n + 3) 64 i0 (.agg #[.int .i64 0, .int .i64 0, .int .i64 0, .int .i64 0]) 4 32 Try.underlying25 hi0 hz0 hz1 hz2 rfl (by decide) (vals 3) m.seen.length (m.seen.flatMap i4c) rfl ht3.2 (.slice (some ⟨b, 0, none⟩) 1 1) 1 (i4c (s1, s2, s3, s4)) rfl ⟨rfl, .inr ⟨_, _, rfl, news_blk bb⟩⟩ (i4c_one _) (by unfold maxLen; omega) (by omega) (by omega) ?_
        intro v' w' hown hg hwh
        have hn3 : ∀ g, (vals 3).ownBlock = some g → g ∈ bs 3 := fun g e => by rw [ht3.1, e]; simp
        have hge : ∀ g, (vals 3).ownBlock = some g → n + 3 ≤ g := fun g e => (ht3.2.lt g e).1
        go_wp2_with (first | (with_reducible refine Ord.at_qn ?_) | ((with_reducible refine Ord.at_calm ?_); refine Ord.calm_skip rfl ?_ (fun K hK => ?_); (focus (simp [Region.wanted, yielded]; done))) | with_reducible refine Ord.walk_calm rfl rfl (fun K hK => ?_) | ((with_reducible refine Ord.at_wild ?_); refine Ord.wild_fieldAddr rfl rfl (fun W => by simp [go_sem]; rfl) (fun K hK => ?_)) | ((with_reducible refine Ord.at_wild ?_); refine Ord.wild_move rfl rfl (fun K hK => ?_)) | ((with_reducible refine Ord.at_wild ?_); refine Ord.wild_nilCheck rfl rfl (fun K hK => ?_)) | with_reducible refine Ord.walk_eff rfl (by first | (simp; done) | assumption | (go_simp; done) | (repeat (first | assumption | exact Below.refl _ _ | refine Below.drew ?_ | refine Below.alloc ?_ (by first | omega | (simp; done) | (simp; omega)) _ | refine Below.setCell ?_ (by first | omega | (simp; done) | (simp; omega)) _ | refine Below.trans ?_ (Below.mono (by assumption) (by first | omega | (simp; done) | (simp; omega)))))) (fun K hK => ?_) | with_reducible refine Ord.at_fork ?_ ?_ | with_reducible refine Ord.walk_nil ?_ | (with_reducible refine Ord.next_of (by first | (simp; done) | (go_simp; done) | (repeat (first | assumption | exact Below.refl _ _ | refine Below.drew ?_ | refine Below.alloc ?_ (by first | omega | (simp; done) | (simp; omega)) _ | refine Below.setCell ?_ (by first | omega | (simp; done) | (simp; omega)) _ | refine Below.trans ?_ (Below.mono (by assumption) (by first | omega | (simp; done) | (simp; omega)))))) (fun _ => ?_)))
        have hown' : w'.ownsRow (n + 3) 64 4 v' (m.seen ++ [(s1, s2, s3, s4)]).length ((m.seen ++ [(s1, s2, s3, s4)]).flatMap i4c) := by simpa using hown
        exact hR_append HRR.out (v' := v') (by simp [withT, Ord.setV, ev, Act.put]) ⟨hB.grown hg (by omega) (fun g e => by have := hge g e; omega), (hg.block _ k1.lt (fun e => by have := hge _ e.symm; omega)).trans k1, (hg.block _ k2.lt (fun e => by have := hge _ e.symm; omega)).trans k2⟩ (by simp [withT]) ⟨rfl, hown'⟩ hown' hg hwh (fun k hk => ⟨3, by simp [withT], hn3 k hk⟩) (by show n ≤ n + 3; omega)
      · go_wp2_with (first | (with_reducible refine Ord.at_qn ?_) | ((with_reducible refine Ord.at_calm ?_); refine Ord.calm_skip rfl ?_ (fun K hK => ?_); (focus (simp [Region.wanted, yielded]; done))) | with_reducible refine Ord.walk_calm rfl rfl (fun K hK => ?_) | ((with_reducible refine Ord.at_wild ?_); refine Ord.wild_fieldAddr rfl rfl (fun W => by simp [go_sem]; rfl) (fun K hK => ?_)) | ((with_reducible refine Ord.at_wild ?_); refine Ord.wild_move rfl rfl (fun K hK => ?_)) | ((with_reducible refine Ord.at_wild ?_); refine Ord.wild_nilCheck rfl rfl (fun K hK => ?_)) | with_reducible refine Ord.walk_eff rfl (by first | (simp; done) | assumption | (go_simp; done) | (repeat (first | assumption | exact Below.refl _ _ | refine Below.drew ?_ | refine Below.alloc ?_ (by first | omega | (simp; done) | (simp; omega)) _ | refine Below.setCell ?_ (by first | omega | (simp; done) | (simp; omega)) _ | refine Below.trans ?_ (Below.mono (by assumption) (by first | omega | (simp; done) | (simp; omega)))))) (fun K hK => ?_) | with_reducible refine Ord.at_fork ?_ ?_ | with_reducible refine Ord.walk_nil ?_ | (with_reducible refine Ord.next_of (by first | (simp; done) | (go_simp; done) | (repeat (first | assumption | exact Below.refl _ _ | refine Below.drew ?_ | refine Below.alloc ?_ (by first | omega | (simp; done) | (simp; omega)) _ | refine Below.setCell ?_ (by first | omega | (simp; done) | (simp; omega)) _ | refine Below.trans ?_ (Below.mono (by assumption) (by first | omega | (simp; done) | (simp; omega)))))) (fun _ => ?_)))
        exact hR_read HRR.out rfl hH0 (by simp [withT]) rfl
      · have ht6 : OwnT W (n + 3) 64 4 i4c (m.seen ++ [(s1, s2, s3, s4)]) (vals 6) (bs 6) := (htok 6 (by simp [withT])).1
        obtain ⟨⟨e9, b9⟩, _⟩ := htok 9 (by simp [withT])
        have e7 := hrd 7 (by simp) (by kernel_rfl) _ rfl
        obtain ⟨g, q, ev⟩ := own_slice ht6.2 (by simp)
        have f9 := b9.free
        have l9 := b9.lt
        have r9 := b9.cell
        rw [e7, ev]
        go_wp2_with (first | (with_reducible refine Ord.at_qn ?_) | ((with_reducible refine Ord.at_calm ?_); refine Ord.calm_skip rfl ?_ (fun K hK => ?_); (focus (simp [Region.wanted, yielded]; done))) | with_reducible refine Ord.walk_calm rfl rfl (fun K hK => ?_) | ((with_reducible refine Ord.at_wild ?_); refine Ord.wild_fieldAddr rfl rfl (fun W => by simp [go_sem]; rfl) (fun K hK => ?_)) | ((with_reducible refine Ord.at_wild ?_); refine Ord.wild_move rfl rfl (fun K hK => ?_)) | ((with_reducible refine Ord.at_wild ?_); refine Ord.wild_nilCheck rfl rfl (fun K hK => ?_)) | with_reducible refine Ord.walk_eff rfl (by first | (simp; done) | assumption | (go_simp; done) | (repeat (first | assumption | exact Below.refl _ _ | refine Below.drew ?_ | refine Below.alloc ?_ (by first | omega | (simp; done) | (simp; omega)) _ | refine Below.setCell ?_ (by first | omega | (simp; done) | (simp; omega)) _ | refine Below.trans ?_ (Below.mono (by assumption) (by first | omega | (simp; done) | (simp; omega)))))) (fun K hK => ?_) | with_reducible refine Ord.at_fork ?_ ?_ | with_reducible refine Ord.walk_nil ?_ | (with_reducible refine Ord.next_of (by first | (simp; done) | (go_simp; done) | (repeat (first | assumption | exact Below.refl _ _ | refine Below.drew ?_ | refine Below.alloc ?_ (by first | omega | (simp; done) | (simp; omega)) _ | refine Below.setCell ?_ (by first | omega | (simp; done) | (simp; omega)) _ | refine Below.trans ?_ (Below.mono (by assumption) (by first | omega | (simp; done) | (simp; omega)))))) (fun _ => ?_)))
        have hgt : n + 3 ≤ g := by have := (ht6.2.lt g (by rw [ev]; rfl)).1; omega
        have hsc : ∀ k, k ≠ n → (W.setCell ⟨n, 3, none⟩ (.slice (some ⟨g, 0, none⟩) (m.seen ++ [(s1, s2, s3, s4)]).length q)).heap[k]? = W.heap[k]? := fun k hk => Below.heap_setCell W _ _ k hk
        have e1 : (m.seen.length : Int) + 1 = ((m.seen ++ [(s1, s2, s3, s4)]).length : Int) := by simp
        simp only [List.length_append, List.length_cons, List.length_nil] at hsc ev
        refine HRR.out _ _ ⟨undef, n :: (vals 6).ownBlock.toList, by simp [withT, Ord.setV, e7, ev], ⟨hB.setCell (by simp) _, k1.other (by simp) _, k2.other (by simp) _⟩, by simp [withT], ⟨vals 6, _, rfl, by rw [ev]; exact b9.set 3 _, OwnT.stay ⟨rfl, ht6.2⟩ fun k hk => hsc k (by rw [ev] at hk; simp [Value.ownBlock] at hk; omega)⟩, fun k hk => ?_, by simp, fun k hk hkT => hsc k fun e => hkT 9 (by simp [withT]) (by rw [e9]; simp [e]), fun _ h => by cases h⟩
        simp only [List.mem_cons] at hk
        rcases hk with rfl | hk
        · exact ⟨Nat.le_refl _, by simpa using l9, .inr ⟨9, by simp [withT], by rw [e9]; simp⟩⟩
        · rw [← ht6.1] at hk
          have := ht6.lt k hk
          exact ⟨by show n ≤ k; omega, by simpa using this.2, .inr ⟨6, by simp [withT], hk⟩⟩
    · intro vals bs W hH hrd htok hdis _
      obtain ⟨hB, k1, k2⟩ := hH
      obtain ⟨⟨u, bu, _, h1, h2⟩, _⟩ := htok 8 (.inr (by simp)) (fun c hc => by
        have hc' : c < 9 := by simpa using hc
        rcases (show c = 0 ∨ c = 1 ∨ c = 2 ∨ c = 3 ∨ c = 4 ∨ c = 5 ∨ c = 6 ∨ c = 7 ∨ c = 8 by omega) with rfl | rfl | rfl | rfl | rfl | rfl | rfl | rfl | rfl <;> simp [withT])
      dsimp only [withT]
      go_step
      go_step
      go_meet
      exact ⟨hB, k2, u, bu, h1, h2⟩
  case rest =>
    obtain ⟨hBx, b2x, u, bu, b0x, hou⟩ := hcut
    obtain ⟨g, c, rfl⟩ := own_slice hou.2 (by simp)
    have hgl := hou.2.lt g rfl
    go_wp2_with (first
      | (refine wpList_load_blk 27 (.tmp 2) agg_mob rfl rfl rfl b0x rfl ?_)
      | (refine wpList_store_blk 27 (.tmp 4) (.tmp 13) agg_mob rfl rfl rfl rfl b2x rfl rfl (by simp [Value.oneCell']) ?_; intro w7 h7; refine at_stop ?_))
    unfold Stop
    have hBf : Below n w w7 := h7.below (hB3.trans hBx) (by omega)
    have ho7 : OwnT w7 n 64 4 i4c (m.seen ++ [(s1, s2, s3, s4)]) (.slice (some ⟨g, 0, none⟩) (m.seen ++ [(s1, s2, s3, s4)]).length c) [g] := by
      have h8 := OwnT.stay (w' := w7) (⟨rfl, hou.2⟩ : OwnT wc (n + 3) 64 4 i4c (m.seen ++ [(s1, s2, s3, s4)]) (.slice (some ⟨g, 0, none⟩) (m.seen ++ [(s1, s2, s3, s4)]).length c) [g]) (fun k hk => by
        have hk' : k = g := by simpa using hk
        exact h7.heap k (by omega))
      obtain ⟨h8a, h8b, h8c⟩ := h8
      refine ⟨rfl, h8b, h8c.imp id ?_⟩
      rintro ⟨g', cap, cur, e, hg, hh⟩
      exact ⟨g', cap, cur, e, by omega, hh⟩
    go_wp2_with fail
    exact bodyPost_ret (v := mv (withM m (s1, s2, s3, s4)) ⟨A.pa, A.pc, A.la, A.lc, A.ha, A.hc, some ⟨g, 0, none⟩, c⟩) (results_cell_blk rfl _ agg_mob rfl h7.blk rfl) rfl ⟨g, c, rfl, by rw [hn]; exact ho7, by rw [hn]; exact hBf⟩
end Go.Proofs.Yteeinehpneppnaa
