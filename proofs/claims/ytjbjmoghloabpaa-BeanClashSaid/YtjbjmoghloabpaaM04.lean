/- Parts of a proof: BnRefE, BnRefF, BnRefG. -/
import Derived.Test.YtjbjmoghloabpaaM03
/- Contracts of shearworksref03: what is told. -/
set_option linter.unusedVariables false
set_option linter.unusedSimpArgs false
namespace Go.Proofs.Ytjbjmoghloabpaa
open Go.RowKit Go.Proofs

/-- All truths. -/
def TL (b : Bn) : List Nat := truthsL b (2 ^ b.kn - 1)
def chkE (b : Bn) (vb : Bool) : Int := if valid b = false then 1 else if vb = false then 2 else 0
def toldE (b : Bn) (vb : Bool) : Int := if valid b = false then 1 else if vb = false then 2 else if TL b = [] then 10 else 0
def toldL (b : Bn) (vb : Bool) : List Nat := if toldE b vb = 0 then TL b else []
def ToldAt (l : List Nat) (e0 : Int) (w : World) (e : Ending) (w' : World) : Prop := ∃ a c, e = .returned (.tuple #[.slice a l.length c, .int .i64 e0]) ∧ IntsAt w' a l ∧ Below w.heap.size w w'

theorem kn_lt {b : Bn} (hv : valid b = true) : 2 ^ b.kn - 1 < 2 ^ 62 := by
  have hl := valid_len hv
  have h2 : 2 ^ b.kn ≤ 2 ^ 8 := Nat.pow_le_pow_right (by omega) (by unfold Bn.kn; omega)
  have : (2:Nat)^8 < 2 ^ 62 := by decide
  omega

set_option maxHeartbeats 4000000 in
set_option maxRecDepth 100000 in
theorem r_truthsAll (b : Bn) (ga : Option Addr) (gc : Nat) (pa : Option Addr) (pc : Nat) (hv : valid b = true) (w : World) (hg : GsAt w ga b.gs) (hp : PsAt w pa b.ps) :
    Calls Try.prog 72 #[bv b ga gc pa pc] w (GivesL (TL b) w) := by
  have hl := valid_len hv
  have HE := Lib.hid (r_every b ga gc pa pc hl.1 hl.2)
  have HT : Hid (∀ (w' : World), Below w.heap.size w w' → Calls Try.prog 90 #[bv b ga gc pa pc, .int .i64 ((2 ^ (b.gs.length + b.ps.length) - 1 : Nat) : Int)] w' (GivesL (TL b) w')) :=
    Lib.hid fun w' hb => r_truths b ga gc pa pc hv w' (hg.below hb) (hp.below hb) _ (2 ^ b.kn - 1) rfl (kn_lt hv)
  unfold bv at *
  generalize ((2 ^ (b.gs.length + b.ps.length) - 1 : Nat) : Int) = ev at *
  go_enter Try.func72, Try.ntmps72
  go_wp2_with fail
  refine Ord.wp_region [(0, 1), (1, 0), (2, 2), (3, 2), (4, 0)] (fun W => Below (w.heap.size + 1) (w.alloc (.cells #[.int .i64 b.V, .int .i64 b.nd, .int .i64 b.lo, .int .i64 b.hi, .slice ga b.gs.length gc, .slice pa b.ps.length pc] 27)).drew W) (by kernel_rfl) (by kernel_rfl) (fun c a d v w h => by cases d <;> exact h) (Below.refl _ _) ?_
  go_wp2_with (first
    | ((with_reducible refine Ord.at_calm ?_); refine Ord.calm_skip rfl rfl (fun K hK => ?_)) | with_reducible refine Ord.walk_calm rfl rfl (fun K hK => ?_) | ((with_reducible refine Ord.at_wild ?_); refine Ord.wild_fieldAddr rfl rfl (fun W => by simp [go_sem]; rfl) (fun K hK => ?_)) | ((with_reducible refine Ord.at_wild ?_); refine Ord.wild_move rfl rfl (fun K hK => ?_)) | ((with_reducible refine Ord.at_wild ?_); refine Ord.wild_nilCheck rfl rfl (fun K hK => ?_)) | with_reducible refine Ord.walk_eff rfl (by first | (simp; done) | assumption | (go_simp; done) | (repeat (first | assumption | exact Below.refl _ _ | refine Below.drew ?_ | refine Below.alloc ?_ (by first | omega | (simp; done) | (simp; omega)) _ | refine Below.setCell ?_ (by first | omega | (simp; done) | (simp; omega)) _ | refine Below.trans ?_ (Below.mono (by assumption) (by first | omega | (simp; done) | (simp; omega)))))) (fun K hK => ?_) | with_reducible refine Ord.at_fork ?_ ?_ | with_reducible refine Ord.walk_nil ?_ | (with_reducible refine Ord.next_of (by first | (simp; done) | (go_simp; done) | (repeat (first | assumption | exact Below.refl _ _ | refine Below.drew ?_ | refine Below.alloc ?_ (by first | omega | (simp; done) | (simp; omega)) _ | refine Below.setCell ?_ (by first | omega | (simp; done) | (simp; omega)) _ | refine Below.trans ?_ (Below.mono (by assumption) (by first | omega | (simp; done) | (simp; omega)))))) (fun _ => ?_))
    | ((with_reducible refine Ord.at_wild ?_); refine Ord.wild_load (ad := ⟨w.heap.size, 0, none⟩) (.agg #[.int .i64 b.V, .int .i64 b.nd, .int .i64 b.lo, .int .i64 b.hi, .slice ga b.gs.length gc, .slice pa b.ps.length pc]) rfl rfl ?_ ?_; (focus (intro W hW; obtain ⟨cW, _, zW⟩ := below_rules hW rfl; simp [go_sem, cW, ↓IntWalk.iteOmega]; done)); intro K hK)
    | (go_at_call 89; refine (HE.out _).mono ?_; rintro e w1 ⟨rfl, hb1⟩; obtain ⟨c1, f1, z1⟩ := after hb1 (by simp; rfl))
    | (go_at_call 90; refine (HT.out _ ?_).mono ?_; (focus (repeat (first | assumption | exact Below.refl _ _ | refine Below.drew ?_ | refine Below.alloc ?_ (by first | omega | (simp; done) | (simp; omega)) _ | refine Below.setCell ?_ (by first | omega | (simp; done) | (simp; omega)) _ | refine Below.trans ?_ (Below.mono (by assumption) (by first | omega | (simp; done) | (simp; omega)))))); rintro e w2 ⟨a, c, rfl, hI, hb2⟩; obtain ⟨c2, f2, z2⟩ := after hb2 rfl))
  go_ret
  refine ⟨a, c, rfl, hI, ?_⟩
  (repeat (first | assumption | exact Below.refl _ _ | refine Below.drew ?_ | refine Below.alloc ?_ (by first | omega | (simp; done) | (simp; omega)) _ | refine Below.setCell ?_ (by first | omega | (simp; done) | (simp; omega)) _ | refine Below.trans ?_ (Below.mono (by assumption) (by first | omega | (simp; done) | (simp; omega)))))

set_option maxHeartbeats 4000000 in
set_option maxRecDepth 100000 in
theorem r_check (b : Bn) (ga : Option Addr) (gc : Nat) (pa : Option Addr) (pc : Nat) (w : World) (hg : GsAt w ga b.gs) (hp : PsAt w pa b.ps)
    (hgl : b.gs.length ≤ 40) (hpl : b.ps.length ≤ 40) (vb : Bool) :
    Calls Try.prog 71 #[bv b ga gc pa pc, .bool vb] w (Gives (.int .i64 (chkE b vb)) w) := by
  have hbean : Hid (∀ w', Below w.heap.size w w' → Calls Try.prog 36 #[bv b ga gc pa pc] w' (Gives (.bool (valid b)) w')) := by
    intro w' hb
    cases h : headOk b
    · rw [headOk_no h]; exact r_bean_no b ga gc pa pc w' (by omega) (by omega) h
    · exact r_bean_yes b ga gc pa pc w' (hg.below hb) (hp.below hb) h
  have HE : Hid (chkE b vb = if valid b = false then 1 else if vb = false then 2 else 0) := rfl
  unfold bv at *
  generalize valid b = v at *
  generalize chkE b vb = ce at *
  clear hg hp hgl hpl
  have h1 := HE.out
  cases v
  · have e1 : ce = 1 := by simpa using h1
    subst e1
    clear h1
    go_enter Try.func71, Try.ntmps71
    go_wp2_with (go_at_call 36; refine (hbean.out _ ?_).mono ?_; (focus (repeat (first | assumption | exact Below.refl _ _ | refine Below.drew ?_ | refine Below.alloc ?_ (by first | omega | (simp; done) | (simp; omega)) _ | refine Below.setCell ?_ (by first | omega | (simp; done) | (simp; omega)) _ | refine Below.trans ?_ (Below.mono (by assumption) (by first | omega | (simp; done) | (simp; omega)))))); rintro e w1 ⟨rfl, hb1⟩; obtain ⟨c1, f1, z1⟩ := after hb1 (by simp; rfl))
    go_ret
    refine ⟨rfl, ?_⟩
    (repeat (first | assumption | exact Below.refl _ _ | refine Below.drew ?_ | refine Below.alloc ?_ (by first | omega | (simp; done) | (simp; omega)) _ | refine Below.setCell ?_ (by first | omega | (simp; done) | (simp; omega)) _ | refine Below.trans ?_ (Below.mono (by assumption) (by first | omega | (simp; done) | (simp; omega)))))
  · cases vb
    · have e1 : ce = 2 := by simpa using h1
      subst e1
      clear h1
      go_enter Try.func71, Try.ntmps71
      go_wp2_with (go_at_call 36; refine (hbean.out _ ?_).mono ?_; (focus (repeat (first | assumption | exact Below.refl _ _ | refine Below.drew ?_ | refine Below.alloc ?_ (by first | omega | (simp; done) | (simp; omega)) _ | refine Below.setCell ?_ (by first | omega | (simp; done) | (simp; omega)) _ | refine Below.trans ?_ (Below.mono (by assumption) (by first | omega | (simp; done) | (simp; omega)))))); rintro e w1 ⟨rfl, hb1⟩; obtain ⟨c1, f1, z1⟩ := after hb1 (by simp; rfl))
      go_ret
      refine ⟨rfl, ?_⟩
      (repeat (first | assumption | exact Below.refl _ _ | refine Below.drew ?_ | refine Below.alloc ?_ (by first | omega | (simp; done) | (simp; omega)) _ | refine Below.setCell ?_ (by first | omega | (simp; done) | (simp; omega)) _ | refine Below.trans ?_ (Below.mono (by assumption) (by first | omega | (simp; done) | (simp; omega)))))
    · have e1 : ce = 0 := by simpa using h1
      subst e1
      clear h1
      go_enter Try.func71, Try.ntmps71
      go_wp2_with (go_at_call 36; refine (hbean.out _ ?_).mono ?_; (focus (repeat (first | assumption | exact Below.refl _ _ | refine Below.drew ?_ | refine Below.alloc ?_ (by first | omega | (simp; done) | (simp; omega)) _ | refine Below.setCell ?_ (by first | omega | (simp; done) | (simp; omega)) _ | refine Below.trans ?_ (Below.mono (by assumption) (by first | omega | (simp; done) | (simp; omega)))))); rintro e w1 ⟨rfl, hb1⟩; obtain ⟨c1, f1, z1⟩ := after hb1 (by simp; rfl))
      go_ret
      refine ⟨rfl, ?_⟩
      (repeat (first | assumption | exact Below.refl _ _ | refine Below.drew ?_ | refine Below.alloc ?_ (by first | omega | (simp; done) | (simp; omega)) _ | refine Below.setCell ?_ (by first | omega | (simp; done) | (simp; omega)) _ | refine Below.trans ?_ (Below.mono (by assumption) (by first | omega | (simp; done) | (simp; omega)))))

set_option maxHeartbeats 4000000 in
set_option maxRecDepth 100000 in
theorem r_told (b : Bn) (ga : Option Addr) (gc : Nat) (pa : Option Addr) (pc : Nat) (w : World) (hg : GsAt w ga b.gs) (hp : PsAt w pa b.ps)
    (hgl : b.gs.length ≤ 40) (hpl : b.ps.length ≤ 40) (vb : Bool) :
    Calls Try.prog 49 #[bv b ga gc pa pc, .bool vb] w (ToldAt (toldL b vb) (toldE b vb) w) := by
  have hchk : Hid (∀ w', Below w.heap.size w w' → Calls Try.prog 71 #[bv b ga gc pa pc, .bool vb] w' (Gives (.int .i64 (chkE b vb)) w')) :=
    fun w' hb => r_check b ga gc pa pc w' (hg.below hb) (hp.below hb) hgl hpl vb
  have hall : Hid (valid b = true → ∀ w', Below w.heap.size w w' → Calls Try.prog 72 #[bv b ga gc pa pc] w' (GivesL (TL b) w')) :=
    fun hv w' hb => r_truthsAll b ga gc pa pc hv w' (hg.below hb) (hp.below hb)
  have HE : Hid (chkE b vb = if valid b = false then 1 else if vb = false then 2 else 0) := rfl
  have HT : Hid (toldE b vb = if valid b = false then 1 else if vb = false then 2 else if TL b = [] then 10 else 0) := rfl
  have HL : Hid (toldL b vb = if toldE b vb = 0 then TL b else []) := rfl
  unfold bv at *
  generalize valid b = v at *
  generalize chkE b vb = ce at *
  generalize toldL b vb = tl at *
  generalize toldE b vb = te at *
  generalize TL b = T at *
  clear hg hp hgl hpl
  have h1 := HE.out
  have h2 := HT.out
  have h3 := HL.out
  by_cases q : v = true ∧ vb = true
  · obtain ⟨rfl, rfl⟩ := q
    have e1 : ce = 0 := by simpa using h1
    subst e1
    have hall2 := hall.out rfl
    have HA := Lib.hid hall2
    clear hall2 h1
    cases T with
    | nil =>
      have e2 : te = 10 := by simpa using h2
      subst e2
      have e3 : tl = [] := by simpa using h3
      subst e3
      clear h2 h3
      go_enter Try.func49, Try.ntmps49
      go_wp2_with (first
        | (go_at_call 71; refine (hchk.out _ ?_).mono ?_; (focus (repeat (first | assumption | exact Below.refl _ _ | refine Below.drew ?_ | refine Below.alloc ?_ (by first | omega | (simp; done) | (simp; omega)) _ | refine Below.setCell ?_ (by first | omega | (simp; done) | (simp; omega)) _ | refine Below.trans ?_ (Below.mono (by assumption) (by first | omega | (simp; done) | (simp; omega)))))); rintro e w1 ⟨rfl, hb1⟩; obtain ⟨c1, f1, z1⟩ := after hb1 (by simp; rfl))
        | (go_at_call 72; refine (HA.out _ ?_).mono ?_; (focus (repeat (first | assumption | exact Below.refl _ _ | refine Below.drew ?_ | refine Below.alloc ?_ (by first | omega | (simp; done) | (simp; omega)) _ | refine Below.setCell ?_ (by first | omega | (simp; done) | (simp; omega)) _ | refine Below.trans ?_ (Below.mono (by assumption) (by first | omega | (simp; done) | (simp; omega)))))); rintro e w2 ⟨a, c, rfl, hI, hb2⟩))
      go_ret2
      refine ⟨_, _, rfl, fun i hi => absurd hi (by simp), ?_⟩
      (repeat (first | assumption | exact Below.refl _ _ | refine Below.drew ?_ | refine Below.alloc ?_ (by first | omega | (simp; done) | (simp; omega)) _ | refine Below.setCell ?_ (by first | omega | (simp; done) | (simp; omega)) _ | refine Below.trans ?_ (Below.mono (by assumption) (by first | omega | (simp; done) | (simp; omega)))))
    | cons t0 ts =>
      have e2 : te = 0 := by simpa using h2
      subst e2
      have e3 : tl = t0 :: ts := by simpa using h3
      subst e3
      clear h2 h3
      have hlen : (((t0 :: ts).length : Nat) : Int) ≠ 0 := by simp; omega
      generalize hll : (t0 :: ts).length = n at *
      have HLL := Lib.hid hll
      clear hll
      go_enter Try.func49, Try.ntmps49
      go_wp2_with (first
        | (go_at_call 71; refine (hchk.out _ ?_).mono ?_; (focus (repeat (first | assumption | exact Below.refl _ _ | refine Below.drew ?_ | refine Below.alloc ?_ (by first | omega | (simp; done) | (simp; omega)) _ | refine Below.setCell ?_ (by first | omega | (simp; done) | (simp; omega)) _ | refine Below.trans ?_ (Below.mono (by assumption) (by first | omega | (simp; done) | (simp; omega)))))); rintro e w1 ⟨rfl, hb1⟩; obtain ⟨c1, f1, z1⟩ := after hb1 (by simp; rfl))
        | (go_at_call 72; refine (HA.out _ ?_).mono ?_; (focus (repeat (first | assumption | exact Below.refl _ _ | refine Below.drew ?_ | refine Below.alloc ?_ (by first | omega | (simp; done) | (simp; omega)) _ | refine Below.setCell ?_ (by first | omega | (simp; done) | (simp; omega)) _ | refine Below.trans ?_ (Below.mono (by assumption) (by first | omega | (simp; done) | (simp; omega)))))); rintro e w2 ⟨a, c, rfl, hI, hb2⟩; rw [HLL.out]))
      go_ret2
      refine ⟨a, c, by rw [HLL.out]; rfl, hI, ?_⟩
      (repeat (first | assumption | exact Below.refl _ _ | refine Below.drew ?_ | refine Below.alloc ?_ (by first | omega | (simp; done) | (simp; omega)) _ | refine Below.setCell ?_ (by first | omega | (simp; done) | (simp; omega)) _ | refine Below.trans ?_ (Below.mono (by assumption) (by first | omega | (simp; done) | (simp; omega)))))
  · have e1 : te = ce ∧ ce ≠ 0 := by
      rw [h1, h2]; cases v <;> cases vb <;> simp at q ⊢
    have e3 : tl = [] := by rw [h3, e1.1]; simp [e1.2]
    obtain ⟨e1, e2⟩ := e1
    subst e1 e3
    have hne : (te == 0) = false := by simpa using e2
    clear h1 h2 h3 e2
    go_enter Try.func49, Try.ntmps49
    go_wp2_with (go_at_call 71; refine (hchk.out _ ?_).mono ?_; (focus (repeat (first | assumption | exact Below.refl _ _ | refine Below.drew ?_ | refine Below.alloc ?_ (by first | omega | (simp; done) | (simp; omega)) _ | refine Below.setCell ?_ (by first | omega | (simp; done) | (simp; omega)) _ | refine Below.trans ?_ (Below.mono (by assumption) (by first | omega | (simp; done) | (simp; omega)))))); rintro e w1 ⟨rfl, hb1⟩; obtain ⟨c1, f1, z1⟩ := after hb1 (by simp; rfl))
    go_ret2
    refine ⟨_, _, rfl, fun i hi => absurd hi (by simp), ?_⟩
    (repeat (first | assumption | exact Below.refl _ _ | refine Below.drew ?_ | refine Below.alloc ?_ (by first | omega | (simp; done) | (simp; omega)) _ | refine Below.setCell ?_ (by first | omega | (simp; done) | (simp; omega)) _ | refine Below.trans ?_ (Below.mono (by assumption) (by first | omega | (simp; done) | (simp; omega)))))
end Go.Proofs.Ytjbjmoghloabpaa
/- Contracts of shearworksref03: counting in lists of truths. -/
set_option linter.unusedVariables false
set_option linter.unusedSimpArgs false
namespace Go.Proofs.Ytjbjmoghloabpaa
open Go.RowKit Go.Proofs

def cntH (l : List Nat) (v : Nat) : Nat := l.countP (fun x => hasB x v)
def gradedI (n all : Nat) : Int := if n = all then 2 else if n = 0 then 0 else 1
def maskTo (f : Nat → Bool) : Nat → Nat
  | 0 => 0
  | k + 1 => maskTo f k + if f k then 2 ^ k else 0
theorem maskTo_lt (f : Nat → Bool) (k : Nat) : maskTo f k < 2 ^ k := by
  induction k with
  | zero => simp [maskTo]
  | succ k ih => simp only [maskTo]; rw [Nat.pow_succ]; split <;> omega
def whiteM (l : List Nat) (V : Nat) : Nat := maskTo (fun v => cntH l v == l.length) V
def blackM (l : List Nat) (V : Nat) : Nat := maskTo (fun v => cntH l v == 0) V
def withL (l : List Nat) (m : Int) : List Nat := l.filter (fun x => decide ((sz x : Int) = m))
/-- Numbers that are not too great. -/
def Small (l : List Nat) : Prop := ∀ x ∈ l, x < 2 ^ 62
theorem Small.at {l : List Nat} (h : Small l) {k : Nat} (hk : k < l.length) : l[k] < 2 ^ 62 := h _ (List.getElem_mem hk)
theorem cntH_le (l : List Nat) (v : Nat) : cntH l v ≤ l.length := List.countP_le_length

theorem take_count (l : List Nat) (p : Nat → Bool) (k : Nat) (hk : k < l.length) : (l.take (k + 1)).countP p = (l.take k).countP p + (if p l[k] then 1 else 0) := by
  rw [List.take_succ_eq_append_getElem hk, List.countP_append]; simp [List.countP_cons]
theorem take_filter (l : List Nat) (p : Nat → Bool) (k : Nat) (hk : k < l.length) : (l.take (k + 1)).filter p = (l.take k).filter p ++ (if p l[k] then [l[k]] else []) := by
  rw [List.take_succ_eq_append_getElem hk, List.filter_append]; simp [List.filter_cons]

theorem r_graded (x y : Int) (n all : Nat) (hx : x = n) (hy : y = all) (w : World) :
    Calls Try.prog 60 #[.int .i64 x, .int .i64 y] w (Same (.int .i64 (gradedI n all)) w) := by
  subst hx hy
  have HG : Hid (gradedI n all = if n = all then 2 else if n = 0 then 0 else 1) := rfl
  generalize gradedI n all = g at *
  go_enter Try.func60, Try.ntmps60
  go_wp2
  all_goals go_ret
  all_goals (refine ⟨ret_int ?_, rfl⟩; rw [HG.out]; simp only [beq_iff_eq, Bool.not_eq_true, beq_eq_false_iff_ne] at *)
  all_goals (first | (rw [if_pos (by omega)]; done) | (rw [if_neg (by omega), if_pos (by omega)]; done) | (rw [if_neg (by omega), if_neg (by omega)]; done) | skip)
  all_goals go_ways

theorem r_whites (l : List Nat) (hs : Small l) (a : Option Addr) (c : Nat) (y : Int) (v : Nat) (hy : y = v) (hv : v ≤ 62) (hl : l.length ≤ 1000000) (w : World) (hI : IntsAt w a l) :
    Calls Try.prog 61 #[.slice a l.length c, .int .i64 y] w (Same (.int .i64 (cntH l v : Nat)) w) := by
  subst hy
  have HC : Hid (cntH l v = l.countP (fun x => hasB x v)) := rfl
  generalize cntH l v = cv at *
  go_enter Try.func61, Try.ntmps61
  go_wp2
  go_loop [5, 6] (fun n i => ∃ k q : Nat, k ≤ l.length ∧ q ≤ k ∧ Hid (q = (l.take k).countP (fun x => hasB x v)) ∧ i = .int .i64 k ∧ n = .int .i64 q) (fun _ i => l.length - (intOf i).toNat)
  case atStart => exact ⟨0, 0, by omega, by omega, rfl, rfl, rfl⟩
  case round =>
    obtain ⟨k, q, hk, hqk, hq, rfl, rfl⟩ := hrel
    by_cases hlt : k < l.length
    · obtain ⟨b, o, rfl, e1⟩ := hI k hlt
      have hlt' : (k : Int) < l.length := by omega
      have hx := hs.at hlt
      have HTC := Lib.hid (take_count l (fun x => hasB x v) k hlt)
      generalize l[k] = x at *
      have HX := Lib.hid (fun w => r_has (x : Int) (v : Int) x v rfl rfl hx hv w)
      clear hx hs hI
      cases hb : hasB x v
      · have HB := Lib.hid hb
        clear hb
        go_wp2_with (go_at_call 69; refine (HX.out _).mono ?_; rw [HB.out]; rintro e w' ⟨rfl, rfl⟩)
        all_goals (refine ⟨⟨k + 1, q, by omega, by omega, ?_, by go_num, by go_num⟩, by simp [intOf]; omega⟩; show _ = _; rw [HTC.out, ← hq.out, HB.out]; simp)
      · have HB := Lib.hid hb
        clear hb
        go_wp2_with (go_at_call 69; refine (HX.out _).mono ?_; rw [HB.out]; rintro e w' ⟨rfl, rfl⟩)
        all_goals (refine ⟨⟨k + 1, q + 1, by omega, by omega, ?_, by go_num, by go_num⟩, by simp [intOf]; omega⟩; show _ = _; rw [HTC.out, ← hq.out, HB.out]; simp)
    · go_wp2
      go_ret
      refine ⟨ret_int ?_, rfl⟩
      rw [HC.out, hq.out, List.take_of_length_le (by omega)]

set_option maxHeartbeats 4000000 in
set_option maxRecDepth 100000 in
theorem r_with (l : List Nat) (hs : Small l) (a : Option Addr) (c : Nat) (m : Int) (hl : l.length ≤ 1000000) (w : World) (hI : IntsAt w a l) :
    Calls Try.prog 79 #[.slice a l.length c, .int .i64 m] w (GivesL (withL l m) w) := by
  have HW : Hid (withL l m = l.filter (fun x => decide ((sz x : Int) = m))) := rfl
  generalize withL l m = wl at *
  go_enter Try.func79, Try.ntmps79
  go_wp2
  go_loopw [5, 6] (fun v i wr => ∃ k : Nat, k ≤ l.length ∧ i = .int .i64 k ∧ Below w.heap.size w wr ∧
    ∃ ys : List Nat, Hid (ys = (l.take k).filter (fun x => decide ((sz x : Int) = m))) ∧ ys.length ≤ k ∧ wr.ownsRow w.heap.size 3 1 v ys.length (ys.map natV)) (fun _ i _ => l.length - (intOf i).toNat)
  case atStart => exact ⟨0, Nat.zero_le _, rfl, Below.refl _ _, [], rfl, Nat.le_refl _, World.ownsRow_nil _ _ _ _⟩
  case round =>
    obtain ⟨k, hk, rfl, hB, ys, hy, hyk, hown⟩ := hrel
    by_cases hlt : k < l.length
    · obtain ⟨b, o, rfl, e1⟩ := hI k hlt
      have hbw : b < w.heap.size := World.block_lt_of_cell? w _ e1
      obtain ⟨c1, f1, z1⟩ := after hB rfl
      have hlt' : (k : Int) < l.length := by omega
      have hx := hs.at hlt
      have HTC := Lib.hid (take_filter l (fun x => decide ((sz x : Int) = m)) k hlt)
      generalize l[k] = x at *
      have HX := Lib.hid (fun w => r_size (x : Int) x rfl hx w)
      obtain ⟨i0, hi, hz0, hz1, hz2⟩ := info_parts Try.info3
      clear hx hs hI
      by_cases hb : (sz x : Int) = m
      · have HB : Hid (decide ((sz x : Int) = m) = true) := by show _ = _; simpa using hb
        subst hb
        go_wp2_with (first
          | (go_at_call 50; refine (HX.out _).mono ?_; rintro e w' ⟨rfl, rfl⟩)
          | (at_builtin; refine wpList_append_own _ rfl _ _ 67 rfl w.heap.size 3 i0 (.int .i64 0) 1 8 Try.underlying67 hi hz0 hz1 hz2 rfl (by decide) _ _ _ rfl (hown.alloc _) ⟨wr.heap.size, 0, none⟩ 1 1 [.int .i64 x] rfl rfl (cell_one_new _ _ _) (by simp [Value.oneCell']) (by unfold maxLen; omega) (by omega) (by simp; omega) ?_; intro v' w1 hown' hgrow _))
        have hBC := (hB.alloc (by omega) (.cells #[.int .i64 x] 3)).grown hgrow (by simp; omega) (fun j e => (hown.lt j e).1)
        refine ⟨⟨k + 1, by omega, by go_num, hBC, ys ++ [x], ?_, by simp; omega, ?_⟩, by simp [intOf]; omega⟩
        · show _ = _
          rw [HTC.out, HB.out, ← hy.out]; simp
        · simpa [natV] using hown'
      · have HB : Hid (decide ((sz x : Int) = m) = false) := by show _ = _; simpa using hb
        have hb2 : ((sz x : Int) == m) = false := by simpa using hb
        clear hb
        go_wp2_with (go_at_call 50; refine (HX.out _).mono ?_; rintro e w' ⟨rfl, rfl⟩)
        refine ⟨⟨k + 1, by omega, by go_num, hB, ys, ?_, by omega, hown⟩, by simp [intOf]; omega⟩
        show _ = _
        rw [HTC.out, HB.out, ← hy.out]; simp
    · go_wp2
      go_ret
      obtain ⟨a', c', rfl, hI'⟩ := IntsAt.of_own hown
      have : ys = wl := by rw [HW.out, hy.out, List.take_of_length_le (by omega)]
      subst this
      exact ⟨a', c', rfl, hI', hB⟩
end Go.Proofs.Ytjbjmoghloabpaa
/- Contracts of shearworksref03: who is known. -/
set_option linter.unusedVariables false
set_option linter.unusedSimpArgs false
namespace Go.Proofs.Ytjbjmoghloabpaa
open Go.RowKit Go.Proofs

def Gives2 (a b : Value) (w : World) (e : Ending) (w' : World) : Prop := e = .returned (.tuple #[a, b]) ∧ Below w.heap.size w w'
def Gives3 (a b c : Value) (w : World) (e : Ending) (w' : World) : Prop := e = .returned (.tuple #[a, b, c]) ∧ Below w.heap.size w w'
theorem ret_tup {a b : Value} (h : a = b) : Ending.returned a = .returned b := by rw [h]

set_option maxHeartbeats 4000000 in
set_option maxRecDepth 100000 in
theorem r_sure (b : Bn) (ga : Option Addr) (gc : Nat) (pa : Option Addr) (pc : Nat) (hV : 0 ≤ b.V ∧ b.V ≤ 8) (l : List Nat) (hs : Small l) (a : Option Addr) (c : Nat) (hl : l.length ≤ 1000000) (w : World) (hI : IntsAt w a l) :
    Calls Try.prog 64 #[bv b ga gc pa pc, .slice a l.length c] w (Gives2 (.int .i64 (whiteM l b.V.toNat : Nat)) (.int .i64 (blackM l b.V.toNat : Nat)) w) := by
  unfold bv
  have HW : Hid (whiteM l b.V.toNat = maskTo (fun v => cntH l v == l.length) b.V.toNat) := rfl
  have HB : Hid (blackM l b.V.toNat = maskTo (fun v => cntH l v == 0) b.V.toNat) := rfl
  have HN := Lib.hid (fun (v : Nat) (hv : v ≤ 62) (w' : World) (hb : Below w.heap.size w w') => r_whites l hs a c (v : Int) v rfl hv hl w' (hI.below hb))
  obtain ⟨V, hVV⟩ : ∃ V : Nat, b.V = V := ⟨b.V.toNat, by omega⟩
  rw [hVV] at hV
  have hV8 : V ≤ 8 := by omega
  simp only [hVV, Int.toNat_natCast] at *
  generalize whiteM l V = wm at *
  generalize blackM l V = bm at *
  clear hI hs hV hVV
  go_enter Try.func64, Try.ntmps64
  go_wp2
  go_loopw [6, 7, 8] (fun x y i wr => ∃ k p q : Nat, k ≤ V ∧ Hid (p = maskTo (fun v => cntH l v == l.length) k) ∧ Hid (q = maskTo (fun v => cntH l v == 0) k) ∧ p < 256 ∧ q < 256 ∧ i = .int .i64 k ∧ x = .int .i64 p ∧ y = .int .i64 q ∧
     wr = w.alloc (.cells #[.int .i64 V, .int .i64 b.nd, .int .i64 b.lo, .int .i64 b.hi, .slice ga b.gs.length gc, .slice pa b.ps.length pc] 27)) (fun _ _ i _ => V - (intOf i).toNat)
  case atStart => exact ⟨0, 0, 0, Nat.zero_le _, rfl, rfl, by omega, by omega, rfl, rfl, rfl, rfl⟩
  case round =>
    obtain ⟨k, p, q, hk, hp, hq, hp2, hq2, rfl, rfl, rfl, rfl⟩ := hrel
    by_cases hlt : k < V
    · have hlt' : (k : Int) < V := by omega
      have hn := HN.out k (by omega) (w.alloc (.cells #[.int .i64 V, .int .i64 b.nd, .int .i64 b.lo, .int .i64 b.hi, .slice ga b.gs.length gc, .slice pa b.ps.length pc] 27)) ((Below.refl _ _).alloc (Nat.le_refl _) _)
      have hpw := r_power (k : Int) k rfl (by omega)
      have hpl : 2 ^ k ≤ 128 := by have := Nat.pow_le_pow_right (n := 2) (by omega) (show k ≤ 7 by omega); simpa using this
      have hm1 : Hid (maskTo (fun v => cntH l v == l.length) (k + 1) = maskTo (fun v => cntH l v == l.length) k + if cntH l k == l.length then 2 ^ k else 0) := rfl
      have hm2 : Hid (maskTo (fun v => cntH l v == 0) (k + 1) = maskTo (fun v => cntH l v == 0) k + if cntH l k == 0 then 2 ^ k else 0) := rfl
      have hb1 : Hid (maskTo (fun v => cntH l v == l.length) (k + 1) < 2 ^ (k + 1)) := maskTo_lt _ _
      have hb2 : Hid (maskTo (fun v => cntH l v == 0) (k + 1) < 2 ^ (k + 1)) := maskTo_lt _ _
      have hpk : Hid (2 ^ (k + 1) ≤ 256) := by show _ ≤ _; have := Nat.pow_le_pow_right (n := 2) (by omega) (show k + 1 ≤ 8 by omega); simpa using this
      generalize cntH l k = n at *
      generalize hpp : 2 ^ k = pw at *
      have HNN := Lib.hid hn
      have HPW := Lib.hid hpw
      clear hn hpw hpp
      by_cases h1 : n = l.length
      · have h1' : ((n : Int) == l.length) = true := by simp; omega
        by_cases h2 : n = 0
        · have h2' : ((n : Int) == 0) = true := by simp; omega
          have g1 := hm1.out
          have g2 := hm2.out
          rw [if_pos (by simpa using h1)] at g1
          rw [if_pos (by simpa using h2)] at g2
          have G1 := Lib.hid g1
          have G2 := Lib.hid g2
          clear g1 g2 h1 h2
          go_wp2_with (first
            | (go_at_call 61; refine HNN.out.mono ?_; rintro e w' ⟨rfl, rfl⟩)
            | (go_at_call 82; refine (HPW.out _).mono ?_; rintro e w' ⟨rfl, rfl⟩))
          refine ⟨⟨k + 1, p + pw, q + pw, by omega, by show _ = _; rw [G1.out, ← hp.out], by show _ = _; rw [G2.out, ← hq.out], ?_, ?_, by go_num, by go_num, by go_num, trivial⟩, by simp [intOf]; omega⟩
          · have := hb1.out; rw [G1.out, ← hp.out] at this; have := hpk.out; omega
          · have := hb2.out; rw [G2.out, ← hq.out] at this; have := hpk.out; omega
        · have h2' : ((n : Int) == 0) = false := by simp; omega
          have g1 := hm1.out
          have g2 := hm2.out
          rw [if_pos (by simpa using h1)] at g1
          rw [if_neg (by simpa using h2)] at g2
          have G1 := Lib.hid g1
          have G2 := Lib.hid g2
          clear g1 g2 h1 h2
          go_wp2_with (first
            | (go_at_call 61; refine HNN.out.mono ?_; rintro e w' ⟨rfl, rfl⟩)
            | (go_at_call 82; refine (HPW.out _).mono ?_; rintro e w' ⟨rfl, rfl⟩))
          refine ⟨⟨k + 1, p + pw, q, by omega, by show _ = _; rw [G1.out, ← hp.out], by show _ = _; rw [G2.out, ← hq.out]; rfl, ?_, hq2, by go_num, by go_num, by go_num, trivial⟩, by simp [intOf]; omega⟩
          have := hb1.out; rw [G1.out, ← hp.out] at this; have := hpk.out; omega
      · have h1' : ((n : Int) == l.length) = false := by simp; omega
        by_cases h2 : n = 0
        · have h2' : ((n : Int) == 0) = true := by simp; omega
          have g1 := hm1.out
          have g2 := hm2.out
          rw [if_neg (by simpa using h1)] at g1
          rw [if_pos (by simpa using h2)] at g2
          have G1 := Lib.hid g1
          have G2 := Lib.hid g2
          clear g1 g2 h1 h2
          go_wp2_with (first
            | (go_at_call 61; refine HNN.out.mono ?_; rintro e w' ⟨rfl, rfl⟩)
            | (go_at_call 82; refine (HPW.out _).mono ?_; rintro e w' ⟨rfl, rfl⟩))
          refine ⟨⟨k + 1, p, q + pw, by omega, by show _ = _; rw [G1.out, ← hp.out]; rfl, by show _ = _; rw [G2.out, ← hq.out], hp2, ?_, by go_num, by go_num, by go_num, trivial⟩, by simp [intOf]; omega⟩
          have := hb2.out; rw [G2.out, ← hq.out] at this; have := hpk.out; omega
        · have h2' : ((n : Int) == 0) = false := by simp; omega
          have g1 := hm1.out
          have g2 := hm2.out
          rw [if_neg (by simpa using h1)] at g1
          rw [if_neg (by simpa using h2)] at g2
          have G1 := Lib.hid g1
          have G2 := Lib.hid g2
          clear g1 g2 h1 h2
          go_wp2_with (first
            | (go_at_call 61; refine HNN.out.mono ?_; rintro e w' ⟨rfl, rfl⟩)
            | (go_at_call 82; refine (HPW.out _).mono ?_; rintro e w' ⟨rfl, rfl⟩))
          exact ⟨⟨k + 1, p, q, by omega, by show _ = _; rw [G1.out, ← hp.out]; rfl, by show _ = _; rw [G2.out, ← hq.out]; rfl, hp2, hq2, by go_num, by go_num, by go_num, trivial⟩, by simp [intOf]; omega⟩
    · have hkV : k = V := by omega
      subst hkV
      go_wp2
      go_ret2
      refine ⟨ret_tup ?_, (Below.refl _ _).alloc (Nat.le_refl _) _⟩
      rw [HW.out, HB.out, ← hp.out, ← hq.out]
      rfl
end Go.Proofs.Ytjbjmoghloabpaa
