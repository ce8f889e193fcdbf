/- Parts of a proof: BnAS, MoreO. -/
import Derived.Test.YtjbjmoghloabpaaP02
import Derived.ProofKit
import Derived.OpenShut
import Derived.Deep.Slices
import Derived.Lib.SmallJoins
import Derived.Carry
set_option linter.unusedVariables false
set_option linter.unusedSimpArgs false
namespace Go.Proofs.Ytjbjmoghloabpaa
open Go.RowKit Go.Proofs
open Go.ChangeShapes Go.WideShapes Go.ChangeAt Go.RowKit Go.Deep Go.Joins
section
variable {H : Type} {enc : TypeId × Value → H} {w : World} {base : Nat} {spare : Nat → Bool} {held : Bool}
theorem cells3 {a : Addr} {cs : List Value} (h : w.cells? base a 3 = some cs) : ∃ c0 c1 c2, cs = [c0, c1, c2] ∧ w.cell? a = some c0 ∧ w.cell? (a.add 1) = some c1 ∧ w.cell? (a.add 2) = some c2 := by
  unfold World.cells? at h
  split at h
  · have h0 : a.add 0 = a := by simp [Addr.add]
    simp only [show List.range 3 = [0, 1, 2] from rfl, List.mapM_cons, List.mapM_nil, h0] at h
    simp only [Option.pure_def, Option.bind_eq_bind, Option.bind_eq_some_iff] at h
    obtain ⟨c0, e0, r, ⟨c1, e1, r2, ⟨c2, e2, r3, e3, e4⟩, e5⟩, e6⟩ := h
    simp only [Option.some.injEq] at e3 e4 e5 e6
    subst e3 e4 e5 e6
    exact ⟨c0, c1, c2, rfl, e0, e1, e2⟩
  · cases h
theorem trod_group {n : Nat} {cs : List Value} {y : DataW H × List MemPlace} (h : DataW.trod enc Try.prog w base spare held n 49 cs = some y) (hc : cs.length = 3) : ∃ v lo hi, cs = [.int .i64 v, .int .i64 lo, .int .i64 hi] := by
  match cs, hc with
  | [c0, c1, c2], _ =>
    obtain ⟨y0, y1, n, rfl, _, h0, h1⟩ := trod_struct2 Try.underlying49 h
    obtain ⟨v, e0, _⟩ := DataW.trod_int Try.underlying3 h0
    obtain ⟨z0, z1, n, rfl, _, h2, h3⟩ := trod_struct2 Try.underlying23 h1
    obtain ⟨lo, e1, _⟩ := DataW.trod_int Try.underlying3 h2
    obtain ⟨hi, e2, _⟩ := DataW.trod_int Try.underlying3 h3
    have k0 : Try.prog.cellsOf 3 = 1 := by kernel_rfl
    have k1 : Try.prog.cellsOf 23 = 2 := by kernel_rfl
    simp [k0, k1] at e0 e1 e2
    subst e0 e1 e2
    exact ⟨v, lo, hi, rfl⟩
theorem trod_pair {n : Nat} {cs : List Value} {y : DataW H × List MemPlace} (h : DataW.trod enc Try.prog w base spare held n 54 cs = some y) (hc : cs.length = 3) : ∃ a b s, cs = [.int .i64 a, .int .i64 b, .bool s] := by
  match cs, hc with
  | [c0, c1, c2], _ =>
    obtain ⟨y0, y1, y2, n, rfl, _, h0, h1, h2⟩ := trod_struct3 Try.underlying54 h
    obtain ⟨v, e0, _⟩ := DataW.trod_int Try.underlying3 h0
    obtain ⟨lo, e1, _⟩ := DataW.trod_int Try.underlying3 h1
    obtain ⟨s, e2, _⟩ := DataW.trod_bool Try.underlying4 h2
    have k0 : Try.prog.cellsOf 3 = 1 := by kernel_rfl
    have k1 : Try.prog.cellsOf 4 = 1 := by kernel_rfl
    simp [k0, k1] at e0 e1 e2
    subst e0 e1 e2
    exact ⟨v, lo, s, rfl⟩
theorem add_plain3 (b o j : Nat) : (⟨b, o, none⟩ : Addr).add j = ⟨b, o + j, none⟩ := by unfold Addr.add; split <;> simp_all
theorem trod_rows {α : Type} [Inhabited α] {t e : TypeId} {n : Nat} {cs : List Value} {y : DataW H × List MemPlace} (ht : Try.prog.underlying t = some (.slice e)) (hc : Try.prog.cellsOf e = 3) (f : α → List Value) (hf : ∀ a, (f a).length = 3)
    (hel : ∀ n cs y, DataW.trod enc Try.prog w base spare held n e cs = some y → cs.length = 3 → ∃ a, cs = f a) (h : DataW.trod enc Try.prog w base spare held n t cs = some y) :
    ∃ (l : List α) (a : Option Addr) (c : Nat), cs = [.slice a l.length c] ∧ l.length ≤ maxLen ∧ ∀ i, (hi : i < l.length) → ∃ gb go, a = some ⟨gb, go, none⟩ ∧ w.cell? ⟨gb, go + i * 3, none⟩ = (f l[i])[0]? ∧ w.cell? ⟨gb, go + i * 3 + 1, none⟩ = (f l[i])[1]? ∧ w.cell? ⟨gb, go + i * 3 + 2, none⟩ = (f l[i])[2]? := by
  rcases open_slice ht h with ⟨rfl, _⟩ | ⟨a, len, cap, m, n, D, Pl, rfl, _, hl, hm, hmm, _, hi⟩
  · exact ⟨[], none, 0, rfl, Nat.zero_le _, fun i hi => absurd hi (by simp)⟩
  · have hlm : len ≤ m := by rw [hmm]; split <;> omega
    have key : ∀ i, i < len → ∃ x : α, w.cell? (a.add (i * 3)) = (f x)[0]? ∧ w.cell? ((a.add (i * 3)).add 1) = (f x)[1]? ∧ w.cell? ((a.add (i * 3)).add 2) = (f x)[2]? := by
      intro i hlt
      obtain ⟨cs', h1, h2⟩ := hi i (by omega)
      rw [hc] at h1
      obtain ⟨c0, c1, c2, rfl, e0, e1, e2⟩ := cells3 h1
      obtain ⟨x, hx⟩ := hel _ _ _ h2 rfl
      exact ⟨x, by rw [← hx]; exact e0, by rw [← hx]; exact e1, by rw [← hx]; exact e2⟩
    obtain ⟨g, hg⟩ := choose_lt key
    refine ⟨(List.range len).map g, some a, cap, by simp, by simp; omega, fun i hlt => ?_⟩
    have hlt' : i < len := by simpa using hlt
    obtain ⟨e0, e1, e2⟩ := hg i hlt'
    have hs : a.spot = none := by
      have h0 := (hg 0 (by omega)).1
      have hl3 := hf (g 0)
      have : (f (g 0))[0]? = some ((f (g 0))[0]'(by omega)) := List.getElem?_eq_getElem _
      rw [this] at h0
      simpa [Addr.add] using World.cell?_spot h0
    obtain ⟨gb, go, sp⟩ := a
    simp only at hs
    subst hs
    rw [add_plain3] at e0 e1 e2
    rw [add_plain3] at e1 e2
    refine ⟨gb, go, rfl, ?_, ?_, ?_⟩
    · simpa using e0
    · simpa using e1
    · simpa using e2
theorem list6 {α : Type} {l : List α} (h : l.length = 6) : ∃ c0 c1 c2 c3 c4 c5, l = [c0, c1, c2, c3, c4, c5] := by
  match l, h with
  | [c0, c1, c2, c3, c4, c5], _ => exact ⟨c0, c1, c2, c3, c4, c5, rfl⟩
theorem list5 {α : Type} {l : List α} (h : l.length = 5) : ∃ c0 c1 c2 c3 c4, l = [c0, c1, c2, c3, c4] := by
  match l, h with
  | [c0, c1, c2, c3, c4], _ => exact ⟨c0, c1, c2, c3, c4, rfl⟩
set_option maxRecDepth 100000 in
theorem open_bean {r : Reach} {b0 : Nat} {v : Value} {d : DataW H} {p : List MemPlace} (hv : Value.okWide Try.prog w r b0 27 v) (h : DataW.Trod enc Try.prog w base spare held 27 v d p) :
    ∃ (b : Bn) (ga : Option Addr) (gc : Nat) (pa : Option Addr) (pc : Nat), v = bv b ga gc pa pc ∧ GsAt w ga b.gs ∧ PsAt w pa b.ps ∧ b.gs.length ≤ maxLen ∧ b.ps.length ≤ maxLen := by
  have kC : Try.prog.cellsOf 27 = 6 := by kernel_rfl
  have k0 : Try.prog.cellsOf 3 = 1 := by kernel_rfl
  have k1 : Try.prog.cellsOf 23 = 2 := by kernel_rfl
  have k2 : Try.prog.cellsOf 24 = 1 := by kernel_rfl
  have k3 : Try.prog.cellsOf 25 = 1 := by kernel_rfl
  have k4 : Try.prog.cellsOf 49 = 3 := by kernel_rfl
  have k5 : Try.prog.cellsOf 54 = 3 := by kernel_rfl
  obtain ⟨cs, rfl, hsz⟩ := okWide_struct Try.underlying27 hv
  obtain ⟨fuel, hf⟩ := h
  obtain ⟨xs, n, _, _, hl, hlen, hx⟩ := DataW.trod_struct Try.underlying27 hf
  obtain ⟨cl⟩ := cs
  rw [kC] at hsz
  obtain ⟨c0, c1, c2, c3, c4, c5, rfl⟩ := list6 (show cl.length = 6 from hsz)
  obtain ⟨x0, x1, x2, x3, x4, rfl⟩ := list5 (show xs.length = 5 from hlen)
  have h0 := hx 0 _ rfl
  have h1 := hx 1 _ rfl
  have h2 := hx 2 _ rfl
  have h3 := hx 3 _ rfl
  have h4 := hx 4 _ rfl
  simp only [Value.cells, k0, k1, k2, k3] at h0 h1 h2 h3 h4
  obtain ⟨V, e0, _⟩ := DataW.trod_int Try.underlying3 h0
  obtain ⟨nd, e1, _⟩ := DataW.trod_int Try.underlying3 h1
  obtain ⟨z0, z1, n', _, _, h5, h6⟩ := trod_struct2 Try.underlying23 h2
  simp only [k0] at h5 h6
  obtain ⟨lo, e2, _⟩ := DataW.trod_int Try.underlying3 h5
  obtain ⟨hi, e3, _⟩ := DataW.trod_int Try.underlying3 h6
  obtain ⟨gs, ga, gc, e4, hgl, hg⟩ := trod_rows Try.underlying24 k4 (fun g : Int × Int × Int => [.int .i64 g.1, .int .i64 g.2.1, .int .i64 g.2.2]) (fun _ => rfl) (fun n cs y hy hc => by obtain ⟨v, lo, hi, e⟩ := trod_group hy hc; exact ⟨(v, lo, hi), e⟩) h3
  obtain ⟨ps, pa, pc, e5, hpl, hp⟩ := trod_rows Try.underlying25 k5 (fun g : Int × Int × Bool => [.int .i64 g.1, .int .i64 g.2.1, .bool g.2.2]) (fun _ => rfl) (fun n cs y hy hc => by obtain ⟨v, lo, hi, e⟩ := trod_pair hy hc; exact ⟨(v, lo, hi), e⟩) h4
  simp [k0, k1, k2, k3] at e0 e1 e2 e3 e4 e5
  subst e0 e1 e2 e3 e4 e5
  exact ⟨⟨V, nd, lo, hi, gs, ps⟩, ga, gc, pa, pc, rfl, fun i hi => by simpa using hg i hi, fun i hi => by simpa using hp i hi, hgl, hpl⟩
end
end Go.Proofs.Ytjbjmoghloabpaa
set_option linter.unusedVariables false
set_option linter.unusedSimpArgs false
namespace Go.Proofs.Ytjbjmoghloabpaa
open Go.RowKit Go.Proofs
open Go.ChangeShapes Go.WideShapes Go.ChangeAt Go.RowKit Go.Deep Go.Joins
set_option maxRecDepth 100000 in
theorem open_group {H : Type} {enc : TypeId × Value → H} {w : World} {base : Nat} {spare : Nat → Bool} {held : Bool} {r : Reach} {b0 : Nat} {v : Value} {d : DataW H} {p : List MemPlace} (hv : Value.okWide Try.prog w r b0 49 v) (h : DataW.Trod enc Try.prog w base spare held 49 v d p) :
    ∃ s1 s2 s3 : Int, v = .agg #[.int .i64 s1, .int .i64 s2, .int .i64 s3] := by
  have kC : Try.prog.cellsOf 49 = 3 := by kernel_rfl
  obtain ⟨cs, rfl, hsz⟩ := okWide_struct Try.underlying49 hv
  obtain ⟨fuel, hf⟩ := h
  obtain ⟨cl⟩ := cs
  rw [kC] at hsz
  obtain ⟨a, b, c, ha⟩ := trod_group hf (show cl.length = 3 from hsz)
  have ha' : cl = _ := ha
  subst ha'
  exact ⟨a, b, c, rfl⟩
set_option maxRecDepth 100000 in
theorem open_pair {H : Type} {enc : TypeId × Value → H} {w : World} {base : Nat} {spare : Nat → Bool} {held : Bool} {r : Reach} {b0 : Nat} {v : Value} {d : DataW H} {p : List MemPlace} (hv : Value.okWide Try.prog w r b0 54 v) (h : DataW.Trod enc Try.prog w base spare held 54 v d p) :
    ∃ (s1 s2 : Int) (s3 : Bool), v = .agg #[.int .i64 s1, .int .i64 s2, .bool s3] := by
  have kC : Try.prog.cellsOf 54 = 3 := by kernel_rfl
  obtain ⟨cs, rfl, hsz⟩ := okWide_struct Try.underlying54 hv
  obtain ⟨fuel, hf⟩ := h
  obtain ⟨cl⟩ := cs
  rw [kC] at hsz
  obtain ⟨a, b, c, ha⟩ := trod_pair hf (show cl.length = 3 from hsz)
  have ha' : cl = _ := ha
  subst ha'
  exact ⟨a, b, c, rfl⟩
end Go.Proofs.Ytjbjmoghloabpaa
