/- What is walked in an activation's frame holds in a round's frame too, where nothing is deferred (at the fence that asks nothing). -/
import Derived.Test.YteeinehpneppnaaGreatOrdC
import Derived.RangeFuncIn
import Derived.RangeFuncCalls
import Derived.TacticsIn
import Derived.OrdersIn
set_option linter.unusedVariables false
namespace Go
variable {P : Program} {ops : Array Oper} {Q : Exit → Act → World → Prop} {K : Act → World → Prop} {a : Act} {w : World} {o : Oper} {l n : Nat}

def noDefer (o : Oper) : Bool := match o.op with | .defer _ => false | _ => true
theorem noDefer_ne (h : noDefer o = true) : ∀ c, o.op ≠ .defer c := by
  intro c hc
  simp [noDefer, hc] at h

theorem rowsIn_wide' {row : String} {args : Array Value} {R : Value → World → Prop} (h : Rows P row args w R) : RowsIn (Fence.wide.inRound l) n P row args w R := by
  intro c cs hr
  obtain ⟨v, w', r, s⟩ := h c cs
  exact ⟨v, w', r, stepsIn_wide.2 s⟩

theorem Oper.wpIn_of_wp (hd : noDefer o = true) (h : o.wp P a w K Q) : o.wpIn (Fence.wide.inRound l) n P a w K Q := by
  unfold Oper.wpIn
  refine ⟨fun f _ => trivial, ?_⟩
  rw [Oper.semAt_eq _ _ _ (noDefer_ne hd)]
  unfold Oper.wp at h
  generalize (execOp a.eval o).run P w = r at h
  cases r with
  | ok x w' =>
    cases x <;> simp only [Oper.upon, Oper.uponIn] at h ⊢ <;>
      first
        | exact h
        | exact ⟨fun h0 => (by simp [Fence.wide] at h0), CallsIn.inRound l (callsIn_wide.2 h)⟩
        | exact ⟨fun h0 => (by simp [Fence.wide] at h0), rowsIn_wide' h⟩
        | exact h.elim
  | halt x w' => cases x <;> simp only [Oper.upon, Oper.uponIn] at h ⊢ <;> exact h

theorem wpListIn_of (hQ : ¬ LetsOut Q) : ∀ (lo : List Oper) (a : Act) (w : World), (∀ o ∈ lo, noDefer o = true) → wpList P ops Q lo a w → wpListIn (Fence.wide.inRound l) n P ops Q lo a w
  | [], a, w, _, h => h
  | o :: rest, a, w, hd, h => by
    simp only [wpList, wpListIn] at h ⊢
    split
    · rename_i hw
      simp only [hw, if_true] at h
      rcases h with h | h
      · exact Oper.wpIn_mono (fun a w h => wpListIn_of hQ rest a w (fun o ho => hd o (by simp [ho])) h) (Oper.wpIn_of_wp (hd o (by simp)) h)
      · exact absurd h.2 hQ
    · rename_i hw
      simp only [hw] at h
      exact ⟨fun f _ => trivial, wpListIn_of hQ rest _ w (fun o ho => hd o (by simp [ho])) h⟩
theorem wpIn_region_of {id : Nat} {lo : List Oper} (hQ : ¬ LetsOut Q) (hd : lo.all noDefer = true) (h : wpList P lo.toArray Q lo a w) : (Code.region id lo.toArray false).wpIn (Fence.wide.inRound l) n P Q a w :=
  wpIn_region_lit (wpListIn_of hQ lo a w (fun o ho => List.all_eq_true.1 hd o ho) h)

theorem wpAnyIn_of (hQ : ¬ LetsOut Q) (hd : ∀ (i : Nat) (o : Oper), ops[i]? = some o → noDefer o = true) : ∀ (fuel : Nat) (listed : Array Bool) (a : Act) (w : World), wpAny P .any ops Q fuel listed a w → wpAnyIn (Fence.wide.inRound l) n P .any ops Q fuel listed a w
  | 0, _, _, _, h => h
  | fuel + 1, listed, a, w, h => by
    refine ⟨h.1, fun i hi => ?_⟩
    have h2 := h.2 i hi
    unfold wpOp at h2
    unfold wpOpIn
    split
    · rename_i ho
      simp only [ho] at h2
      exact wpAnyIn_of hQ hd fuel _ _ _ h2
    · rename_i o ho
      simp only [ho] at h2
      split
      · rename_i hw
        simp only [hw, if_true] at h2
        rcases h2 with h2 | h2
        · exact Oper.wpIn_mono (fun a w h => wpAnyIn_of hQ hd fuel _ a w h) (Oper.wpIn_of_wp (hd i o ho) h2)
        · exact absurd h2.2 hQ
      · rename_i hw
        simp only [hw] at h2
        exact ⟨fun f _ => trivial, wpAnyIn_of hQ hd fuel _ _ _ h2⟩

/-- A region that draws its order, in a round's frame. -/
theorem Ord.wpIn_region {id : Nat} {lo : List Oper} (hO : ¬ LetsOut Q) (pl : List (Nat × Nat)) (H : World → Prop) (hm : P.follows .mixedOrders = true) (hp : Ord.planOk lo.toArray pl = true) (hd : lo.all noDefer = true)
    (hQ : ∀ c a d v w, Q (.panic c) (a.put d v) w → Q (.panic c) a w) (hH : H w.drew) (h : Ord.walk P lo.toArray H Q pl a w.drew) : (Code.region id lo.toArray true).wpIn (Fence.wide.inRound l) n P Q a w := by
  simp only [Ord.planOk, Bool.and_eq_true, beq_iff_eq] at hp
  obtain ⟨⟨hs, hl⟩, hp⟩ := hp
  refine wpIn_region_any hm (wpAnyIn_of hO (fun i o ho => List.all_eq_true.1 hd o (List.mem_of_getElem? (by simpa using ho))) _ _ _ _ (Ord.wpAny_of_any (H := H) (eff := fun i => pl.any fun (k, c) => k == i && c == 2) _ _ _ _ ?_))
  have h2 := Ord.any_of_walk (H := H) (eff := fun i => pl.any fun (k, c) => k == i && c == 2) hs hQ pl (Array.replicate lo.toArray.size false) a _ (by simp) hH hp h
  rw [hl] at h2
  exact h2
end Go
