/- Parts of a proof: MuD. -/
import Derived.Test.YteeinehpneppnaaW39
import Derived.Test.YteeinehpneppnaaW40
/- The law MobEnds walked: all ways. (Printed by mkMobC.py) -/
set_option linter.unusedVariables false
set_option linter.unusedSimpArgs false
namespace Go.Proofs.Yteeinehpneppnaa
open Go.RowKit Go.Proofs
attribute [local irreducible] Ord.walk
set_option maxHeartbeats 4000000 in
set_option maxRecDepth 100000 in
theorem w_Ends_long (m : Mb) (A : Ma) (n1 n2 : Int) (w : World) (l1 : m.places.length ≤ maxLen) (l2 : m.legs.length ≤ maxLen) (l3 : m.herds.length ≤ maxLen) (l4 : m.seen.length ≤ maxLen) (hl : longB m = true) :
    Calls Try.prog 6 #[mv m A, .int .u8 n1, .int .u8 n2] w (Gives (.bool true) w) := by
  have HL : Hid (∀ W, Calls Try.prog 27 #[mv m A] W (Gives (.bool true) W)) := fun W => by
    have := l_long m A W l1 l2 l3 l4
    rwa [hl] at this
  have HA := Lib.hid l_alive
  clear l1 l2 l3 l4 hl
  rcases A with ⟨pa, pc, la, lc, ha, hc, sa, sc⟩
  unfold mv mcells at *
  simp only at *
  go_enter Try.func6, Try.ntmps6
  go_wp2_with (first
    | (go_at_call 27; refine (HL.out _).mono ?_; rintro e w1 ⟨rfl, hb1⟩)
    | (go_at_call 12; refine (HA.out _).mono ?_; rintro e w2 ⟨rfl, hb2⟩))
  go_ret
  have hB1 : Below w.heap.size w w1 := ((Below.refl w.heap.size w).alloc (Nat.le_refl _) _).trans (hb1.mono (by first | omega | (simp; done) | (simp; omega)))
  exact ⟨rfl, hB1.trans (hb2.mono hB1.size)⟩
theorem w_MobEnds (m : Mb) (A : Ma) (n1 n2 : Int) (w : World) (hm : MbAt w m A) (l1 : m.places.length ≤ maxLen) (l2 : m.legs.length ≤ maxLen) (l3 : m.herds.length ≤ maxLen) (l4 : m.seen.length ≤ maxLen) (wn1 : (Lit.int .u8 n1).wf = true) (wn2 : (Lit.int .u8 n2).wf = true) :
    Calls Try.prog 6 #[mv m A, .int .u8 n1, .int .u8 n2] w (Gives (.bool true) w) := by
  cases hl : longB m
  · cases hv : validM m
    · exact w_Ends_no m A n1 n2 w hm hl hv
    · rcases Nat.eq_zero_or_pos m.herds.length with hz | hz
      · exact w_Ends_none m A n1 n2 w hm hl hv hz
      · have hb1 : 0 ≤ n1 ∧ n1 < 256 := by
          have := bounds_u8 wn1
          omega
        obtain ⟨k1, rfl⟩ : ∃ k : Nat, n1 = (k : Int) := ⟨n1.toNat, by omega⟩
        have hb2 : 0 ≤ n2 ∧ n2 < 256 := by
          have := bounds_u8 wn2
          omega
        obtain ⟨k2, rfl⟩ : ∃ k : Nat, n2 = (k : Int) := ⟨n2.toNat, by omega⟩
        exact w_Ends_main m A k1 k2 (by omega) (by omega) w hm hv hz
  · exact w_Ends_long m A n1 n2 w l1 l2 l3 l4 hl
end Go.Proofs.Yteeinehpneppnaa
