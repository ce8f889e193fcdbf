/- Parts of a proof: QuietB. -/
import Derived.Test.YtjbjmoghloabpaaM48
import Derived.Test.YtjbjmoghloabpaaM44
/- The law BeanQuiet walked: all votes. -/
set_option linter.unusedVariables false
set_option linter.unusedSimpArgs false
namespace Go.Proofs.Ytjbjmoghloabpaa
open Go.RowKit Go.Proofs
attribute [local irreducible] Ord.walk
theorem w_BeanQuiet (b : Bn) (ga : Option Addr) (gc : Nat) (pa : Option Addr) (pc : Nat) (n1 : Int) (w : World) (hg : GsAt w ga b.gs) (hp : PsAt w pa b.ps) (hgl : b.gs.length ≤ maxLen) (hpl : b.ps.length ≤ maxLen) (wn1 : (Lit.int .u8 n1).wf = true) :
    Calls Try.prog 9 #[bv b ga gc pa pc, .int .u8 n1] w (Gives (.bool true) w) := by
  by_cases hl : 40 < (max b.gs.length b.ps.length : Nat)
  · exact w_Quiet_long b ga gc pa pc n1 w hgl hpl hl
  · cases hv : valid b
    · exact w_Quiet_no b ga gc pa pc n1 w hg hp (by omega) (by omega) hv
    · have hb1 := bounds_u8 wn1
      obtain ⟨k, rfl⟩ : ∃ k : Nat, n1 = (k : Int) := ⟨n1.toNat, by omega⟩
      exact w_Quiet_main b ga gc pa pc k (by omega) w hg hp hv
end Go.Proofs.Ytjbjmoghloabpaa
