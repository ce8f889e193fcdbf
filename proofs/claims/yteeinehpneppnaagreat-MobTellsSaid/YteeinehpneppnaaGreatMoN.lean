/- Package mob: the closures that look at arguments; Comes. -/
import Derived.Test.YteeinehpneppnaaGreatMoM
set_option linter.unusedVariables false
set_option linter.unusedSimpArgs false
namespace Go.Proofs.YteeinehpneppnaaGreat
open Go.RowKit Go.Proofs
attribute [local irreducible] Ord.walk
def knownP (m : Mb) (isB : Bool) : Int := if validM m = false then 1 else if isB = false then 2 else if knownM m = false then 10 else 0
theorem herds_ok {m : Mb} (hv : validM m = true) : m.herds.all (hdOk m.places.length) = true := by
  unfold validM at hv
  simp only [Bool.and_eq_true] at hv
  exact hv.2.2.2.1
set_option maxHeartbeats 4000000 in
set_option maxRecDepth 100000 in
theorem m_isFromC {m : Mb} {A : Ma} {pa : Option Addr} {pc wp mb : Nat} (n1 n2 : Nat) (i p : Int) (W : World) (hl : Mlen m) (hv : validM m = true) (hw : WayAt W wp m A pa pc mb) (b1 : Blk W n1 #[.int .i64 i] 3) (b2 : Blk W n2 #[.int .i64 p] 3) :
    Calls Tryz.prog 26 #[.pointer (some ⟨wp, 0, none⟩), .pointer (some ⟨n1, 0, none⟩), .pointer (some ⟨n2, 0, none⟩)] W (Gives (.bool (fromB m i p)) W) := by
  have hc := m_isFrom wp m A i p W hl (hw.blk.cell 0) (hw.blk.cell 2) hw.args.herds
  rw [fromP_eq (herds_ok hv)] at hc
  have HC := Lib.hid hc
  clear hc
  have r1 := b1.cell
  have r2 := b2.cell
  generalize fromB m i p = B at *
  go_enter Tryz.func26, Tryz.ntmps26
  go_wp2_with (go_at_call 27; refine HC.out.mono ?_; rintro e w2 ⟨rfl, hb2⟩)
  go_ret
  exact ⟨rfl, hb2⟩
set_option maxHeartbeats 4000000 in
set_option maxRecDepth 100000 in
theorem m_herdC (K : FuncId) (hK : K = 50 ∨ K = 54) {m : Mb} {A : Ma} {pa : Option Addr} {pc wp mb : Nat} (n1 : Nat) (i : Int) (W : World) (hl : Mlen m) (hw : WayAt W wp m A pa pc mb) (b1 : Blk W n1 #[.int .i64 i] 3) :
    Calls Tryz.prog K #[.pointer (some ⟨wp, 0, none⟩), .pointer (some ⟨n1, 0, none⟩)] W (Gives (.bool (herdB m i)) W) := by
  have HC := Lib.hid (m_isHerd wp m A none 0 0 0 i W hl.herds (hw.blk.cell 2))
  have r1 := b1.cell
  generalize herdB m i = B at *
  rcases hK with rfl | rfl
  · go_enter Tryz.func50, Tryz.ntmps50
    go_wp2_with (go_at_call 40; refine HC.out.mono ?_; rintro e w2 ⟨rfl, rfl⟩)
    go_ret
    exact ⟨rfl, Below.refl _ _⟩
  · go_enter Tryz.func54, Tryz.ntmps54
    go_wp2_with (go_at_call 40; refine HC.out.mono ?_; rintro e w2 ⟨rfl, rfl⟩)
    go_ret
    exact ⟨rfl, Below.refl _ _⟩
set_option maxHeartbeats 4000000 in
set_option maxRecDepth 100000 in
theorem m_herdDayC {m : Mb} {A : Ma} {pa : Option Addr} {pc wp mb : Nat} (n1 n2 : Nat) (i d : Int) (W : World) (hl : Mlen m) (hw : WayAt W wp m A pa pc mb) (b1 : Blk W n1 #[.int .i64 i] 3) (b2 : Blk W n2 #[.int .i64 d] 3) :
    Calls Tryz.prog 39 #[.pointer (some ⟨wp, 0, none⟩), .pointer (some ⟨n1, 0, none⟩), .pointer (some ⟨n2, 0, none⟩)] W (Gives (.bool (herdB m i && inB d 0 100)) W) := by
  have HC := Lib.hid (m_isHerd wp m A none 0 0 0 i W hl.herds (hw.blk.cell 2))
  have HD := Lib.hid (m_isDay d W)
  have r1 := b1.cell
  have r2 := b2.cell
  generalize inB d 0 100 = C at *
  cases h : herdB m i <;> rw [h] at HC
  all_goals
    go_enter Tryz.func39, Tryz.ntmps39
    go_wp2_with (first
      | (go_at_call 40; refine HC.out.mono ?_; rintro e w2 ⟨rfl, rfl⟩)
      | (go_at_call 41; refine HD.out.mono ?_; rintro e w2 ⟨rfl, rfl⟩))
    go_ret
    exact ⟨by simp, Below.refl _ _⟩
set_option maxHeartbeats 4000000 in
set_option maxRecDepth 100000 in
theorem m_herdsC {m : Mb} {A : Ma} {pa : Option Addr} {pc wp mb : Nat} (n1 n2 : Nat) (i k : Int) (W : World) (hl : Mlen m) (hw : WayAt W wp m A pa pc mb) (b1 : Blk W n1 #[.int .i64 i] 3) (b2 : Blk W n2 #[.int .i64 k] 3) :
    Calls Tryz.prog 60 #[.pointer (some ⟨wp, 0, none⟩), .pointer (some ⟨n1, 0, none⟩), .pointer (some ⟨n2, 0, none⟩)] W (Gives (.bool (herdB m i && herdB m k)) W) := by
  have HC := Lib.hid (fun i => m_isHerd wp m A none 0 0 0 i W hl.herds (hw.blk.cell 2))
  have r1 := b1.cell
  have r2 := b2.cell
  cases h : herdB m i
  all_goals
    go_enter Tryz.func60, Tryz.ntmps60
    go_wp2_with (go_at_call 40; refine (HC.out _).mono ?_; (try rw [h]); rintro e w2 ⟨rfl, rfl⟩)
    go_ret
    exact ⟨by simp, Below.refl _ _⟩
set_option maxHeartbeats 4000000 in
set_option maxRecDepth 100000 in
theorem m_dayC (n1 wp : Nat) (d : Int) (W : World) (b1 : Blk W n1 #[.int .i64 d] 3) :
    Calls Tryz.prog 63 #[.pointer (some ⟨wp, 0, none⟩), .pointer (some ⟨n1, 0, none⟩)] W (Gives (.bool (inB d 0 100)) W) := by
  have HD := Lib.hid (m_isDay d W)
  have r1 := b1.cell
  go_enter Tryz.func63, Tryz.ntmps63
  go_wp2_with (go_at_call 41; refine HD.out.mono ?_; rintro e w2 ⟨rfl, rfl⟩)
  go_ret
  exact ⟨rfl, Below.refl _ _⟩
end Go.Proofs.YteeinehpneppnaaGreat
