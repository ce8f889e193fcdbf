/- Parts of a proof: Cases, WaysB. -/
import Derived.Test.YtjbjmoghloabpaaM39
import Derived.Test.YtjbjmoghloabpaaM43
/- The Bean laws where a list is long, or the vote is not valid. (Printed by mkCases.py) -/
set_option linter.unusedVariables false
set_option linter.unusedSimpArgs false
namespace Go.Proofs.Ytjbjmoghloabpaa
open Go.RowKit Go.Proofs
attribute [local irreducible] Ord.walk
set_option maxHeartbeats 4000000 in
set_option maxRecDepth 100000 in
theorem w_Ways_long (b : Bn) (ga : Option Addr) (gc : Nat) (pa : Option Addr) (pc : Nat) (n1 n2 : Int) (w : World) (hgl : b.gs.length ≤ maxLen) (hpl : b.ps.length ≤ maxLen) (hl : 40 < (max b.gs.length b.ps.length : Nat)) :
    Calls Try.prog 7 #[bv b ga gc pa pc, .int .u8 n1, .int .u8 n2] w (Gives (.bool true) w) := by
  have HL : Hid (∀ W, Calls Try.prog 12 #[bv b ga gc pa pc] W (Gives (.bool true) W)) := fun W => by
    have := l_long b ga gc pa pc W hgl hpl
    rwa [show longB b = true by unfold longB; exact decide_eq_true hl] at this
  have HA := Lib.hid l_alive
  clear hgl hpl hl
  unfold bv at *
  go_enter Try.func7, Try.ntmps7
  go_wp2_with (first
    | (go_at_call 12; refine (HL.out _).mono ?_; rintro e w1 ⟨rfl, hb1⟩)
    | (go_at_call 13; refine (HA.out _).mono ?_; rintro e w2 ⟨rfl, hb2⟩))
  go_ret
  have hB1 : Below w.heap.size w w1 := ((Below.refl w.heap.size w).alloc (Nat.le_refl _) _).trans (hb1.mono (by first | omega | (simp; done) | (simp; omega)))
  exact ⟨rfl, hB1.trans (hb2.mono hB1.size)⟩

set_option maxHeartbeats 4000000 in
set_option maxRecDepth 100000 in
theorem w_Ways_no (b : Bn) (ga : Option Addr) (gc : Nat) (pa : Option Addr) (pc : Nat) (n1 n2 : Int) (w : World) (hg : GsAt w ga b.gs) (hp : PsAt w pa b.ps) (hgl : b.gs.length ≤ 40) (hpl : b.ps.length ≤ 40) (hv : valid b = false) :
    Calls Try.prog 7 #[bv b ga gc pa pc, .int .u8 n1, .int .u8 n2] w (Gives (.bool true) w) := by
  have HL : Hid (∀ W, Calls Try.prog 12 #[bv b ga gc pa pc] W (Gives (.bool false) W)) := fun W => by
    have := l_long b ga gc pa pc W (by unfold maxLen; omega) (by unfold maxLen; omega)
    rwa [show longB b = false by unfold longB; exact decide_eq_false (by omega)] at this
  have HBn : Hid (∀ W, Below w.heap.size w W → Calls Try.prog 36 #[bv b ga gc pa pc] W (Gives (.bool false) W)) := fun W hb => by
    have := r_bean (hg.below hb) (hp.below hb) (ga := ga) (gc := gc) (pa := pa) (pc := pc) (by omega) (by omega)
    rwa [hv] at this
  have HA := Lib.hid l_alive
  have HF : countR b = (0, 1) ∧ whitesR b = (0, 0, 1) := by
    have e1 : chkE b true = 1 := by unfold chkE; simp [hv]
    have e2 : toldE b true = 1 := by unfold toldE; simp [hv]
    constructor
    · unfold countR; rw [e1, if_neg (by omega)]
    · unfold whitesR; rw [e2, if_neg (by omega)]
  have I1 : Hid (∀ W, Below w.heap.size w W → Calls Try.prog 24 #[bv b ga gc pa pc] W (Gives2 (.int .i64 0) (.int .i64 1) W)) := fun W hb => by
    have := bb_Count b ga gc pa pc W (hg.below hb) (hp.below hb) (by omega) (by omega); rwa [HF.1] at this
  have I2 : Hid (∀ W, Below w.heap.size w W → Calls Try.prog 14 #[bv b ga gc pa pc] W (Gives2 (.agg #[.int .i64 0, .int .i64 0]) (.int .i64 1) W)) := fun W hb => by
    have := bb_Whites b ga gc pa pc W (hg.below hb) (hp.below hb) (by omega) (by omega); rwa [HF.2] at this
  clear hgl hpl hv hg hp HF
  unfold bv at *
  go_enter Try.func7, Try.ntmps7
  go_wp2_with (first
    | (go_at_call 12; refine (HL.out _).mono ?_; rintro e w1 ⟨rfl, hb1⟩; refine at_stop ?_))
  unfold Stop
  have bb := (Blk.new w #[.int .i64 b.V, .int .i64 b.nd, .int .i64 b.lo, .int .i64 b.hi, .slice ga b.gs.length gc, .slice pa b.ps.length pc] 27).below hb1 (by first | omega | (simp; done) | (simp; omega))
  have hB := ((Below.refl w.heap.size w).alloc (Nat.le_refl _) _).trans (hb1.mono (by first | omega | (simp; done) | (simp; omega)))
  clear hb1
  go_wp2_with (first
    | (refine wpList_load_blk 27 (.tmp 3) agg_bean rfl rfl rfl bb rfl ?_)
    | (go_at_call 36; refine (HBn.out _ hB).mono ?_; rintro e w2 ⟨rfl, hb2⟩; replace bb := bb.below hb2 bb.lt; replace hB := hB.trans (hb2.mono hB.size); clear hb2)
    | (go_at_call 24; refine (I1.out _ hB).mono ?_; rintro e w3 ⟨rfl, hb3⟩; replace bb := bb.below hb3 bb.lt; replace hB := hB.trans (hb3.mono hB.size); clear hb3)
    | (go_at_call 14; refine (I2.out _ hB).mono ?_; rintro e w4 ⟨rfl, hb4⟩; replace bb := bb.below hb4 bb.lt; replace hB := hB.trans (hb4.mono hB.size); clear hb4)
    | (go_at_call 13; refine (HA.out _).mono ?_; rintro e w5 ⟨rfl, hb5⟩))
  go_ret
  exact ⟨rfl, (hB.alloc hB.size _).trans (hb5.mono (by have := hB.size; simp; omega))⟩

set_option maxHeartbeats 4000000 in
set_option maxRecDepth 100000 in
theorem w_Known_long (b : Bn) (ga : Option Addr) (gc : Nat) (pa : Option Addr) (pc : Nat) (n1 : Int) (w : World) (hgl : b.gs.length ≤ maxLen) (hpl : b.ps.length ≤ maxLen) (hl : 40 < (max b.gs.length b.ps.length : Nat)) :
    Calls Try.prog 8 #[bv b ga gc pa pc, .int .u8 n1] w (Gives (.bool true) w) := by
  have HL : Hid (∀ W, Calls Try.prog 12 #[bv b ga gc pa pc] W (Gives (.bool true) W)) := fun W => by
    have := l_long b ga gc pa pc W hgl hpl
    rwa [show longB b = true by unfold longB; exact decide_eq_true hl] at this
  have HA := Lib.hid l_alive
  clear hgl hpl hl
  unfold bv at *
  go_enter Try.func8, Try.ntmps8
  go_wp2_with (first
    | (go_at_call 12; refine (HL.out _).mono ?_; rintro e w1 ⟨rfl, hb1⟩)
    | (go_at_call 13; refine (HA.out _).mono ?_; rintro e w2 ⟨rfl, hb2⟩))
  go_ret
  have hB1 : Below w.heap.size w w1 := ((Below.refl w.heap.size w).alloc (Nat.le_refl _) _).trans (hb1.mono (by first | omega | (simp; done) | (simp; omega)))
  exact ⟨rfl, hB1.trans (hb2.mono hB1.size)⟩

set_option maxHeartbeats 4000000 in
set_option maxRecDepth 100000 in
theorem w_Known_no (b : Bn) (ga : Option Addr) (gc : Nat) (pa : Option Addr) (pc : Nat) (n1 : Int) (w : World) (hg : GsAt w ga b.gs) (hp : PsAt w pa b.ps) (hgl : b.gs.length ≤ 40) (hpl : b.ps.length ≤ 40) (hv : valid b = false) :
    Calls Try.prog 8 #[bv b ga gc pa pc, .int .u8 n1] w (Gives (.bool true) w) := by
  have HL : Hid (∀ W, Calls Try.prog 12 #[bv b ga gc pa pc] W (Gives (.bool false) W)) := fun W => by
    have := l_long b ga gc pa pc W (by unfold maxLen; omega) (by unfold maxLen; omega)
    rwa [show longB b = false by unfold longB; exact decide_eq_false (by omega)] at this
  have HBn : Hid (∀ W, Below w.heap.size w W → Calls Try.prog 36 #[bv b ga gc pa pc] W (Gives (.bool false) W)) := fun W hb => by
    have := r_bean (hg.below hb) (hp.below hb) (ga := ga) (gc := gc) (pa := pa) (pc := pc) (by omega) (by omega)
    rwa [hv] at this
  have HA := Lib.hid l_alive
  clear hgl hpl hv hg hp
  unfold bv at *
  go_enter Try.func8, Try.ntmps8
  go_wp2_with (first
    | (go_at_call 12; refine (HL.out _).mono ?_; rintro e w1 ⟨rfl, hb1⟩; refine at_stop ?_))
  unfold Stop
  have bb := (Blk.new w #[.int .i64 b.V, .int .i64 b.nd, .int .i64 b.lo, .int .i64 b.hi, .slice ga b.gs.length gc, .slice pa b.ps.length pc] 27).below hb1 (by first | omega | (simp; done) | (simp; omega))
  have hB := ((Below.refl w.heap.size w).alloc (Nat.le_refl _) _).trans (hb1.mono (by first | omega | (simp; done) | (simp; omega)))
  clear hb1
  have rb := bb.cell
  go_wp2_with (first
    | (go_at_call 36; refine (HBn.out _ hB).mono ?_; rintro e w2 ⟨rfl, hb2⟩)
    | (go_at_call 13; refine (HA.out _).mono ?_; rintro e w3 ⟨rfl, hb3⟩))
  go_ret
  replace hB := hB.trans (hb2.mono hB.size)
  exact ⟨rfl, hB.trans (hb3.mono hB.size)⟩

set_option maxHeartbeats 4000000 in
set_option maxRecDepth 100000 in
theorem w_Known_full (b : Bn) (ga : Option Addr) (gc : Nat) (pa : Option Addr) (pc : Nat) (n1 : Int) (w : World) (hg : GsAt w ga b.gs) (hp : PsAt w pa b.ps) (hgl : b.gs.length ≤ 40) (hpl : b.ps.length ≤ 40) (hv : valid b = true) (hful : (b.gs.length : Int) = 4) :
    Calls Try.prog 8 #[bv b ga gc pa pc, .int .u8 n1] w (Gives (.bool true) w) := by
  have HL : Hid (∀ W, Calls Try.prog 12 #[bv b ga gc pa pc] W (Gives (.bool false) W)) := fun W => by
    have := l_long b ga gc pa pc W (by unfold maxLen; omega) (by unfold maxLen; omega)
    rwa [show longB b = false by unfold longB; exact decide_eq_false (by omega)] at this
  have HBn : Hid (∀ W, Below w.heap.size w W → Calls Try.prog 36 #[bv b ga gc pa pc] W (Gives (.bool true) W)) := fun W hb => by
    have := r_bean (hg.below hb) (hp.below hb) (ga := ga) (gc := gc) (pa := pa) (pc := pc) (by omega) (by omega)
    rwa [hv] at this
  have HA := Lib.hid l_alive
  clear hgl hpl hv hg hp
  unfold bv at *
  go_enter Try.func8, Try.ntmps8
  go_wp2_with (first
    | (go_at_call 12; refine (HL.out _).mono ?_; rintro e w1 ⟨rfl, hb1⟩; refine at_stop ?_))
  unfold Stop
  have bb := (Blk.new w #[.int .i64 b.V, .int .i64 b.nd, .int .i64 b.lo, .int .i64 b.hi, .slice ga b.gs.length gc, .slice pa b.ps.length pc] 27).below hb1 (by first | omega | (simp; done) | (simp; omega))
  have hB := ((Below.refl w.heap.size w).alloc (Nat.le_refl _) _).trans (hb1.mono (by first | omega | (simp; done) | (simp; omega)))
  clear hb1
  have rb := bb.cell
  go_wp2_with (first
    | (go_at_call 36; refine (HBn.out _ hB).mono ?_; rintro e w2 ⟨rfl, hb2⟩; replace rb := (bb.below hb2 bb.lt).cell)
    | (go_at_call 13; refine (HA.out _).mono ?_; rintro e w3 ⟨rfl, hb3⟩))
  go_ret
  replace hB := hB.trans (hb2.mono hB.size)
  exact ⟨rfl, hB.trans (hb3.mono hB.size)⟩

set_option maxHeartbeats 4000000 in
set_option maxRecDepth 100000 in
theorem w_Quiet_long (b : Bn) (ga : Option Addr) (gc : Nat) (pa : Option Addr) (pc : Nat) (n1 : Int) (w : World) (hgl : b.gs.length ≤ maxLen) (hpl : b.ps.length ≤ maxLen) (hl : 40 < (max b.gs.length b.ps.length : Nat)) :
    Calls Try.prog 9 #[bv b ga gc pa pc, .int .u8 n1] w (Gives (.bool true) w) := by
  have HL : Hid (∀ W, Calls Try.prog 12 #[bv b ga gc pa pc] W (Gives (.bool true) W)) := fun W => by
    have := l_long b ga gc pa pc W hgl hpl
    rwa [show longB b = true by unfold longB; exact decide_eq_true hl] at this
  have HA := Lib.hid l_alive
  clear hgl hpl hl
  unfold bv at *
  go_enter Try.func9, Try.ntmps9
  go_wp2_with (first
    | (go_at_call 12; refine (HL.out _).mono ?_; rintro e w1 ⟨rfl, hb1⟩)
    | (go_at_call 13; refine (HA.out _).mono ?_; rintro e w2 ⟨rfl, hb2⟩))
  go_ret
  have hB1 : Below w.heap.size w w1 := ((Below.refl w.heap.size w).alloc (Nat.le_refl _) _).trans (hb1.mono (by first | omega | (simp; done) | (simp; omega)))
  exact ⟨rfl, hB1.trans (hb2.mono hB1.size)⟩

set_option maxHeartbeats 4000000 in
set_option maxRecDepth 100000 in
theorem w_Quiet_no (b : Bn) (ga : Option Addr) (gc : Nat) (pa : Option Addr) (pc : Nat) (n1 : Int) (w : World) (hg : GsAt w ga b.gs) (hp : PsAt w pa b.ps) (hgl : b.gs.length ≤ 40) (hpl : b.ps.length ≤ 40) (hv : valid b = false) :
    Calls Try.prog 9 #[bv b ga gc pa pc, .int .u8 n1] w (Gives (.bool true) w) := by
  have HL : Hid (∀ W, Calls Try.prog 12 #[bv b ga gc pa pc] W (Gives (.bool false) W)) := fun W => by
    have := l_long b ga gc pa pc W (by unfold maxLen; omega) (by unfold maxLen; omega)
    rwa [show longB b = false by unfold longB; exact decide_eq_false (by omega)] at this
  have HBn : Hid (∀ W, Below w.heap.size w W → Calls Try.prog 36 #[bv b ga gc pa pc] W (Gives (.bool false) W)) := fun W hb => by
    have := r_bean (hg.below hb) (hp.below hb) (ga := ga) (gc := gc) (pa := pa) (pc := pc) (by omega) (by omega)
    rwa [hv] at this
  have HA := Lib.hid l_alive
  clear hgl hpl hv hg hp
  unfold bv at *
  go_enter Try.func9, Try.ntmps9
  go_wp2_with (first
    | (go_at_call 12; refine (HL.out _).mono ?_; rintro e w1 ⟨rfl, hb1⟩; refine at_stop ?_))
  unfold Stop
  have bb := (Blk.new w #[.int .i64 b.V, .int .i64 b.nd, .int .i64 b.lo, .int .i64 b.hi, .slice ga b.gs.length gc, .slice pa b.ps.length pc] 27).below hb1 (by first | omega | (simp; done) | (simp; omega))
  have hB := ((Below.refl w.heap.size w).alloc (Nat.le_refl _) _).trans (hb1.mono (by first | omega | (simp; done) | (simp; omega)))
  clear hb1
  have rb := bb.cell
  go_wp2_with (first
    | (go_at_call 36; refine (HBn.out _ hB).mono ?_; rintro e w2 ⟨rfl, hb2⟩)
    | (go_at_call 13; refine (HA.out _).mono ?_; rintro e w3 ⟨rfl, hb3⟩))
  go_ret
  replace hB := hB.trans (hb2.mono hB.size)
  exact ⟨rfl, hB.trans (hb3.mono hB.size)⟩

set_option maxHeartbeats 4000000 in
set_option maxRecDepth 100000 in
theorem w_Clash_long (b : Bn) (ga : Option Addr) (gc : Nat) (pa : Option Addr) (pc : Nat) (n1 : Int) (w : World) (hgl : b.gs.length ≤ maxLen) (hpl : b.ps.length ≤ maxLen) (hl : 40 < (max b.gs.length b.ps.length : Nat)) :
    Calls Try.prog 10 #[bv b ga gc pa pc, .int .u8 n1] w (Gives (.bool true) w) := by
  have HL : Hid (∀ W, Calls Try.prog 12 #[bv b ga gc pa pc] W (Gives (.bool true) W)) := fun W => by
    have := l_long b ga gc pa pc W hgl hpl
    rwa [show longB b = true by unfold longB; exact decide_eq_true hl] at this
  have HA := Lib.hid l_alive
  clear hgl hpl hl
  unfold bv at *
  go_enter Try.func10, Try.ntmps10
  go_wp2_with (first
    | (go_at_call 12; refine (HL.out _).mono ?_; rintro e w1 ⟨rfl, hb1⟩)
    | (go_at_call 13; refine (HA.out _).mono ?_; rintro e w2 ⟨rfl, hb2⟩))
  go_ret
  have hB1 : Below w.heap.size w w1 := ((Below.refl w.heap.size w).alloc (Nat.le_refl _) _).trans (hb1.mono (by first | omega | (simp; done) | (simp; omega)))
  exact ⟨rfl, hB1.trans (hb2.mono hB1.size)⟩

set_option maxHeartbeats 4000000 in
set_option maxRecDepth 100000 in
theorem w_Clash_no (b : Bn) (ga : Option Addr) (gc : Nat) (pa : Option Addr) (pc : Nat) (n1 : Int) (w : World) (hg : GsAt w ga b.gs) (hp : PsAt w pa b.ps) (hgl : b.gs.length ≤ 40) (hpl : b.ps.length ≤ 40) (hv : valid b = false) :
    Calls Try.prog 10 #[bv b ga gc pa pc, .int .u8 n1] w (Gives (.bool true) w) := by
  have HL : Hid (∀ W, Calls Try.prog 12 #[bv b ga gc pa pc] W (Gives (.bool false) W)) := fun W => by
    have := l_long b ga gc pa pc W (by unfold maxLen; omega) (by unfold maxLen; omega)
    rwa [show longB b = false by unfold longB; exact decide_eq_false (by omega)] at this
  have HBn : Hid (∀ W, Below w.heap.size w W → Calls Try.prog 36 #[bv b ga gc pa pc] W (Gives (.bool false) W)) := fun W hb => by
    have := r_bean (hg.below hb) (hp.below hb) (ga := ga) (gc := gc) (pa := pa) (pc := pc) (by omega) (by omega)
    rwa [hv] at this
  have HA := Lib.hid l_alive
  clear hgl hpl hv hg hp
  unfold bv at *
  go_enter Try.func10, Try.ntmps10
  go_wp2_with (first
    | (go_at_call 12; refine (HL.out _).mono ?_; rintro e w1 ⟨rfl, hb1⟩; refine at_stop ?_))
  unfold Stop
  have bb := (Blk.new w #[.int .i64 b.V, .int .i64 b.nd, .int .i64 b.lo, .int .i64 b.hi, .slice ga b.gs.length gc, .slice pa b.ps.length pc] 27).below hb1 (by first | omega | (simp; done) | (simp; omega))
  have hB := ((Below.refl w.heap.size w).alloc (Nat.le_refl _) _).trans (hb1.mono (by first | omega | (simp; done) | (simp; omega)))
  clear hb1
  have rb := bb.cell
  go_wp2_with (first
    | (go_at_call 36; refine (HBn.out _ hB).mono ?_; rintro e w2 ⟨rfl, hb2⟩)
    | (go_at_call 13; refine (HA.out _).mono ?_; rintro e w3 ⟨rfl, hb3⟩))
  go_ret
  replace hB := hB.trans (hb2.mono hB.size)
  exact ⟨rfl, hB.trans (hb3.mono hB.size)⟩

set_option maxHeartbeats 4000000 in
set_option maxRecDepth 100000 in
theorem w_More_long (b : Bn) (ga : Option Addr) (gc : Nat) (pa : Option Addr) (pc : Nat) (x1 y1 z1 : Int) (x2 y2 : Int) (z2 : Bool) (n1 : Int) (w : World) (hgl : b.gs.length ≤ maxLen) (hpl : b.ps.length ≤ maxLen) (hl : 40 < (max b.gs.length b.ps.length : Nat)) :
    Calls Try.prog 11 #[bv b ga gc pa pc, .agg #[.int .i64 x1, .int .i64 y1, .int .i64 z1], .agg #[.int .i64 x2, .int .i64 y2, .bool z2], .int .u8 n1] w (Gives (.bool true) w) := by
  have HL : Hid (∀ W, Calls Try.prog 12 #[bv b ga gc pa pc] W (Gives (.bool true) W)) := fun W => by
    have := l_long b ga gc pa pc W hgl hpl
    rwa [show longB b = true by unfold longB; exact decide_eq_true hl] at this
  have HA := Lib.hid l_alive
  clear hgl hpl hl
  unfold bv at *
  go_enter Try.func11, Try.ntmps11
  go_wp2_with (first
    | (go_at_call 12; refine (HL.out _).mono ?_; rintro e w1 ⟨rfl, hb1⟩)
    | (go_at_call 13; refine (HA.out _).mono ?_; rintro e w2 ⟨rfl, hb2⟩))
  go_ret
  have hB1 : Below w.heap.size w w1 := ((((Below.refl w.heap.size w).alloc (Nat.le_refl _) _).alloc (by first | omega | (simp; done) | (simp; omega)) _).alloc (by first | omega | (simp; done) | (simp; omega)) _).trans (hb1.mono (by first | omega | (simp; done) | (simp; omega)))
  exact ⟨rfl, hB1.trans (hb2.mono hB1.size)⟩

set_option maxHeartbeats 4000000 in
set_option maxRecDepth 100000 in
theorem w_More_no (b : Bn) (ga : Option Addr) (gc : Nat) (pa : Option Addr) (pc : Nat) (x1 y1 z1 : Int) (x2 y2 : Int) (z2 : Bool) (n1 : Int) (w : World) (hg : GsAt w ga b.gs) (hp : PsAt w pa b.ps) (hgl : b.gs.length ≤ 40) (hpl : b.ps.length ≤ 40) (hv : valid b = false) :
    Calls Try.prog 11 #[bv b ga gc pa pc, .agg #[.int .i64 x1, .int .i64 y1, .int .i64 z1], .agg #[.int .i64 x2, .int .i64 y2, .bool z2], .int .u8 n1] w (Gives (.bool true) w) := by
  have HL : Hid (∀ W, Calls Try.prog 12 #[bv b ga gc pa pc] W (Gives (.bool false) W)) := fun W => by
    have := l_long b ga gc pa pc W (by unfold maxLen; omega) (by unfold maxLen; omega)
    rwa [show longB b = false by unfold longB; exact decide_eq_false (by omega)] at this
  have HBn : Hid (∀ W, Below w.heap.size w W → Calls Try.prog 36 #[bv b ga gc pa pc] W (Gives (.bool false) W)) := fun W hb => by
    have := r_bean (hg.below hb) (hp.below hb) (ga := ga) (gc := gc) (pa := pa) (pc := pc) (by omega) (by omega)
    rwa [hv] at this
  have HA := Lib.hid l_alive
  clear hgl hpl hv hg hp
  unfold bv at *
  go_enter Try.func11, Try.ntmps11
  go_wp2_with (first
    | (go_at_call 12; refine (HL.out _).mono ?_; rintro e w1 ⟨rfl, hb1⟩; refine at_stop ?_))
  unfold Stop
  have bb := (Blk.new w #[.int .i64 b.V, .int .i64 b.nd, .int .i64 b.lo, .int .i64 b.hi, .slice ga b.gs.length gc, .slice pa b.ps.length pc] 27).alloc _ |>.alloc _ |>.below hb1 (by first | omega | (simp; done) | (simp; omega))
  have hB := ((((Below.refl w.heap.size w).alloc (Nat.le_refl _) _).alloc (by first | omega | (simp; done) | (simp; omega)) _).alloc (by first | omega | (simp; done) | (simp; omega)) _).trans (hb1.mono (by first | omega | (simp; done) | (simp; omega)))
  clear hb1
  have rb := bb.cell
  go_wp2_with (first
    | (go_at_call 36; refine (HBn.out _ hB).mono ?_; rintro e w2 ⟨rfl, hb2⟩)
    | (go_at_call 13; refine (HA.out _).mono ?_; rintro e w3 ⟨rfl, hb3⟩))
  go_ret
  replace hB := hB.trans (hb2.mono hB.size)
  exact ⟨rfl, hB.trans (hb3.mono hB.size)⟩

end Go.Proofs.Ytjbjmoghloabpaa
/- The law BeanWays walked: all votes. -/
set_option linter.unusedVariables false
set_option linter.unusedSimpArgs false
namespace Go.Proofs.Ytjbjmoghloabpaa
open Go.RowKit Go.Proofs
attribute [local irreducible] Ord.walk
theorem w_BeanWays (b : Bn) (ga : Option Addr) (gc : Nat) (pa : Option Addr) (pc : Nat) (n1 n2 : Int) (w : World) (hg : GsAt w ga b.gs) (hp : PsAt w pa b.ps) (hgl : b.gs.length ≤ maxLen) (hpl : b.ps.length ≤ maxLen) (wn1 : (Lit.int .u8 n1).wf = true) (wn2 : (Lit.int .u8 n2).wf = true) :
    Calls Try.prog 7 #[bv b ga gc pa pc, .int .u8 n1, .int .u8 n2] w (Gives (.bool true) w) := by
  by_cases hl : 40 < (max b.gs.length b.ps.length : Nat)
  · exact w_Ways_long b ga gc pa pc n1 n2 w hgl hpl hl
  · cases hv : valid b
    · exact w_Ways_no b ga gc pa pc n1 n2 w hg hp (by omega) (by omega) hv
    · have hb1 := bounds_u8 wn1
      have hb2 := bounds_u8 wn2
      obtain ⟨k, rfl⟩ : ∃ k : Nat, n1 = (k : Int) := ⟨n1.toNat, by omega⟩
      obtain ⟨j, rfl⟩ : ∃ j : Nat, n2 = (j : Int) := ⟨n2.toNat, by omega⟩
      exact w_Ways_main b ga gc pa pc k j (by omega) (by omega) w hg hp hv
end Go.Proofs.Ytjbjmoghloabpaa
