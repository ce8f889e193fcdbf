/- Parts of a proof: MvO, MvE. -/
import Derived.Test.YteeinehpneppnaaW29
import Derived.Test.YteeinehpneppnaaW42
import Derived.Test.YteeinehpneppnaaW45
/- A row of uint16 that is an argument: opened. -/
set_option linter.unusedVariables false
set_option linter.unusedSimpArgs false
namespace Go.Proofs.Yteeinehpneppnaa
open Go.RowKit Go.Proofs
open Go.ChangeShapes Go.WideShapes Go.ChangeAt Go.RowKit Go.Deep Go.Joins
instance : Inhabited { n : Int // 0 ≤ n ∧ n < 65536 } := ⟨⟨0, by omega⟩⟩
theorem bounds_u16 {n : Int} (h : (Lit.int .u16 n).wf = true) : 0 ≤ n ∧ n < 65536 := by
  simp [Lit.wf, IntKind.min, IntKind.max, IntKind.signed, IntKind.bits] at h
  omega
section
variable {H : Type} {enc : TypeId × Value → H} {w : World} {base : Nat} {spare : Nat → Bool} {held : Bool}
set_option maxRecDepth 100000 in
theorem open_row16 {r : Reach} {b0 : Nat} {v : Value} {d : DataW H} {p : List MemPlace} (hv : Value.okWide Try.prog w r b0 48 v) (h : DataW.Trod enc Try.prog w base spare held 48 v d p) :
    ∃ (l : List Int) (a : Option Addr) (c : Nat), v = .slice a l.length c ∧ RowsAt w a 1 u16c l ∧ l.length ≤ maxLen ∧ ∀ x ∈ l, 0 ≤ x ∧ x < 65536 := by
  obtain ⟨a0, n0, c0, rfl⟩ := okWide_slice Try.underlying48 hv
  obtain ⟨fuel, hf⟩ := h
  have k1 : Try.prog.cellsOf 131 = 0 + 1 := by kernel_rfl
  obtain ⟨l, a, c, e, hl, hr⟩ := trod_rowsN (α := { n : Int // 0 ≤ n ∧ n < 65536 }) 0 Try.underlying48 k1 (fun x => u16c x.1) (fun _ => rfl) (fun n cs y hy hc => by
    obtain ⟨n, e, _, hw⟩ := DataW.trod_int Try.underlying131 hy
    exact ⟨⟨n, bounds_u16 hw⟩, e⟩) hf
  simp [Value.cells] at e
  obtain ⟨rfl, rfl, rfl⟩ := e
  refine ⟨l.map (·.1), a0, c0, by simp, fun i hi => ?_, by simpa using hl, fun x hx => ?_⟩
  · have hi' : i < l.length := by simpa using hi
    obtain ⟨gb, go, h1, h2⟩ := hr i hi'
    exact ⟨gb, go, h1, fun j u hj => h2 j u (by simpa using hj)⟩
  · obtain ⟨y, _, rfl⟩ := List.mem_map.1 hx
    exact y.2
end
end Go.Proofs.Yteeinehpneppnaa
/- The law MobTrue walked: all ways. -/
set_option linter.unusedVariables false
set_option linter.unusedSimpArgs false
namespace Go.Proofs.Yteeinehpneppnaa
open Go.RowKit Go.Proofs
attribute [local irreducible] Ord.walk
set_option maxHeartbeats 4000000 in
set_option maxRecDepth 100000 in
theorem w_True_long (m : Mb) (A : Ma) (bl : List Int) (ab : Option Addr) (bc : Nat) (n2 : Int) (w : World) (l1 : m.places.length ≤ maxLen) (l2 : m.legs.length ≤ maxLen) (l3 : m.herds.length ≤ maxLen) (l4 : m.seen.length ≤ maxLen) (hl : longB m = true) :
    Calls Try.prog 5 #[mv m A, .slice ab bl.length bc, .int .u8 n2] w (Gives (.bool true) w) := by
  have HL : Hid (∀ W, Calls Try.prog 27 #[mv m A] W (Gives (.bool true) W)) := fun W => by
    have := l_long m A W l1 l2 l3 l4
    rwa [hl] at this
  have HA := Lib.hid l_alive
  clear l1 l2 l3 l4 hl
  rcases A with ⟨pa, pc, la, lc, ha, hc, sa, sc⟩
  unfold mv mcells at *
  simp only at *
  go_enter Try.func5, Try.ntmps5
  go_wp2_with (first
    | (go_at_call 27; refine (HL.out _).mono ?_; rintro e w1 ⟨rfl, hb1⟩)
    | (go_at_call 12; refine (HA.out _).mono ?_; rintro e w2 ⟨rfl, hb2⟩))
  go_ret
  have hB1 : Below w.heap.size w w1 := ((Below.refl w.heap.size w).alloc (Nat.le_refl _) _).trans (hb1.mono (by first | omega | (simp; done) | (simp; omega)))
  exact ⟨rfl, hB1.trans (hb2.mono hB1.size)⟩
set_option maxHeartbeats 4000000 in
set_option maxRecDepth 100000 in
theorem w_True_no (m : Mb) (A : Ma) (bl : List Int) (ab : Option Addr) (bc : Nat) (n2 : Int) (w : World) (hm : MbAt w m A) (hl : longB m = false) (hv : validM m = false) :
    Calls Try.prog 5 #[mv m A, .slice ab bl.length bc, .int .u8 n2] w (Gives (.bool true) w) := by
  have hM := long_len hl
  have HL : Hid (∀ W, Calls Try.prog 27 #[mv m A] W (Gives (.bool false) W)) := fun W => by
    have := l_long m A W (by have := hM.places; unfold maxLen; omega) (by have := hM.legs; unfold maxLen; omega) (by have := hM.herds; unfold maxLen; omega) (by have := hM.seen; unfold maxLen; omega)
    rwa [hl] at this
  have HBn : Hid (∀ W, Below w.heap.size w W → Calls Try.prog 28 #[mv m A] W (Gives (.bool false) W)) := fun W hb => by
    have := r_mob m A hM W (hm.below hb)
    rwa [hv] at this
  have HA := Lib.hid l_alive
  clear hl hv hm hM
  rcases A with ⟨pa, pc, la, lc, ha, hc, sa, sc⟩
  unfold mv mcells at *
  simp only at *
  go_enter Try.func5, Try.ntmps5
  go_wp2_with (first
    | (go_at_call 27; refine (HL.out _).mono ?_; rintro e w1 ⟨rfl, hb1⟩; refine at_stop ?_))
  unfold Stop
  have bb := (Blk.new w #[.slice pa m.places.length pc, .slice la m.legs.length lc, .slice ha m.herds.length hc, .slice sa m.seen.length sc] 27).below hb1 (by first | omega | (simp; done) | (simp; omega))
  have hB := ((Below.refl w.heap.size w).alloc (Nat.le_refl _) _).trans (hb1.mono (by first | omega | (simp; done) | (simp; omega)))
  clear hb1
  have rb := bb.cell
  go_wp2_with (first
    | (go_at_call 28; refine (HBn.out _ hB).mono ?_; rintro e w2 ⟨rfl, hb2⟩)
    | (go_at_call 12; refine (HA.out _).mono ?_; rintro e w3 ⟨rfl, hb3⟩))
  go_ret
  replace hB := hB.trans (hb2.mono hB.size)
  exact ⟨rfl, hB.trans (hb3.mono hB.size)⟩
theorem w_MobTrue (m : Mb) (A : Ma) (bl : List Int) (ab : Option Addr) (bc : Nat) (n2 : Int) (w : World) (hm : MbAt w m A) (l1 : m.places.length ≤ maxLen) (l2 : m.legs.length ≤ maxLen) (l3 : m.herds.length ≤ maxLen) (l4 : m.seen.length ≤ maxLen) (hbr : RowsAt w ab 1 u16c bl) (hbl : bl.length ≤ maxLen) (hbx : ∀ x ∈ bl, 0 ≤ x ∧ x < 65536) (wn2 : (Lit.int .u8 n2).wf = true) :
    Calls Try.prog 5 #[mv m A, .slice ab bl.length bc, .int .u8 n2] w (Gives (.bool true) w) := by
  cases hl : longB m
  · cases hv : validM m
    · exact w_True_no m A bl ab bc n2 w hm hl hv
    · have hb2 : 0 ≤ n2 ∧ n2 < 256 := by
        have := bounds_u8 wn2
        omega
      obtain ⟨k2, rfl⟩ : ∃ k : Nat, n2 = (k : Int) := ⟨n2.toNat, by omega⟩
      exact w_True_main m A bl ab bc k2 (by omega) w hm hv hbr hbl hbx
  · exact w_True_long m A bl ab bc n2 w l1 l2 l3 l4 hl
end Go.Proofs.Yteeinehpneppnaa
