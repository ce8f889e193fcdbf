/- Parts of a proof: MxM, MxO. -/
import Derived.Test.YteeinehpneppnaaQ39
import Derived.Test.YteeinehpneppnaaQ30
import Derived.Carry
set_option linter.unusedVariables false
set_option linter.unusedSimpArgs false
namespace Go.Proofs.Yteeinehpneppnaa
open Go.RowKit Go.Proofs
attribute [local irreducible] Ord.walk
set_option maxHeartbeats 4000000 in
set_option maxRecDepth 100000 in
theorem w_More_long (m : Mb) (A : Ma) (s1 s2 s3 s4 n1 n2 n3 : Int) (w : World) (l1 : m.places.length ≤ maxLen) (l2 : m.legs.length ≤ maxLen) (l3 : m.herds.length ≤ maxLen) (l4 : m.seen.length ≤ maxLen) (hl : longB m = true) :
    Calls Try.prog 10 #[mv m A, .agg #[.int .i64 s1, .int .i64 s2, .int .i64 s3, .int .i64 s4], .int .u8 n1, .int .u8 n2, .int .u8 n3] w (Gives (.bool true) w) := by
  have HL : Hid (∀ W, Calls Try.prog 27 #[mv m A] W (Gives (.bool true) W)) := fun W => by
    have := l_long m A W l1 l2 l3 l4
    rwa [hl] at this
  have HA := Lib.hid l_alive
  clear l1 l2 l3 l4 hl
  rcases A with ⟨pa, pc, la, lc, ha, hc, sa, sc⟩
  unfold mv mcells at *
  simp only at *
  go_enter Try.func10, Try.ntmps10
  go_wp2_with (first
    | (go_at_call 27; refine (HL.out _).mono ?_; rintro e w1 ⟨rfl, hb1⟩)
    | (go_at_call 12; refine (HA.out _).mono ?_; rintro e w2 ⟨rfl, hb2⟩))
  go_ret
  have hB1 : Below w.heap.size w w1 := (show Below w.heap.size w _ from by (repeat (first | assumption | exact Below.refl _ _ | refine Below.drew ?_ | refine Below.alloc ?_ (by first | omega | (simp; done) | (simp; omega)) _ | refine Below.setCell ?_ (by first | omega | (simp; done) | (simp; omega)) _ | refine Below.trans ?_ (Below.mono (by assumption) (by first | omega | (simp; done) | (simp; omega)))))).trans (hb1.mono (by first | omega | (simp; done) | (simp; omega)))
  exact ⟨rfl, hB1.trans (hb2.mono hB1.size)⟩
set_option maxHeartbeats 4000000 in
set_option maxRecDepth 100000 in
theorem w_More_no (m : Mb) (A : Ma) (s1 s2 s3 s4 n1 n2 n3 : Int) (w : World) (hm : MbAt w m A) (hl : longB m = false) (hv : validM m = false) :
    Calls Try.prog 10 #[mv m A, .agg #[.int .i64 s1, .int .i64 s2, .int .i64 s3, .int .i64 s4], .int .u8 n1, .int .u8 n2, .int .u8 n3] w (Gives (.bool true) w) := by
  have hM := long_len hl
  have HL : Hid (∀ W, Calls Try.prog 27 #[mv m A] W (Gives (.bool false) W)) := fun W => by
    have := l_long m A W (by have := hM.places; unfold maxLen; omega) (by have := hM.legs; unfold maxLen; omega) (by have := hM.herds; unfold maxLen; omega) (by have := hM.seen; unfold maxLen; omega)
    rwa [hl] at this
  have HBn : Hid (∀ W, Below w.heap.size w W → Calls Try.prog 28 #[mv m A] W (Gives (.bool false) W)) := fun W hb => by
    have := r_mob m A hM W (hm.below hb)
    rwa [hv] at this
  have HA := Lib.hid l_alive
  clear hl hv hm hM
  rcases A with ⟨pa, pc, la, lc, ha, hc, sa, sc⟩
  unfold mv mcells at *
  simp only at *
  go_enter Try.func10, Try.ntmps10
  go_wp2_with (first
    | (go_at_call 27; refine (HL.out _).mono ?_; rintro e w1 ⟨rfl, hb1⟩; refine at_stop ?_))
  unfold Stop
  have bb := ((Blk.new w #[.slice pa m.places.length pc, .slice la m.legs.length lc, .slice ha m.herds.length hc, .slice sa m.seen.length sc] 27).alloc (.cells #[.int .i64 s1, .int .i64 s2, .int .i64 s3, .int .i64 s4] 64)).below hb1 (by first | omega | (simp; done) | (simp; omega))
  have hB := (show Below w.heap.size w _ from by (repeat (first | assumption | exact Below.refl _ _ | refine Below.drew ?_ | refine Below.alloc ?_ (by first | omega | (simp; done) | (simp; omega)) _ | refine Below.setCell ?_ (by first | omega | (simp; done) | (simp; omega)) _ | refine Below.trans ?_ (Below.mono (by assumption) (by first | omega | (simp; done) | (simp; omega)))))).trans (hb1.mono (by first | omega | (simp; done) | (simp; omega)))
  clear hb1
  have rb := bb.cell
  go_wp2_with (first
    | (go_at_call 28; refine (HBn.out _ hB).mono ?_; rintro e w2 ⟨rfl, hb2⟩)
    | (go_at_call 12; refine (HA.out _).mono ?_; rintro e w3 ⟨rfl, hb3⟩))
  go_ret
  replace hB := hB.trans (hb2.mono hB.size)
  exact ⟨rfl, hB.trans (hb3.mono hB.size)⟩
set_option maxHeartbeats 4000000 in
set_option maxRecDepth 100000 in
theorem w_More_none (m : Mb) (A : Ma) (s1 s2 s3 s4 n1 n2 n3 : Int) (w : World) (hm : MbAt w m A) (hl : longB m = false) (hv : validM m = true) (hz : m.herds.length = 0) :
    Calls Try.prog 10 #[mv m A, .agg #[.int .i64 s1, .int .i64 s2, .int .i64 s3, .int .i64 s4], .int .u8 n1, .int .u8 n2, .int .u8 n3] w (Gives (.bool true) w) := by
  have hM := long_len hl
  have HL : Hid (∀ W, Calls Try.prog 27 #[mv m A] W (Gives (.bool false) W)) := fun W => by
    have := l_long m A W (by have := hM.places; unfold maxLen; omega) (by have := hM.legs; unfold maxLen; omega) (by have := hM.herds; unfold maxLen; omega) (by have := hM.seen; unfold maxLen; omega)
    rwa [hl] at this
  have HBn : Hid (∀ W, Below w.heap.size w W → Calls Try.prog 28 #[mv m A] W (Gives (.bool true) W)) := fun W hb => by
    have := r_mob m A hM W (hm.below hb)
    rwa [hv] at this
  have HA := Lib.hid l_alive
  clear hl hv hm hM
  rcases A with ⟨pa, pc, la, lc, ha, hc, sa, sc⟩
  have hz2 : ((m.herds.length : Int) == 0) = true := by rw [hz]; rfl
  clear hz
  unfold mv mcells at *
  simp only at *
  go_enter Try.func10, Try.ntmps10
  go_wp2_with (first
    | (go_at_call 27; refine (HL.out _).mono ?_; rintro e w1 ⟨rfl, hb1⟩; refine at_stop ?_))
  unfold Stop
  have bb := ((Blk.new w #[.slice pa m.places.length pc, .slice la m.legs.length lc, .slice ha m.herds.length hc, .slice sa m.seen.length sc] 27).alloc (.cells #[.int .i64 s1, .int .i64 s2, .int .i64 s3, .int .i64 s4] 64)).below hb1 (by first | omega | (simp; done) | (simp; omega))
  have hB := (show Below w.heap.size w _ from by (repeat (first | assumption | exact Below.refl _ _ | refine Below.drew ?_ | refine Below.alloc ?_ (by first | omega | (simp; done) | (simp; omega)) _ | refine Below.setCell ?_ (by first | omega | (simp; done) | (simp; omega)) _ | refine Below.trans ?_ (Below.mono (by assumption) (by first | omega | (simp; done) | (simp; omega)))))).trans (hb1.mono (by first | omega | (simp; done) | (simp; omega)))
  clear hb1
  have rb := bb.cell
  go_wp2_with (first
    | (go_at_call 28; refine (HBn.out _ hB).mono ?_; rintro e w2 ⟨rfl, hb2⟩; replace bb := bb.below hb2 bb.lt; replace rb := bb.cell)
    | (go_at_call 12; refine (HA.out _).mono ?_; rintro e w3 ⟨rfl, hb3⟩))
  go_ret
  replace hB := hB.trans (hb2.mono hB.size)
  exact ⟨rfl, hB.trans (hb3.mono hB.size)⟩
theorem w_MobMore (m : Mb) (A : Ma) (s1 s2 s3 s4 n1 n2 n3 : Int) (w : World) (hm : MbAt w m A) (l1 : m.places.length ≤ maxLen) (l2 : m.legs.length ≤ maxLen) (l3 : m.herds.length ≤ maxLen) (l4 : m.seen.length ≤ maxLen) (wn1 : (Lit.int .u8 n1).wf = true) (wn2 : (Lit.int .u8 n2).wf = true) (wn3 : (Lit.int .u8 n3).wf = true) :
    Calls Try.prog 10 #[mv m A, .agg #[.int .i64 s1, .int .i64 s2, .int .i64 s3, .int .i64 s4], .int .u8 n1, .int .u8 n2, .int .u8 n3] w (Gives (.bool true) w) := by
  cases hl : longB m
  · cases hv : validM m
    · exact w_More_no m A s1 s2 s3 s4 n1 n2 n3 w hm hl hv
    · rcases Nat.eq_zero_or_pos m.herds.length with hz | hz
      · exact w_More_none m A s1 s2 s3 s4 n1 n2 n3 w hm hl hv hz
      · have hb1 : 0 ≤ n1 ∧ n1 < 256 := by
          have := bounds_u8 wn1
          omega
        obtain ⟨k1, rfl⟩ : ∃ k : Nat, n1 = (k : Int) := ⟨n1.toNat, by omega⟩
        have hb2 : 0 ≤ n2 ∧ n2 < 256 := by
          have := bounds_u8 wn2
          omega
        obtain ⟨k2, rfl⟩ : ∃ k : Nat, n2 = (k : Int) := ⟨n2.toNat, by omega⟩
        have hb3 : 0 ≤ n3 ∧ n3 < 256 := by
          have := bounds_u8 wn3
          omega
        obtain ⟨k3, rfl⟩ : ∃ k : Nat, n3 = (k : Int) := ⟨n3.toNat, by omega⟩
        exact w_More_main m A (s1, s2, s3, s4) k1 k2 k3 (by omega) (by omega) (by omega) w hm hv hz
  · exact w_More_long m A s1 s2 s3 s4 n1 n2 n3 w l1 l2 l3 l4 hl
end Go.Proofs.Yteeinehpneppnaa
set_option linter.unusedVariables false
set_option linter.unusedSimpArgs false
namespace Go.Proofs.Yteeinehpneppnaa
open Go.RowKit Go.Proofs
open Go.ChangeShapes Go.WideShapes Go.ChangeAt Go.RowKit Go.Deep Go.Joins
set_option maxRecDepth 100000 in
theorem open_seen {H : Type} {enc : TypeId × Value → H} {w : World} {base : Nat} {spare : Nat → Bool} {held : Bool} {r : Reach} {b0 : Nat} {v : Value} {d : DataW H} {p : List MemPlace} (hv : Value.okWide Try.prog w r b0 64 v) (h : DataW.Trod enc Try.prog w base spare held 64 v d p) :
    ∃ s1 s2 s3 s4 : Int, v = .agg #[.int .i64 s1, .int .i64 s2, .int .i64 s3, .int .i64 s4] := by
  have kC : Try.prog.cellsOf 64 = 4 := by kernel_rfl
  obtain ⟨cs, rfl, hsz⟩ := okWide_struct Try.underlying64 hv
  obtain ⟨fuel, hf⟩ := h
  obtain ⟨cl⟩ := cs
  rw [kC] at hsz
  obtain ⟨⟨a, b, c, e⟩, ha⟩ := trod_seenM hf (show cl.length = 4 from hsz)
  have ha' : cl = i4c (a, b, c, e) := ha
  subst ha'
  exact ⟨a, b, c, e, rfl⟩
section
variable {H : Type} {enc : TypeId × Value → H} {P : Program} {w : World} {base : Nat} {spare : Nat → Bool} {held : Bool}
/-- Five parameters. -/
theorem trodAll_five {t0 t1 t2 t3 t4 : TypeId} {args : Array Value} {ds : List (DataW H)} {ps : List MemPlace} (h : DataW.TrodAll enc P w base spare held [t0, t1, t2, t3, t4] args.toList ds ps) :
    ∃ v0 v1 v2 v3 v4 d0 d1 d2 d3 d4 p0 p1 p2 p3 p4, args = #[v0, v1, v2, v3, v4] ∧ ds = [d0, d1, d2, d3, d4] ∧ ps = p0 ++ p1 ++ p2 ++ p3 ++ p4 ∧ DataW.Trod enc P w base spare held t0 v0 d0 p0 ∧ DataW.Trod enc P w base spare held t1 v1 d1 p1 ∧ DataW.Trod enc P w base spare held t2 v2 d2 p2 ∧ DataW.Trod enc P w base spare held t3 v3 d3 p3 ∧ DataW.Trod enc P w base spare held t4 v4 d4 p4 := by
  obtain ⟨v0, vs0, d0, e0, p0, q0, hargs, rfl, rfl, h0, r0⟩ := trodAll_cons h
  obtain ⟨v1, vs1, d1, e1, p1, q1, rfl, rfl, rfl, h1, r1⟩ := trodAll_cons r0
  obtain ⟨v2, vs2, d2, e2, p2, q2, rfl, rfl, rfl, h2, r2⟩ := trodAll_cons r1
  obtain ⟨v3, vs3, d3, e3, p3, q3, rfl, rfl, rfl, h3, r3⟩ := trodAll_cons r2
  obtain ⟨v4, vs4, d4, e4, p4, q4, rfl, rfl, rfl, h4, r4⟩ := trodAll_cons r3
  obtain ⟨rfl, rfl, rfl⟩ := trodAll_nil r4
  exact ⟨v0, v1, v2, v3, v4, d0, d1, d2, d3, d4, p0, p1, p2, p3, p4, by cases args; simp_all, rfl, by simp, h0, h1, h2, h3, h4⟩
theorem trodAll_mk5 {t0 t1 t2 t3 t4 : TypeId} {v0 v1 v2 v3 v4 : Value} {d0 d1 d2 d3 d4 : DataW H} {p0 p1 p2 p3 p4 : List MemPlace} (h0 : DataW.Trod enc P w base spare held t0 v0 d0 p0) (h1 : DataW.Trod enc P w base spare held t1 v1 d1 p1) (h2 : DataW.Trod enc P w base spare held t2 v2 d2 p2) (h3 : DataW.Trod enc P w base spare held t3 v3 d3 p3) (h4 : DataW.Trod enc P w base spare held t4 v4 d4 p4) :
    DataW.TrodAll enc P w base spare held [t0, t1, t2, t3, t4] [v0, v1, v2, v3, v4] [d0, d1, d2, d3, d4] (p0 ++ (p1 ++ (p2 ++ (p3 ++ p4)))) := ⟨p0, p1 ++ (p2 ++ (p3 ++ p4)), h0, trodAll_mk4 h1 h2 h3 h4, rfl⟩
end
end Go.Proofs.Yteeinehpneppnaa
