/- shearworksref01: From, Mob (validity). -/
import Derived.Test.YteeinehpneppnaaGreatMbA
set_option linter.unusedVariables false
set_option linter.unusedSimpArgs false
namespace Go.Proofs.YteeinehpneppnaaGreat
open Go.RowKit Go.Proofs
theorem RowsAt.get2 {w : World} {a : Option Addr} {l : List (Int × Int)} (h : RowsAt w a 2 spc l) {i : Nat} (hi : i < l.length) :
    ∃ gb go, a = some ⟨gb, go, none⟩ ∧ w.cell? ⟨gb, go + i * 2, none⟩ = some (.int .i64 l[i].1) ∧ w.cell? ⟨gb, go + i * 2 + 1, none⟩ = some (.int .i64 l[i].2) := by
  obtain ⟨gb, go, h0, h1⟩ := h i hi
  exact ⟨gb, go, h0, h1 0 _ rfl, h1 1 _ rfl⟩
theorem RowsAt.getP {w : World} {a : Option Addr} {l : List (Bool × Int)} (h : RowsAt w a 2 plc l) {i : Nat} (hi : i < l.length) :
    ∃ gb go, a = some ⟨gb, go, none⟩ ∧ w.cell? ⟨gb, go + i * 2, none⟩ = some (.bool l[i].1) ∧ w.cell? ⟨gb, go + i * 2 + 1, none⟩ = some (.int .i64 l[i].2) := by
  obtain ⟨gb, go, h0, h1⟩ := h i hi
  exact ⟨gb, go, h0, h1 0 _ rfl, h1 1 _ rfl⟩
theorem RowsAt.get4 {w : World} {a : Option Addr} {l : List (Int × Int × Int × Int)} (h : RowsAt w a 4 i4c l) {i : Nat} (hi : i < l.length) :
    ∃ gb go, a = some ⟨gb, go, none⟩ ∧ w.cell? ⟨gb, go + i * 4, none⟩ = some (.int .i64 l[i].1) ∧ w.cell? ⟨gb, go + i * 4 + 1, none⟩ = some (.int .i64 l[i].2.1) ∧ w.cell? ⟨gb, go + i * 4 + 2, none⟩ = some (.int .i64 l[i].2.2.1) ∧ w.cell? ⟨gb, go + i * 4 + 3, none⟩ = some (.int .i64 l[i].2.2.2) := by
  obtain ⟨gb, go, h0, h1⟩ := h i hi
  exact ⟨gb, go, h0, h1 0 _ rfl, h1 1 _ rfl, h1 2 _ rfl, h1 3 _ rfl⟩
theorem inB_of {n lo hi : Int} (h : inB n lo hi = true) : lo ≤ n ∧ n ≤ hi := by simpa [inB] using h
theorem inB_no {n lo hi : Int} (h : inB n lo hi = false) : ¬ (lo ≤ n ∧ n ≤ hi) := by simpa [inB] using h
/-- Where a mob starts. -/
def startI (m : Mb) (h : Int) : Int := ((m.herds[h.toNat]?).getD (0, 0, 0, 0)).1
def fromB (m : Mb) (h n : Int) : Bool := inB h 0 (m.herds.length - 1) && (inB n 0 (m.places.length - 1) && decide (startI m h ≤ n))
/-- No list of a way is longer than a statement bears. -/
structure Mlen (m : Mb) : Prop where
  places : m.places.length ≤ 40
  legs : m.legs.length ≤ 40
  herds : m.herds.length ≤ 40
  seen : m.seen.length ≤ 40
set_option maxHeartbeats 4000000 in
set_option maxRecDepth 100000 in
theorem r_from (m : Mb) (A : Ma) (h n : Int) (hl : Mlen m) (w : World) (hm : MbAt w m A) :
    Calls Tryz.prog 35 #[mv m A, .int .i64 h, .int .i64 n] w (Gives (.bool (fromB m h n)) w) := by
  have H1 := Lib.hid (fun W => r_herd m A h (by have := hl.herds; unfold maxLen; omega) W)
  have H2 := Lib.hid (fun W => r_place m A n (by have := hl.places; unfold maxLen; omega) W)
  have HR : Hid (fromB m h n = (inB h 0 (m.herds.length - 1) && (inB n 0 (m.places.length - 1) && decide (startI m h ≤ n)))) := rfl
  have hh := hm.herds
  generalize fromB m h n = R at *
  cases h1 : inB h 0 (m.herds.length - 1)
  · rw [h1] at H1 HR
    unfold mv mcells at *
    go_enter Tryz.func35, Tryz.ntmps35
    go_wp2_with (first
      | (go_at_call 44; refine (H1.out _).mono ?_; rintro e w1 ⟨rfl, hb1⟩))
    go_ret
    exact ⟨by rw [HR.out]; rfl, ((Below.refl _ _).alloc (Nat.le_refl _) _).trans (hb1.mono (by first | omega | (simp; done) | (simp; omega)))⟩
  · have h1' := inB_of h1
    obtain ⟨i, rfl⟩ : ∃ i : Nat, h = (i : Int) := ⟨h.toNat, by omega⟩
    have hi : i < m.herds.length := by omega
    have hs : startI m (i : Int) = m.herds[i].1 := by unfold startI; simp [hi]
    obtain ⟨gb, go, e0, e1, e2, e3, e4⟩ := hh.get4 hi
    have hgb : gb < w.heap.size := World.block_lt_of_cell? w _ e1
    cases h2 : inB n 0 (m.places.length - 1)
    · rw [h1] at H1 HR
      rw [h2] at H2 HR
      unfold mv mcells at *
      clear e1 e2 e3 e4 e0 hs h1 h2
      go_enter Tryz.func35, Tryz.ntmps35
      go_wp2_with (first
        | (go_at_call 44; refine (H1.out _).mono ?_; rintro e w1 ⟨rfl, hb1⟩; obtain ⟨c1, f1, z1⟩ := after hb1 (World.size_alloc _ _))
        | (go_at_call 83; refine (H2.out _).mono ?_; rintro e w2 ⟨rfl, hb2⟩; obtain ⟨c2, f2, z2⟩ := after hb2 rfl))
      go_ret
      exact ⟨by rw [HR.out]; rfl, (((Below.refl _ _).alloc (Nat.le_refl _) _).trans (hb1.mono (by first | omega | (simp; done) | (simp; omega)))).trans (hb2.mono (by omega))⟩
    · rw [h1] at H1 HR
      rw [h2] at H2 HR
      rw [hs] at HR
      rcases A with ⟨pa, pc, la, lc, ha, hc, sa, sc⟩
      simp only at e0
      subst e0
      unfold mv mcells at *
      simp only at *
      clear e2 e3 e4 hs h1 h2 hh hm
      generalize m.herds[i].1 = st at *
      have hli : (m.herds.length : Int) ≤ 40 := by have := hl.herds; omega
      have hii : (i : Int) < (m.herds.length : Int) := by omega
      clear h1'
      go_enter Tryz.func35, Tryz.ntmps35
      go_wp2_with (first
        | (go_at_call 44; refine (H1.out _).mono ?_; rintro e w1 ⟨rfl, hb1⟩; obtain ⟨c1, f1, z1⟩ := after hb1 (World.size_alloc _ _))
        | (go_at_call 83; refine (H2.out _).mono ?_; rintro e w2 ⟨rfl, hb2⟩; obtain ⟨c2, f2, z2⟩ := after hb2 rfl))
      go_ret
      exact ⟨ret_bool (by rw [HR.out]; simp), (((Below.refl _ _).alloc (Nat.le_refl _) _).trans (hb1.mono (by first | omega | (simp; done) | (simp; omega)))).trans (hb2.mono (by omega))⟩
end Go.Proofs.YteeinehpneppnaaGreat
