/- Package mob: There, where there is a truth. -/
import Derived.Test.YteeinehpneppnaaGreatMoS
import Derived.Deep.CutRange
set_option linter.unusedVariables false
set_option linter.unusedSimpArgs false
namespace Go.Proofs.YteeinehpneppnaaGreat
open Go.RowKit Go.Proofs
attribute [local irreducible] Ord.walk
theorem or_pow6 : ∀ a < 64, ∀ i < 6, a < 2 ^ i → bits .or .i64 ((a : Nat) : Int) ((2 ^ i : Nat) : Int) = ((a + 2 ^ i : Nat) : Int) := by decide +kernel
/-- The set of the numbers of which something is so. -/
def setN (f : Nat → Bool) : Nat → Nat
  | 0 => 0
  | k + 1 => if f k = true then setN f k + 2 ^ k else setN f k
theorem setN_lt (f : Nat → Bool) : ∀ k, setN f k < 2 ^ k
  | 0 => by simp [setN]
  | k + 1 => by
    have ih := setN_lt f k
    simp only [setN]
    rw [Nat.pow_succ]
    split <;> omega
/-- When a mob comes to the shed. -/
def thereJ (m : Mb) (k : Nat) : Int × Int := joinL ((toldL m (everyN m)).map fun L => comeS m L k (shedN m))
set_option maxHeartbeats 4000000 in
set_option maxRecDepth 100000 in
theorem m_There3 {m : Mb} {A : Ma} {pa : Option Addr} {pc wp mb : Nat} {W0 : World} (hv : validM m = true) (hO : Opened W0 wp m A pa pc mb) {L : List Int} (hL : L ∈ prodL m.legs) (i : Nat) (hi : i < m.herds.length) (n0 n1 : Nat) (w : World) (hW : Way W0 mb m w)
    (b0 : Blk w n0 #[.pointer (some ⟨wp, 0, none⟩)] 51) (b1 : Blk w n1 #[.int .i64 (i : Int)] 3) :
    Calls Tryz.prog 64 #[.agg (legC L), .pointer (some ⟨n0, 0, none⟩), .pointer (some ⟨n1, 0, none⟩)] w (GivesW W0 mb m (spv (comeS m L i (shedN m))) w) := by
  have hmb := hO.mb_lt
  have hsz := hW.2.size
  obtain ⟨W2, hW2⟩ : ∃ W2, W2 = (w.alloc (.cells (legC L) 58)).alloc (.cells #[.int .i64 0, .int .i64 0] 31) := ⟨_, rfl⟩
  have hB2 : Below w.heap.size w W2 := by rw [hW2]; (repeat (first | assumption | exact Below.refl _ _ | refine Below.drew ?_ | refine Below.alloc ?_ (by first | omega | (simp; done) | (simp; omega)) _ | refine Below.setCell ?_ (by first | omega | (simp; done) | (simp; omega)) _ | refine Below.trans ?_ (Below.mono (by assumption) (by first | omega | (simp; done) | (simp; omega)))))
  have bl : Blk W2 w.heap.size (legC L) 58 := by rw [hW2]; exact (Blk.new _ _ _).alloc _
  have bs : Blk W2 (w.heap.size + 1) #[.int .i64 0, .int .i64 0] 31 := by rw [hW2]; exact Blk.new' _ _ _ _ (by simp)
  have hWy2 : Way W0 mb m W2 := hW.below hB2 hmb
  have HC := Lib.hid (m_shedW hv hO hL i hi W2 hWy2)
  have r0 := (b0.below hB2 b0.lt).cell
  have r1 := (b1.below hB2 b1.lt).cell
  have hL2 : Lets (fun k _ => k = mb) w W2 := Lets.of_below hB2
  generalize comeS m L i (shedN m) = cs at *
  obtain ⟨c1, c2⟩ := cs
  have hs2 : W2.heap.size = w.heap.size + 2 := by rw [hW2]; simp
  clear hv hL hi b0 b1
  go_enter Tryz.func64, Tryz.ntmps64
  go_upto_region 1 with fail
  rw [← hW2]
  clear hW2
  go_wp2_with (first
    | (refine wpList_load_blk 58 (.tmp 3) agg_legs rfl rfl rfl bl rfl ?_)
    | (go_at_call 61; refine HC.out.mono ?_; rintro e w6 ⟨rfl, hW6, hl6⟩; have b26 := hl6.blk bs (by omega))
    | (refine wpList_store_blk 31 (.tmp 4) (.tmp 8) agg_span rfl rfl rfl rfl b26 rfl rfl (by simp [Value.oneCell']) ?_; intro w8 h8))
  (try simp only [Exit.inBlock, Exit.then])
  have hl8 : Lets (fun k _ => k = w.heap.size + 1) w6 w8 := (Lets.refl _ _).rowed h8 rfl
  refine bodyPost_ret (v := spv (c1, c2)) (results_cell_blk rfl _ agg_span rfl h8.blk rfl) rfl ⟨rfl, hW6.lets hl8 hmb (fun _ _ e => by omega), (hL2.trans hl6).next hl8 (fun i hi hx => by omega)⟩
theorem there_hull {m : Mb} {A : Ma} {pa : Option Addr} {pc wp mb : Nat} {W0 : World} (hv : validM m = true) (hO : Opened W0 wp m A pa pc mb) (k : Nat) (hk : k < m.herds.length) (z7 t10 tb : Nat) (W : World) (hW : Way W0 mb m W) (hT : ToldAt W tb wp (everyN m)) (htb : W0.heap.size ≤ tb)
    (b7 : Blk W z7 #[.pointer (some ⟨wp, 0, none⟩)] 51) (b10 : Blk W t10 #[.int .i64 (k : Int)] 3) (h7 : z7 ≠ mb) (h10 : t10 ≠ mb) :
    Calls Tryz.prog 29 #[toldF tb, .agg #[.func (.func 64) #[] #[.pointer (some ⟨z7, 0, none⟩), .pointer (some ⟨t10, 0, none⟩)]]] W (GivesW W0 mb m (spv (thereJ m k)) W) := by
  have hE5 := everyN_lt hv
  have h7l := b7.lt
  have h10l := b10.lt
  exact m_hull hv hO (everyN m) (by omega) tb W hW hT htb 64 #[.pointer (some ⟨z7, 0, none⟩), .pointer (some ⟨t10, 0, none⟩)] (fun L => comeS m L k (shedN m))
    (fun W => Blk W z7 #[.pointer (some ⟨wp, 0, none⟩)] 51 ∧ Blk W t10 #[.int .i64 (k : Int)] 3) ⟨b7, b10⟩
    (fun X Y h hl => ⟨hl.blk h.1 (by omega), hl.blk h.2 (by omega)⟩)
    (fun args W => Tryz.call64 args W)
    (fun L hL W hw hc => m_There3 hv hO (List.mem_filter.1 hL).1 k hk _ _ W hw hc.1 hc.2)
end Go.Proofs.YteeinehpneppnaaGreat
