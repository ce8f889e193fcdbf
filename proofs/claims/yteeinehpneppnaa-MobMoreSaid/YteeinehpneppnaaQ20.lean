/- Parts of a proof: Stab, StabI, StabB. -/
import Derived.Sort.Defs
import Derived.Sort.Lot0
import Derived.Test.YteeinehpneppnaaQ04
import Derived.Shelf.SlSortCmp.Kit1
import Derived.Deep.LoopGhost
import Derived.Lib.Hide
set_option linter.unusedVariables false
set_option linter.unusedSimpArgs false
namespace Go.Proofs.Yteeinehpneppnaa.Stab
open Go.Proofs Go.Sort

/-- How a row is read, and how two places of it are exchanged. -/
structure Ops (S α : Type) where
  get : S → Nat → α
  sw : S → Nat → Nat → S
section
variable {S α : Type} (O : Ops S α)

/-- Exchange of two ranges of k places. -/
def swr (a b : Nat) (d : S) : Nat → S
  | 0 => d
  | k + 1 => O.sw (swr a b d k) (a + k) (b + k)
/-- The loop of rotate. -/
def rot (m : Nat) : Nat → Nat → Nat → S → S
  | 0, _, _, d => d
  | f + 1, i, j, d => if i = j then swr O (m - i) m d i else if j < i then rot m f (i - j) j (swr O (m - i) m d j) else rot m f i (j - i) (swr O (m - i) (m + j - i) d i)
def rotate (a m b : Nat) (d : S) : S := rot O m (b - a) (m - a) (b - m) d
/-- The search by halves. -/
def bs (p : Nat → Bool) : Nat → Nat → Nat → Nat
  | 0, i, _ => i
  | f + 1, i, j => if i < j then (if p ((i + j) / 2) then bs p f ((i + j) / 2 + 1) j else bs p f i ((i + j) / 2)) else i
theorem bs_bd (p : Nat → Bool) : ∀ (f i j : Nat), i ≤ j → i ≤ bs p f i j ∧ bs p f i j ≤ j
  | 0, _, _, h => ⟨Nat.le_refl _, h⟩
  | f + 1, i, j, h => by
    rw [bs]
    split
    · split
      · have := bs_bd p f ((i + j) / 2 + 1) j (by omega); omega
      · have := bs_bd p f i ((i + j) / 2) (by omega); omega
    · omega
/-- Exchanges upward, from place a, k of them. -/
def ups (a : Nat) (d : S) : Nat → S
  | 0 => d
  | k + 1 => O.sw (ups a d k) (a + k) (a + k + 1)
/-- Exchanges downward, from place m, k of them. -/
def dns (m : Nat) (d : S) : Nat → S
  | 0 => d
  | k + 1 => O.sw (dns m d k) (m - k) (m - k - 1)

variable (lt : α → α → Bool)
def s0 (a m b : Nat) : Nat := if m > (a + b) / 2 then (a + b) / 2 + m - b else a
def r0 (a m b : Nat) : Nat := if m > (a + b) / 2 then (a + b) / 2 else m
/-- Where the turn begins. -/
def st (a m b : Nat) (d : S) : Nat := bs (fun c => !lt (O.get d ((a + b) / 2 + m - 1 - c)) (O.get d c)) (r0 a m b - s0 a m b) (s0 a m b) (r0 a m b)
def tn (a m b : Nat) (d : S) : S := if st O lt a m b d < m ∧ m < (a + b) / 2 + m - st O lt a m b d then rotate O (st O lt a m b d) m ((a + b) / 2 + m - st O lt a m b d) d else d
/-- The search among what lies behind, and among what lies before. -/
def sHi (a m b : Nat) (d : S) : Nat := bs (fun h => lt (O.get d h) (O.get d a)) (b - m) m b
def sLo (a m b : Nat) (d : S) : Nat := bs (fun h => !lt (O.get d m) (O.get d h)) (m - a) a m
def sym : Nat → Nat → Nat → Nat → S → S
  | 0, _, _, _, d => d
  | f + 1, a, m, b, d =>
    if m - a = 1 then ups O a d (sHi O lt a m b d - 1 - a)
    else if b - m = 1 then dns O m d (m - sLo O lt a m b d)
    else if (a + b) / 2 < (a + b) / 2 + m - st O lt a m b d ∧ (a + b) / 2 + m - st O lt a m b d < b then
      sym f ((a + b) / 2) ((a + b) / 2 + m - st O lt a m b d) b (if a < st O lt a m b d ∧ st O lt a m b d < (a + b) / 2 then sym f a (st O lt a m b d) ((a + b) / 2) (tn O lt a m b d) else tn O lt a m b d)
    else (if a < st O lt a m b d ∧ st O lt a m b d < (a + b) / 2 then sym f a (st O lt a m b d) ((a + b) / 2) (tn O lt a m b d) else tn O lt a m b d)
def insI (a : Nat) : Nat → S → S
  | 0, d => d
  | j + 1, d => if j + 1 > a && lt (O.get d (j + 1)) (O.get d j) then insI a j (O.sw d (j + 1) j) else d
def insO (a b : Nat) : Nat → Nat → S → S
  | 0, _, d => d
  | f + 1, i, d => if i < b then insO a b f (i + 1) (insI O lt a i d) else d
def ins (d : S) (a b : Nat) : S := insO O lt a b (b - a) (a + 1) d
/-- Blocks of 20, each sorted: from place a. -/
def blocks (n : Nat) : Nat → Nat → S → S
  | 0, _, d => d
  | f + 1, a, d => if a + 20 ≤ n then blocks n f (a + 20) (ins O lt d a (a + 20)) else ins O lt d a n
/-- One pass of merges. -/
def pass (n bz : Nat) : Nat → Nat → S → S
  | 0, _, d => d
  | f + 1, a, d => if a + 2 * bz ≤ n then pass n bz f (a + 2 * bz) (sym O lt (2 * bz) a (a + bz) (a + 2 * bz) d) else if a + bz < n then sym O lt (n - a) a (a + bz) n d else d
def passes (n : Nat) : Nat → Nat → S → S
  | 0, _, d => d
  | f + 1, bz, d => if bz < n then passes n f (2 * bz) (pass O lt n bz (n + 1) 0 d) else d
def stable (n : Nat) (d : S) : S := passes O lt n (n + 1) 20 (blocks O lt n (n + 1) 0 d)
end

/-- Two kinds of rows that go alike. -/
structure Sim {S T α β : Type} (O : Ops S α) (O' : Ops T β) (lt : α → α → Bool) (lt' : β → β → Bool) (R : S → T → Prop) : Prop where
  less : ∀ {s t}, R s t → ∀ i j, lt (O.get s i) (O.get s j) = lt' (O'.get t i) (O'.get t j)
  sw : ∀ {s t}, R s t → ∀ i j, R (O.sw s i j) (O'.sw t i j)
namespace Sim
variable {S T α β : Type} {O : Ops S α} {O' : Ops T β} {lt : α → α → Bool} {lt' : β → β → Bool} {R : S → T → Prop} (H : Sim O O' lt lt' R)
include H
theorem swr {s t} (h : R s t) (a b : Nat) : ∀ k, R (Stab.swr O a b s k) (Stab.swr O' a b t k)
  | 0 => h
  | k + 1 => H.sw (swr h a b k) _ _
theorem ups {s t} (h : R s t) (a : Nat) : ∀ k, R (Stab.ups O a s k) (Stab.ups O' a t k)
  | 0 => h
  | k + 1 => H.sw (ups h a k) _ _
theorem dns {s t} (h : R s t) (a : Nat) : ∀ k, R (Stab.dns O a s k) (Stab.dns O' a t k)
  | 0 => h
  | k + 1 => H.sw (dns h a k) _ _
theorem rot (m : Nat) : ∀ (f i j : Nat) {s t}, R s t → R (Stab.rot O m f i j s) (Stab.rot O' m f i j t)
  | 0, _, _, _, _, h => h
  | f + 1, i, j, s, t, h => by
    rw [Stab.rot, Stab.rot]
    split
    · exact H.swr h _ _ _
    · split
      · exact rot m f _ _ (H.swr h _ _ _)
      · exact rot m f _ _ (H.swr h _ _ _)
theorem st {s t} (h : R s t) (a m b : Nat) : Stab.st O lt a m b s = Stab.st O' lt' a m b t := by
  unfold Stab.st; congr 1; funext c; rw [H.less h]
theorem tn {s t} (h : R s t) (a m b : Nat) : R (Stab.tn O lt a m b s) (Stab.tn O' lt' a m b t) := by
  unfold Stab.tn; rw [H.st h]; split
  · exact H.rot _ _ _ _ h
  · exact h
theorem sHi {s t} (h : R s t) (a m b : Nat) : Stab.sHi O lt a m b s = Stab.sHi O' lt' a m b t := by
  unfold Stab.sHi; congr 1; funext c; rw [H.less h]
theorem sLo {s t} (h : R s t) (a m b : Nat) : Stab.sLo O lt a m b s = Stab.sLo O' lt' a m b t := by
  unfold Stab.sLo; congr 1; funext c; rw [H.less h]
theorem sym : ∀ (f a m b : Nat) {s t}, R s t → R (Stab.sym O lt f a m b s) (Stab.sym O' lt' f a m b t)
  | 0, _, _, _, _, _, h => h
  | f + 1, a, m, b, s, t, h => by
    rw [Stab.sym, Stab.sym, H.sHi h, H.sLo h, H.st h]
    have h2 : R (if a < Stab.st O' lt' a m b t ∧ Stab.st O' lt' a m b t < (a + b) / 2 then Stab.sym O lt f a (Stab.st O' lt' a m b t) ((a + b) / 2) (Stab.tn O lt a m b s) else Stab.tn O lt a m b s)
        (if a < Stab.st O' lt' a m b t ∧ Stab.st O' lt' a m b t < (a + b) / 2 then Stab.sym O' lt' f a (Stab.st O' lt' a m b t) ((a + b) / 2) (Stab.tn O' lt' a m b t) else Stab.tn O' lt' a m b t) := by
      split
      · exact sym f _ _ _ (H.tn h _ _ _)
      · exact H.tn h _ _ _
    split
    · exact H.ups h _ _
    · split
      · exact H.dns h _ _
      · split
        · exact sym f _ _ _ h2
        · exact h2
theorem insI (a : Nat) : ∀ (j : Nat) {s t}, R s t → R (Stab.insI O lt a j s) (Stab.insI O' lt' a j t)
  | 0, _, _, h => h
  | j + 1, s, t, h => by
    rw [Stab.insI, Stab.insI, H.less h]
    split
    · exact insI a j (H.sw h _ _)
    · exact h
theorem insO (a b : Nat) : ∀ (f i : Nat) {s t}, R s t → R (Stab.insO O lt a b f i s) (Stab.insO O' lt' a b f i t)
  | 0, _, _, _, h => h
  | f + 1, i, s, t, h => by
    rw [Stab.insO, Stab.insO]
    split
    · exact insO a b f _ (H.insI a i h)
    · exact h
theorem blocks (n : Nat) : ∀ (f a : Nat) {s t}, R s t → R (Stab.blocks O lt n f a s) (Stab.blocks O' lt' n f a t)
  | 0, _, _, _, h => h
  | f + 1, a, s, t, h => by
    rw [Stab.blocks, Stab.blocks]
    split
    · exact blocks n f _ (H.insO _ _ _ _ h)
    · exact H.insO _ _ _ _ h
theorem pass (n bz : Nat) : ∀ (f a : Nat) {s t}, R s t → R (Stab.pass O lt n bz f a s) (Stab.pass O' lt' n bz f a t)
  | 0, _, _, _, h => h
  | f + 1, a, s, t, h => by
    rw [Stab.pass, Stab.pass]
    split
    · exact pass n bz f _ (H.sym _ _ _ _ h)
    · split
      · exact H.sym _ _ _ _ h
      · exact h
theorem passes (n : Nat) : ∀ (f bz : Nat) {s t}, R s t → R (Stab.passes O lt n f bz s) (Stab.passes O' lt' n f bz t)
  | 0, _, _, _, h => h
  | f + 1, bz, s, t, h => by
    rw [Stab.passes, Stab.passes]
    split
    · exact passes n f _ (H.pass n bz _ _ h)
    · exact h
theorem stable (n : Nat) {s t} (h : R s t) : R (Stab.stable O lt n s) (Stab.stable O' lt' n t) := H.passes n _ _ (H.blocks n _ _ h)
end Sim

def arrO (α : Type) [Inhabited α] : Ops (Array α) α := ⟨fun d i => d[i]!, swp⟩
section
variable {α : Type} [Inhabited α] (lt : α → α → Bool)
theorem swr_size (a b : Nat) (d : Array α) : ∀ k, (swr (arrO α) a b d k).size = d.size
  | 0 => rfl
  | k + 1 => by rw [swr]; show (swp _ _ _).size = _; rw [size_swp, swr_size a b d k]
theorem rot_size (m : Nat) : ∀ (f i j : Nat) (d : Array α), (rot (arrO α) m f i j d).size = d.size
  | 0, _, _, _ => rfl
  | f + 1, i, j, d => by
    rw [rot]; split
    · exact swr_size _ _ _ _
    · split
      · rw [rot_size, swr_size]
      · rw [rot_size, swr_size]
theorem ups_size (a : Nat) (d : Array α) : ∀ k, (ups (arrO α) a d k).size = d.size
  | 0 => rfl
  | k + 1 => by rw [ups]; show (swp _ _ _).size = _; rw [size_swp, ups_size a d k]
theorem dns_size (a : Nat) (d : Array α) : ∀ k, (dns (arrO α) a d k).size = d.size
  | 0 => rfl
  | k + 1 => by rw [dns]; show (swp _ _ _).size = _; rw [size_swp, dns_size a d k]
theorem tn_size (a m b : Nat) (d : Array α) : (tn (arrO α) lt a m b d).size = d.size := by
  unfold tn rotate; split
  · exact rot_size _ _ _ _ _
  · rfl
theorem sym_size : ∀ (f a m b : Nat) (d : Array α), (sym (arrO α) lt f a m b d).size = d.size
  | 0, _, _, _, _ => rfl
  | f + 1, a, m, b, d => by
    have h2 : (if a < st (arrO α) lt a m b d ∧ st (arrO α) lt a m b d < (a + b) / 2 then sym (arrO α) lt f a (st (arrO α) lt a m b d) ((a + b) / 2) (tn (arrO α) lt a m b d) else tn (arrO α) lt a m b d).size = d.size := by
      split
      · rw [sym_size, tn_size]
      · exact tn_size _ _ _ _ _
    rw [sym]
    split
    · exact ups_size _ _ _
    · split
      · exact dns_size _ _ _
      · split
        · rw [sym_size]; exact h2
        · exact h2
end

def coded : List (Fin 256) → Nat
  | [] => 0
  | x :: l => x.val + 256 * coded l
def natO (n : Nat) : Ops Nat Nat := ⟨fun t i => t / 256 ^ i % 256, fun t i j =>
  let x := t / 256 ^ i % 256
  let y := t / 256 ^ j % 256
  let t1 := if i < n then t - x * 256 ^ i + y * 256 ^ i else t
  if j < n then t1 - (t1 / 256 ^ j % 256) * 256 ^ j + x * 256 ^ j else t1⟩
theorem coded_get : ∀ (l : List (Fin 256)) (i : Nat), coded l / 256 ^ i % 256 = (l[i]?.getD default).val
  | [], i => by simp [coded]; rfl
  | x :: l, 0 => by simp only [coded, Nat.pow_zero, Nat.div_one, List.getElem?_cons_zero, Option.getD_some]; omega
  | x :: l, i + 1 => by
    have : coded (x :: l) / 256 ^ (i + 1) = coded l / 256 ^ i := by
      rw [coded, Nat.pow_succ, Nat.mul_comm (256 ^ i), ← Nat.div_div_eq_div_mul]
      congr 1
      omega
    rw [this, coded_get l i]; simp
theorem coded_le : ∀ (l : List (Fin 256)) (i : Nat) (h : i < l.length), l[i].val * 256 ^ i ≤ coded l
  | x :: l, 0, _ => by simp [coded]
  | x :: l, i + 1, h => by
    have hi : i < l.length := by simpa using h
    have := coded_le l i hi
    simp only [coded, List.getElem_cons_succ, Nat.pow_succ]
    have e : l[i].val * (256 ^ i * 256) = l[i].val * 256 ^ i * 256 := by rw [Nat.mul_assoc]
    rw [e]; omega
theorem coded_set : ∀ (l : List (Fin 256)) (i : Nat) (h : i < l.length) (v : Fin 256), coded (l.set i v) + l[i].val * 256 ^ i = coded l + v.val * 256 ^ i
  | x :: l, 0, _, v => by simp [coded]; omega
  | x :: l, i + 1, h, v => by
    have hi : i < l.length := by simpa using h
    have := coded_set l i hi v
    simp only [List.set_cons_succ, coded, List.getElem_cons_succ, Nat.pow_succ]
    have e : ∀ q : Nat, q * (256 ^ i * 256) = q * 256 ^ i * 256 := fun q => by rw [Nat.mul_assoc]
    rw [e, e]; omega
theorem coded_put (l : List (Fin 256)) (i : Nat) (v : Fin 256) : coded (l.set i v) = if i < l.length then coded l - (coded l / 256 ^ i % 256) * 256 ^ i + v.val * 256 ^ i else coded l := by
  split
  · rename_i h
    have h1 := coded_set l i h v
    have h2 := coded_le l i h
    rw [coded_get, List.getElem?_eq_getElem h, Option.getD_some]
    omega
  · rename_i h
    rw [List.set_eq_of_length_le (by omega)]
theorem get_coded (d : Array (Fin 256)) (i : Nat) : coded d.toList / 256 ^ i % 256 = (d[i]!).val := by
  rw [coded_get]
  congr 1
  rw [Array.getElem!_eq_getD, Array.getD_eq_getD_getElem?, Array.getElem?_toList]
theorem sim_nat (n : Nat) (lt : Fin 256 → Fin 256 → Bool) (lt' : Nat → Nat → Bool) (hl : ∀ x y : Fin 256, lt x y = lt' x.val y.val) :
    Sim (arrO (Fin 256)) (natO n) lt lt' (fun d t => d.size = n ∧ coded d.toList = t) where
  less := by
    rintro s t ⟨h, rfl⟩ i j
    show lt s[i]! s[j]! = lt' (coded s.toList / 256 ^ i % 256) (coded s.toList / 256 ^ j % 256)
    rw [hl, get_coded, get_coded]
  sw := by
    rintro s t ⟨rfl, rfl⟩ i j
    refine ⟨size_swp _ _ _, ?_⟩
    show coded (swp s i j).toList = _
    unfold swp
    rw [Array.toList_setIfInBounds, Array.toList_setIfInBounds, coded_put, List.length_set, coded_put]
    simp only [natO, get_coded, Array.length_toList]
def pop (n : Nat) : Nat := n % 2 + n / 2 % 2 + n / 4 % 2 + n / 8 % 2 + n / 16 % 2 + n / 32 % 2 + n / 64 % 2 + n / 128 % 2
def ltp (x y : Nat) : Bool := Nat.blt (pop x) (pop y)
/-- The sets of k things, by how many there are in them. -/
def bySize (k : Nat) : List Nat := (List.range (k + 1)).flatMap fun s => (List.range (2 ^ k)).filter fun x => pop x == s
end Go.Proofs.Yteeinehpneppnaa.Stab
set_option linter.unusedVariables false
set_option linter.unusedSimpArgs false
namespace Go.Proofs.Yteeinehpneppnaa
open Go.RowKit Go.Proofs
open Go.Shelf Go.RowKit Go.Lib Go.Sort
variable {α : Type} [Inhabited α]

theorem insI_go (lt : α → α → Bool) (a j : Nat) (d : Array α) (h1 : a < j + 1) (h2 : lt d[j + 1]! d[j]! = true) : Stab.insI (Stab.arrO α) lt a (j + 1) d = Stab.insI (Stab.arrO α) lt a j (swp d (j + 1) j) := by
  rw [Stab.insI]
  show (if (decide (j + 1 > a) && lt d[j + 1]! d[j]!) = true then _ else _) = _
  rw [if_pos (by simp [h1, h2])]; rfl
theorem insI_stop (lt : α → α → Bool) (a j : Nat) (d : Array α) (h : j ≤ a ∨ lt d[j]! d[j - 1]! = false) : Stab.insI (Stab.arrO α) lt a j d = d := by
  cases j with
  | zero => rfl
  | succ j =>
    rw [Stab.insI]
    show (if (decide (j + 1 > a) && lt d[j + 1]! d[j]!) = true then _ else _) = _
    rw [if_neg]
    rcases h with h | h
    · simp; intro; omega
    · simp at h; simp [h]
theorem insO_go (lt : α → α → Bool) (a b f i : Nat) (d : Array α) (h : i < b) : Stab.insO (Stab.arrO α) lt a b (f + 1) i d = Stab.insO (Stab.arrO α) lt a b f (i + 1) (Stab.insI (Stab.arrO α) lt a i d) := by
  rw [Stab.insO, if_pos h]
theorem insO_stop (lt : α → α → Bool) (a b f i : Nat) (d : Array α) (h : ¬ i < b) : Stab.insO (Stab.arrO α) lt a b f i d = d := by
  cases f with
  | zero => rfl
  | succ f => rw [Stab.insO, if_neg h]
set_option maxHeartbeats 4000000 in
set_option maxRecDepth 100000 in
theorem ins_w (enc : α → Value) (cf : α → α → Int) (g : Nat) (cb : Array Value) (blk off cap L : Nat) (d0 d : Array α) (w0 w : World)
    (eg : ∀ args w, (callFunc g args).run Try.prog w = .ok (.enter g args) w) (hcmp : CmpLays1 Try.prog g cb enc cf blk off d0.size w0) (R : Row1 enc w0 blk off d0) (h0 : d0.size = L) (hs : d.size = L) (hL : L ≤ 256) (S : SW enc w0 blk off d w) (a b : Nat) (hab : a ≤ b) (hb : b ≤ L) :
    Calls Try.prog 111 #[.slice (some ⟨blk, off, none⟩) L cap, .int .i64 a, .int .i64 b, .func (.func g) #[] cb] w fun e w' => e = .returned (.tuple #[]) ∧ SW enc w0 blk off (Stab.ins (Stab.arrO α) (ltOf cf) d a b) w' := by
  have mixed : Try.prog.follows Departure.mixedOrders = true := by kernel_rfl
  have hcl0 := R.hO.cells
  simp only [Value.cells] at hcl0
  have hst := R.hO.store Try.prog
  have HC : Aside _ := hcmp
  have S0 : Aside (SW enc w0 blk off d w) := S
  clear S
  clear hcmp
  go_enter Try.func111, Try.ntmps111
  go_wp2
  go_loopg [8] (b - a) (fun g1 vi wr => ∃ (i : Nat) (dk : Array α), vi = .int .i64 i ∧ a < i ∧ i ≤ b + 1 ∧ b - i ≤ g1 ∧ dk.size = L ∧ Aside (SW enc w0 blk off dk wr) ∧ Hid (Stab.insO (Stab.arrO α) (ltOf cf) a b g1 i dk = Stab.ins (Stab.arrO α) (ltOf cf) d a b))
  case atStart => exact ⟨a + 1, d, by go_num, by omega, by omega, by omega, hs, S0, rfl⟩
  case round =>
    clear S0
    obtain ⟨i, dk, rfl, hai, hib, hg1, hsk, S1, HO⟩ := hrel
    by_cases hlt : i < b
    · have hltz : (i : Int) < (b : Int) := by omega
      obtain ⟨f, rfl⟩ : ∃ f, gk = f + 1 := ⟨gk - 1, by omega⟩
      have HO2 : Hid (Stab.insO (Stab.arrO α) (ltOf cf) a b f (i + 1) (Stab.insI (Stab.arrO α) (ltOf cf) a i dk) = Stab.ins (Stab.arrO α) (ltOf cf) d a b) := by
        show _ = _; have := HO.out; rwa [insO_go _ _ _ _ _ _ hlt] at this
      clear HO
      go_wp2
      go_loopg [9] i (fun g2 vj wr2 => ∃ (j : Nat) (dj : Array α), vj = .int .i64 j ∧ a ≤ j ∧ j ≤ i ∧ j ≤ g2 ∧ dj.size = L ∧ Aside (SW enc w0 blk off dj wr2) ∧ Hid (Stab.insI (Stab.arrO α) (ltOf cf) a j dj = Stab.insI (Stab.arrO α) (ltOf cf) a i dk))
      case atStart => exact ⟨i, dk, by go_num, by omega, Nat.le_refl _, Nat.le_refl _, hsk, S1, rfl⟩
      case round =>
        clear S1
        obtain ⟨j, dj, rfl, haj, hji, hg2, hsj, SJ, HI⟩ := hrel
        have out : (j ≤ a ∨ (ltOf cf) dj[j]! dj[j - 1]! = false) → Hid (Stab.insO (Stab.arrO α) (ltOf cf) a b f (i + 1) dj = Stab.ins (Stab.arrO α) (ltOf cf) d a b) := fun hs => by
          show _ = _
          rw [← HO2.out, ← HI.out, insI_stop _ _ _ _ hs]
        have OUT : Aside _ := out
        clear out
        by_cases hja : a < j
        · obtain ⟨jp, rfl⟩ : ∃ q, j = q + 1 := ⟨j - 1, by omega⟩
          have hjad : decide ((jp : Int) + 1 > (a : Int)) = true := decide_eq_true (by omega)
          have hjaz' : (a : Int) < (jp : Int) + 1 := by omega
          rw [Nat.add_sub_cancel] at OUT
          cases hl0 : (ltOf cf) dj[jp + 1]! dj[jp]! with
          | true =>
            have hlv := Lib.hid hl0
            have HI2 : Hid (Stab.insI (Stab.arrO α) (ltOf cf) a jp (swp dj (jp + 1) jp) = Stab.insI (Stab.arrO α) (ltOf cf) a i dk) := by
              show _ = _; rw [← HI.out, insI_go _ _ _ _ (by omega) hl0]
            clear hl0 HI OUT
            obtain ⟨i0N, hi0N⟩ : ∃ q, q = jp + 1 := ⟨_, rfl⟩
            have ei0 : ((jp : Int) + 1).toNat = i0N := by omega
            have pi0 : (0 : Int) ≤ (jp : Int) + 1 := by omega
            have bi0 : (jp : Int) + 1 < (L : Int) := by omega
            have ri0 : IntKind.i64.wrap ((jp : Int) + 1) = (jp : Int) + 1 := by rw [IntKind.wrap_i64]; omega
            have pj0 : (0 : Int) ≤ (jp : Int) := by omega
            have bj0 : (jp : Int) < (L : Int) := by omega
            have rj0 : IntKind.i64.wrap (jp : Int) = (jp : Int) := by rw [IntKind.wrap_i64]; omega
            obtain ⟨x0, hx0⟩ : ∃ x, x = dj[jp + 1]! := ⟨_, rfl⟩
            obtain ⟨y0, hy0⟩ : ∃ x, x = dj[jp]! := ⟨_, rfl⟩
            have la0 := SJ.out.cl R (by omega) (jp + 1) (by omega)
            have lb0 := SJ.out.cl R (by omega) (jp) (by omega)
            rw [← hx0] at la0
            rw [← hy0] at lb0
            rw [← hi0N] at la0
            have hc0 := SJ.out.cmp HC.out (by omega) x0 y0
            have hv0 : cf x0 y0 < 0 := by rw [hx0, hy0]; exact of_decide_eq_true hlv.out
            have hd0 : decide (cf x0 y0 < 0) = true := decide_eq_true hv0
            clear hx0 hy0 hi0N
            go_wp2_with fail
            go_quiet_grown (first | (go_at_fn g; refine Calls.grown_of (hc0 _ _)))
            have S2 : Aside (SW enc w0 blk off dj (grow (wr.drewN nq) osq)) := SJ.out.grown nq osq
            clear la0 lb0 hc0 SJ
            generalize grow (wr.drewN nq) osq = w2 at S2 ⊢
            clear nq osq
            clear hv0
            clear ei0
            go_wp2_with fail
            obtain ⟨i1N, hi1N⟩ : ∃ q, q = jp + 1 := ⟨_, rfl⟩
            have ei1 : ((jp : Int) + 1).toNat = i1N := by omega
            have pi1 : (0 : Int) ≤ (jp : Int) + 1 := by omega
            have bi1 : (jp : Int) + 1 < (L : Int) := by omega
            have ri1 : IntKind.i64.wrap ((jp : Int) + 1) = (jp : Int) + 1 := by rw [IntKind.wrap_i64]; omega
            have pj1 : (0 : Int) ≤ (jp : Int) := by omega
            have bj1 : (jp : Int) < (L : Int) := by omega
            have rj1 : IntKind.i64.wrap (jp : Int) = (jp : Int) := by rw [IntKind.wrap_i64]; omega
            obtain ⟨x1, hx1⟩ : ∃ x, x = dj[jp + 1]! := ⟨_, rfl⟩
            obtain ⟨y1, hy1⟩ : ∃ x, x = dj[jp]! := ⟨_, rfl⟩
            have S3 : Aside (SW enc w0 blk off (swp dj (jp + 1) (jp)) ((w2.setCell ⟨blk, off + i1N, none⟩ (enc y1)).setCell ⟨blk, off + jp, none⟩ (enc x1)).drew) := by rw [hi1N, hx1, hy1]; exact S2.out.swapped R (jp + 1) (jp) (by omega) (by omega)
            have ca1 := S2.out.c1 R (by omega) (jp + 1) (by omega)
            have cb1 := S2.out.c1 R (by omega) (jp) (by omega)
            have fa1 := S2.out.f1 R (by omega) (jp + 1) (by omega)
            have fb1 := S2.out.f1 R (by omega) (jp) (by omega)
            obtain ⟨u1, cc1⟩ := S2.out.c2 R (by omega) (jp + 1) (jp) (by omega) (by omega) (enc y1)
            rw [← hx1] at ca1
            rw [← hy1] at cb1
            rw [← hi1N] at cc1 ca1 fa1
            clear S2 hx1 hy1 hi1N
            go_wp2_with fail
            go_big_region_o
            clear ca1 cb1 cc1 fa1 fb1
            generalize ((w2.setCell ⟨blk, off + i1N, none⟩ (enc y1)).setCell ⟨blk, off + jp, none⟩ (enc x1)).drew = w3 at S3 ⊢
            clear ei1
            go_wp2
            go_roundg jp
            case measure => omega
            case rel => exact ⟨jp, swp dj (jp + 1) jp, by first | rfl | go_num | (congr 1; omega), by omega, by omega, Nat.le_refl _, by rw [size_swp]; exact hsj, S3, HI2⟩
          | false =>
            have hlv := Lib.hid hl0
            have OUT2 := OUT.out (Or.inr hl0)
            clear hl0 OUT HI
            obtain ⟨i0N, hi0N⟩ : ∃ q, q = jp + 1 := ⟨_, rfl⟩
            have ei0 : ((jp : Int) + 1).toNat = i0N := by omega
            have pi0 : (0 : Int) ≤ (jp : Int) + 1 := by omega
            have bi0 : (jp : Int) + 1 < (L : Int) := by omega
            have ri0 : IntKind.i64.wrap ((jp : Int) + 1) = (jp : Int) + 1 := by rw [IntKind.wrap_i64]; omega
            have pj0 : (0 : Int) ≤ (jp : Int) := by omega
            have bj0 : (jp : Int) < (L : Int) := by omega
            have rj0 : IntKind.i64.wrap (jp : Int) = (jp : Int) := by rw [IntKind.wrap_i64]; omega
            obtain ⟨x0, hx0⟩ : ∃ x, x = dj[jp + 1]! := ⟨_, rfl⟩
            obtain ⟨y0, hy0⟩ : ∃ x, x = dj[jp]! := ⟨_, rfl⟩
            have la0 := SJ.out.cl R (by omega) (jp + 1) (by omega)
            have lb0 := SJ.out.cl R (by omega) (jp) (by omega)
            rw [← hx0] at la0
            rw [← hy0] at lb0
            rw [← hi0N] at la0
            have hc0 := SJ.out.cmp HC.out (by omega) x0 y0
            have hv0 : ¬ cf x0 y0 < 0 := by rw [hx0, hy0]; exact of_decide_eq_false hlv.out
            have hd0 : decide (cf x0 y0 < 0) = false := decide_eq_false hv0
            clear hx0 hy0 hi0N
            go_wp2_with fail
            go_quiet_grown (first | (go_at_fn g; refine Calls.grown_of (hc0 _ _)))
            have S2 : Aside (SW enc w0 blk off dj (grow (wr.drewN nq) osq)) := SJ.out.grown nq osq
            clear la0 lb0 hc0 SJ
            generalize grow (wr.drewN nq) osq = w2 at S2 ⊢
            clear nq osq
            clear hv0
            clear ei0
            go_wp2
            go_roundg f
            case measure => omega
            case rel => exact ⟨i + 1, dj, by go_num, by omega, by omega, by omega, hsj, S2, OUT2⟩
        · have hjaz : decide ((j : Int) > (a : Int)) = false := decide_eq_false (by omega)
          have hjaz' : ¬ (a : Int) < (j : Int) := by omega
          have OUT2 := OUT.out (Or.inl (by omega))
          clear OUT HI
          go_wp2_with fail
          go_big_region_o
          have S2 : Aside (SW enc w0 blk off dj wr.drew) := SJ.out.drew
          clear SJ
          generalize wr.drew = w2 at S2 ⊢
          go_wp2
          go_roundg f
          case measure => omega
          case rel => exact ⟨i + 1, dj, by go_num, by omega, by omega, by omega, hsj, S2, OUT2⟩
    · have hltz : ¬ (i : Int) < (b : Int) := by omega
      go_wp2
      go_end0
      exact ⟨rfl, by rw [← HO.out, insO_stop _ _ _ _ _ _ hlt]; exact S1.out⟩
end Go.Proofs.Yteeinehpneppnaa
set_option linter.unusedVariables false
set_option linter.unusedSimpArgs false
namespace Go.Proofs.Yteeinehpneppnaa
open Go.RowKit Go.Proofs
open Go.Shelf Go.RowKit Go.Lib Go.Sort
variable {α : Type} [Inhabited α]

set_option maxHeartbeats 4000000 in
set_option maxRecDepth 100000 in
theorem swapRange_w (enc : α → Value) (cf : α → α → Int) (g : Nat) (cb : Array Value) (blk off cap L : Nat) (d0 d : Array α) (w0 w : World)
    (eg : ∀ args w, (callFunc g args).run Try.prog w = .ok (.enter g args) w) (hcmp : CmpLays1 Try.prog g cb enc cf blk off d0.size w0) (R : Row1 enc w0 blk off d0) (h0 : d0.size = L) (hs : d.size = L) (hL : L ≤ 256) (S : SW enc w0 blk off d w) (a b n : Nat) (ha : a + n ≤ L) (hb : b + n ≤ L) :
    Calls Try.prog 115 #[.slice (some ⟨blk, off, none⟩) L cap, .int .i64 a, .int .i64 b, .int .i64 n, .func (.func g) #[] cb] w fun e w' => e = .returned (.tuple #[]) ∧ SW enc w0 blk off (Stab.swr (Stab.arrO α) a b d n) w' := by
  have mixed : Try.prog.follows Departure.mixedOrders = true := by kernel_rfl
  have hcl0 := R.hO.cells
  simp only [Value.cells] at hcl0
  have hst := R.hO.store Try.prog
  have HC : Aside _ := hcmp
  have S0 : Aside (SW enc w0 blk off d w) := S
  clear S
  clear hcmp
  go_enter Try.func115, Try.ntmps115
  go_wp2
  go_loopg [10] n (fun g1 vi wr => ∃ (i : Nat), vi = .int .i64 i ∧ i ≤ n ∧ n - i ≤ g1 ∧ Aside (SW enc w0 blk off (Stab.swr (Stab.arrO α) a b d i) wr))
  case atStart => exact ⟨0, by go_num, by omega, by omega, S0⟩
  case round =>
    clear S0
    obtain ⟨i, rfl, hi, hg1, S1⟩ := hrel
    by_cases hlt : i < n
    · have hltz : (i : Int) < (n : Int) := by omega
      have hsk : (Stab.swr (Stab.arrO α) a b d i).size = L := by rw [Stab.swr_size]; exact hs
      have HST : Hid (Stab.swr (Stab.arrO α) a b d (i + 1) = swp (Stab.swr (Stab.arrO α) a b d i) (a + i) (b + i)) := rfl
      generalize Stab.swr (Stab.arrO α) a b d i = dk at S1 hsk HST
      go_wp2_with fail
      obtain ⟨i1N, hi1N⟩ : ∃ q, q = a + i := ⟨_, rfl⟩
      have ei1 : ((a : Int) + (i : Int)).toNat = i1N := by omega
      have pi1 : (0 : Int) ≤ (a : Int) + (i : Int) := by omega
      have bi1 : (a : Int) + (i : Int) < (L : Int) := by omega
      have ri1 : IntKind.i64.wrap ((a : Int) + (i : Int)) = (a : Int) + (i : Int) := by rw [IntKind.wrap_i64]; omega
      obtain ⟨j1N, hj1N⟩ : ∃ q, q = b + i := ⟨_, rfl⟩
      have ej1 : ((b : Int) + (i : Int)).toNat = j1N := by omega
      have pj1 : (0 : Int) ≤ (b : Int) + (i : Int) := by omega
      have bj1 : (b : Int) + (i : Int) < (L : Int) := by omega
      have rj1 : IntKind.i64.wrap ((b : Int) + (i : Int)) = (b : Int) + (i : Int) := by rw [IntKind.wrap_i64]; omega
      obtain ⟨x1, hx1⟩ : ∃ x, x = dk[a + i]! := ⟨_, rfl⟩
      obtain ⟨y1, hy1⟩ : ∃ x, x = dk[b + i]! := ⟨_, rfl⟩
      have S3 : Aside (SW enc w0 blk off (swp dk (a + i) (b + i)) ((wr.setCell ⟨blk, off + i1N, none⟩ (enc y1)).setCell ⟨blk, off + j1N, none⟩ (enc x1)).drew) := by rw [hi1N, hj1N, hx1, hy1]; exact S1.out.swapped R (a + i) (b + i) (by omega) (by omega)
      have ca1 := S1.out.c1 R (by omega) (a + i) (by omega)
      have cb1 := S1.out.c1 R (by omega) (b + i) (by omega)
      have fa1 := S1.out.f1 R (by omega) (a + i) (by omega)
      have fb1 := S1.out.f1 R (by omega) (b + i) (by omega)
      obtain ⟨u1, cc1⟩ := S1.out.c2 R (by omega) (a + i) (b + i) (by omega) (by omega) (enc y1)
      rw [← hx1] at ca1
      rw [← hy1] at cb1
      rw [← hi1N] at cc1 ca1 fa1
      rw [← hj1N] at cc1 cb1 fb1
      clear S1 hx1 hy1 hi1N hj1N
      go_wp2_with fail
      go_big_region_o
      clear ca1 cb1 cc1 fa1 fb1
      generalize ((wr.setCell ⟨blk, off + i1N, none⟩ (enc y1)).setCell ⟨blk, off + j1N, none⟩ (enc x1)).drew = w3 at S3 ⊢
      clear ei1 ej1
      go_wp2
      go_roundg (n - (i + 1))
      case measure => omega
      case rel => exact ⟨i + 1, by go_num, by omega, Nat.le_refl _, by rw [HST.out]; exact S3⟩
    · have hltz : ¬ (i : Int) < (n : Int) := by omega
      obtain rfl : i = n := by omega
      go_wp2
      go_end0
      exact ⟨rfl, S1.out⟩

set_option maxHeartbeats 4000000 in
set_option maxRecDepth 100000 in
theorem rotate_w (enc : α → Value) (cf : α → α → Int) (g : Nat) (cb : Array Value) (blk off cap L : Nat) (d0 d : Array α) (w0 w : World)
    (eg : ∀ args w, (callFunc g args).run Try.prog w = .ok (.enter g args) w) (hcmp : CmpLays1 Try.prog g cb enc cf blk off d0.size w0) (R : Row1 enc w0 blk off d0) (h0 : d0.size = L) (hs : d.size = L) (hL : L ≤ 256) (S : SW enc w0 blk off d w) (a m b : Nat) (ham : a < m) (hmb : m < b) (hb : b ≤ L) :
    Calls Try.prog 114 #[.slice (some ⟨blk, off, none⟩) L cap, .int .i64 a, .int .i64 m, .int .i64 b, .func (.func g) #[] cb] w fun e w' => e = .returned (.tuple #[]) ∧ SW enc w0 blk off (Stab.rotate (Stab.arrO α) a m b d) w' := by
  have mixed : Try.prog.follows Departure.mixedOrders = true := by kernel_rfl
  have hcl0 := R.hO.cells
  simp only [Value.cells] at hcl0
  have hst := R.hO.store Try.prog
  have HC : Aside _ := hcmp
  have S0 : Aside (SW enc w0 blk off d w) := S
  clear S
  clear hcmp
  have SWP := Lib.hid (fun (dk : Array α) (hk : dk.size = L) W (S : SW enc w0 blk off dk W) (xi yi ni : Int) (x y n : Nat) (hxi : xi = x) (hyi : yi = y) (hni : ni = n) (hx : x + n ≤ L) (hy : y + n ≤ L) => (by subst hxi; subst hyi; subst hni; exact swapRange_w enc cf g cb blk off cap L d0 dk w0 W eg HC.out R h0 hk hL S x y n hx hy : Calls Try.prog 115 #[.slice (some ⟨blk, off, none⟩) L cap, .int .i64 xi, .int .i64 yi, .int .i64 ni, .func (.func g) #[] cb] W fun e w' => e = .returned (.tuple #[]) ∧ SW enc w0 blk off (Stab.swr (Stab.arrO α) x y dk n) w'))
  go_enter Try.func114, Try.ntmps114
  go_wp2
  go_loopg [10, 11] (b - a) (fun g1 vi vj wr => ∃ (i j : Nat) (dk : Array α), vi = .int .i64 i ∧ vj = .int .i64 j ∧ 1 ≤ i ∧ 1 ≤ j ∧ i ≤ m ∧ m + j ≤ L ∧ i + j ≤ g1 ∧ dk.size = L ∧ Aside (SW enc w0 blk off dk wr) ∧ Hid (Stab.rot (Stab.arrO α) m g1 i j dk = Stab.rotate (Stab.arrO α) a m b d))
  case atStart => exact ⟨m - a, b - m, d, by go_num, by go_num, by omega, by omega, by omega, by omega, by omega, hs, S0, rfl⟩
  case round =>
    clear S0
    obtain ⟨i, j, dk, rfl, rfl, hi, hj, him, hjm, hg1, hsk, S1, HR⟩ := hrel
    obtain ⟨f, rfl⟩ : ∃ f, gk = f + 1 := ⟨gk - 1, by omega⟩
    by_cases hij : i = j
    · subst hij
      have HR2 : Hid (Stab.swr (Stab.arrO α) (m - i) m dk i = Stab.rotate (Stab.arrO α) a m b d) := by
        show _ = _; have := HR.out; rwa [Stab.rot, if_pos rfl] at this
      have SW1 := Lib.hid (SWP.out dk hsk)
      clear HR SWP
      go_wp2_with (first
        | (go_at_call 115; refine (SW1.out _ S1.out _ _ _ (m - i) m i (by omega) (by omega) (by omega) (by omega) (by omega)).mono ?_; rintro e w2 ⟨rfl, S2⟩))
      go_end0
      exact ⟨rfl, by rw [← HR2.out]; exact S2⟩
    · have hij1 : ((i : Int) == (j : Int)) = false := by simp; omega
      have hij2 : ((i : Int) != (j : Int)) = true := by simp; omega
      by_cases hlt : j < i
      · have hltz : (j : Int) < (i : Int) := by omega
        have HR2 : Hid (Stab.rot (Stab.arrO α) m f (i - j) j (Stab.swr (Stab.arrO α) (m - i) m dk j) = Stab.rotate (Stab.arrO α) a m b d) := by
          show _ = _; have := HR.out; rwa [Stab.rot, if_neg hij, if_pos hlt] at this
        have hs2 := Stab.swr_size (m - i) m dk j
        have SW1 := Lib.hid (SWP.out dk hsk)
        clear HR SWP hij
        go_wp2_with (first
          | (go_at_call 115; refine (SW1.out _ S1.out _ _ _ (m - i) m j (by omega) (by omega) (by omega) (by omega) (by omega)).mono ?_; rintro e w2 ⟨rfl, S2⟩))
        have S3 : Aside _ := S2
        go_roundg f
        case measure => omega
        case rel => exact ⟨i - j, j, _, by go_num, by go_num, by omega, by omega, by omega, by omega, by omega, by rw [hs2]; exact hsk, S3, HR2⟩
      · have hltz : ¬ (j : Int) < (i : Int) := by omega
        have hlt2 : i < j := by omega
        have HR2 : Hid (Stab.rot (Stab.arrO α) m f i (j - i) (Stab.swr (Stab.arrO α) (m - i) (m + j - i) dk i) = Stab.rotate (Stab.arrO α) a m b d) := by
          show _ = _; have := HR.out; rwa [Stab.rot, if_neg hij, if_neg hlt] at this
        have hs2 := Stab.swr_size (m - i) (m + j - i) dk i
        have SW1 := Lib.hid (SWP.out dk hsk)
        clear HR SWP hij
        go_wp2_with (first
          | (go_at_call 115; refine (SW1.out _ S1.out _ _ _ (m - i) (m + j - i) i (by omega) (by omega) (by omega) (by omega) (by omega)).mono ?_; rintro e w2 ⟨rfl, S2⟩))
        have S3 : Aside _ := S2
        go_roundg f
        case measure => omega
        case rel => exact ⟨i, j - i, _, by go_num, by go_num, by omega, by omega, by omega, by omega, by omega, by rw [hs2]; exact hsk, S3, HR2⟩
end Go.Proofs.Yteeinehpneppnaa
