/- Parts of a proof: KnownP, App. -/
import Derived.Test.YtjbjmoghloabpaaM42
import Derived.Test.YtjbjmoghloabpaaM40
import Derived.Test.YtjbjmoghloabpaaM35
/- Plain laws of the law BeanKnown. -/
set_option linter.unusedVariables false
set_option linter.unusedSimpArgs false
namespace Go.Proofs.Ytjbjmoghloabpaa
open Go.RowKit Go.Proofs
attribute [local irreducible] Ord.walk
/-- A vote of which it is known, too, which bean a voter gave. -/
def withV (b : Bn) (v : Nat) (lo : Int) : Bn := { b with gs := b.gs ++ [(((2 ^ v : Nat) : Int), lo, lo)] }
theorem sz_pow : ∀ v, v < 8 → ∀ x, x < 256 → sz (2 ^ v &&& x) = if hasB x v then 1 else 0 := by decide +kernel
theorem withV_valid {b : Bn} (hv : valid b = true) (hg : b.gs.length < 4) {v : Nat} (hvV : (v : Int) < b.V) {lo : Int} (hlo : lo = 0 ∨ lo = 1) : valid (withV b v lo) = true := by
  have hV := valid_V hv
  have hp : 2 ^ v < 2 ^ b.V.toNat := Nat.pow_lt_pow_right (by omega) (by omega)
  simp only [valid, Bool.and_eq_true] at hv ⊢
  refine ⟨⟨?_, ?_⟩, hv.2⟩
  · have h := hv.1.1
    simp only [headOk, Bool.and_eq_true, decide_eq_true_eq] at h ⊢
    refine ⟨⟨h.1.1, ?_⟩, h.2⟩
    simp [withV]; omega
  · show (b.gs ++ [(((2 ^ v : Nat) : Int), lo, lo)]).all (gOk b.V) = true
    rw [List.all_append, hv.1.2, Bool.true_and]
    have h1 : inB ((2 ^ v : Nat) : Int) 0 (((2 ^ b.V.toNat : Nat) : Int) - 1) = true := by
      simp only [inB, Bool.and_eq_true, decide_eq_true_eq]
      generalize 2 ^ v = x at *
      generalize 2 ^ b.V.toNat = y at *
      omega
    have h2 : spanB lo lo 8 = true := by rcases hlo with rfl | rfl <;> rfl
    simp only [List.all_cons, List.all_nil, gOk, h1, h2, Bool.and_self]
theorem TL_withV {b : Bn} (hv : valid b = true) (hg : b.gs.length < 4) {v : Nat} (hvV : (v : Int) < b.V) (c : Bool) : TL (withV b v (if c then 1 else 0)) = (TL b).filter (fun x => hasB x v == c) := by
  have hV := valid_V hv
  have hw : valid (withV b v (if c then 1 else 0)) = true := withV_valid hv hg hvV (by cases c <;> simp)
  have h8 := Nat.pow_le_pow_right (show 0 < 2 by omega) (show b.V.toNat ≤ 8 by omega)
  have e : (2 : Nat) ^ 8 = 256 := rfl
  rw [← LK_all hw, ← LK_all hv]
  show (List.range (2 ^ b.V.toNat)).filter _ = ((List.range (2 ^ b.V.toNat)).filter _).filter _
  rw [List.filter_filter]
  apply List.filter_congr
  intro x hx
  have hx2 : x < 256 := by have := List.mem_range.1 hx; omega
  have h1 : hG x (((2 ^ v : Nat) : Int), (if c then 1 else 0), (if c then 1 else 0)) = (hasB x v == c) := by
    unfold hG
    rw [Int.toNat_natCast, sz_pow v (by omega) x hx2]
    cases hasB x v <;> cases c <;> rfl
  show ((b.gs ++ [_]).all (hG x) && (b.ps.all (hP x) && inB (sz x : Nat) b.lo b.hi)) = _
  rw [List.all_append, List.all_cons, h1]
  unfold holdsB
  generalize b.gs.all (hG x) = u
  generalize b.ps.all (hP x) = y
  generalize inB (sz x : Nat) b.lo b.hi = z
  cases u <;> cases y <;> cases z <;> cases (hasB x v == c) <;> rfl
theorem or_i64 (x y : Nat) (hx : x < 4611686018427387904) (hy : y < 4611686018427387904) : bits .or .i64 (x : Int) (y : Int) = ((x ||| y : Nat) : Int) := by
  show IntKind.i64.wrap ((BitVec.ofInt 64 (x : Int) ||| BitVec.ofInt 64 (y : Int)).toNat : Int) = _
  rw [BitVec.toNat_or, ofInt_u64 x (by omega), ofInt_u64 y (by omega)]
  have h : x ||| y < 2 ^ 62 := Nat.or_lt_two_pow hx hy
  exact Lib.wrap_i64_small _ (by have : (2:Nat) ^ 62 = 4611686018427387904 := rfl; omega)
theorem bitI_mask (f : Nat → Bool) {k i : Nat} (h : i < k) : bitI (maskTo f k) i = if f i then 1 else 0 := by
  have h1 := maskTo_test f k i
  rw [Nat.testBit_eq_decide_div_mod_eq] at h1
  unfold bitI
  rw [decide_eq_true h, Bool.true_and] at h1
  rcases Nat.mod_two_eq_zero_or_one (maskTo f k / 2 ^ i) with h2 | h2 <;> rw [h2] at h1 ⊢
  · rw [← h1]; rfl
  · rw [← h1]; rfl
/-- Can a number be told? -/
def canB (b : Bn) (n : Nat) : Bool := !(withL (TL b) n).isEmpty
def eachK (b : Bn) (k : Nat) : Bool := (List.range k).all fun n => !canB b n || decide (b.nd ≤ (n : Int))
def someK (b : Bn) (k : Nat) : Bool := (List.range k).any fun n => canB b n && decide (b.nd ≤ (n : Int))
theorem eachK_succ (b : Bn) (k : Nat) : eachK b (k + 1) = (eachK b k && (!canB b k || decide (b.nd ≤ (k : Int)))) := by
  unfold eachK; rw [List.range_succ, List.all_append]; simp
theorem someK_succ (b : Bn) (k : Nat) : someK b (k + 1) = (someK b k || (canB b k && decide (b.nd ≤ (k : Int)))) := by
  unfold someK; rw [List.range_succ, List.any_append]; simp
theorem canB_iff (b : Bn) (n : Nat) : canB b n = true ↔ ∃ x ∈ TL b, sz x = n := by
  unfold canB withL
  constructor
  · intro h
    have h1 : (TL b).filter (fun x => decide ((sz x : Int) = (n : Int))) ≠ [] := by intro e; rw [e] at h; cases h
    obtain ⟨x, hx⟩ := List.exists_mem_of_ne_nil _ h1
    obtain ⟨hx1, hx2⟩ := List.mem_filter.1 hx
    exact ⟨x, hx1, by have := of_decide_eq_true hx2; omega⟩
  · rintro ⟨x, hx, rfl⟩
    have h1 : x ∈ (TL b).filter (fun y => decide ((sz y : Int) = (sz x : Int))) := List.mem_filter.2 ⟨hx, by simp⟩
    cases h2 : (TL b).filter (fun y => decide ((sz y : Int) = (sz x : Int))) with
    | nil => rw [h2] at h1; cases h1
    | cons _ _ => rfl
theorem each_iff {b : Bn} (hv : valid b = true) : eachK b (b.V.toNat + 1) = true ↔ ∀ x ∈ TL b, b.nd ≤ (sz x : Int) := by
  unfold eachK
  rw [List.all_eq_true]
  constructor
  · intro h x hx
    have h1 := h (sz x) (List.mem_range.2 (by have := sz_V hv hx; omega))
    rw [(canB_iff b (sz x)).2 ⟨x, hx, rfl⟩] at h1
    simpa using h1
  · intro h n hn
    cases hc : canB b n
    · rfl
    · obtain ⟨x, hx, rfl⟩ := (canB_iff b n).1 hc
      simpa using h x hx
theorem some_iff {b : Bn} (hv : valid b = true) : someK b (b.V.toNat + 1) = true ↔ ∃ x ∈ TL b, b.nd ≤ (sz x : Int) := by
  unfold someK
  rw [List.any_eq_true]
  constructor
  · rintro ⟨n, hn, h⟩
    rw [Bool.and_eq_true] at h
    obtain ⟨x, hx, rfl⟩ := (canB_iff b n).1 h.1
    exact ⟨x, hx, by simpa using h.2⟩
  · rintro ⟨x, hx, h⟩
    exact ⟨sz x, List.mem_range.2 (by have := sz_V hv hx; omega), by rw [(canB_iff b (sz x)).2 ⟨x, hx, rfl⟩]; simpa using h⟩
/-- What is returned of a vote. -/
structure Kf (b : Bn) (v : Nat) (wh bl al on no : Nat) (is ps e : Int) : Prop where
  known : knownR b = ((wh : Int), (bl : Int), e)
  white : whiteR b v = (is, e)
  passed : passedR b = (ps, e)
  count : countR b = ((al : Int), 0)
  ones : countR (withV b v 1) = ((on : Int), 0)
  none : countR (withV b v 0) = ((no : Int), 0)
  all : on + no = al
  al8 : al ≤ 256
  wh8 : wh < 4611686018427387904
  bl8 : bl < 4611686018427387904
  case : (e = 10 ∧ al = 0 ∧ wh = 0 ∧ bl = 0 ∧ is = 0 ∧ ps = 0) ∨
    (e = 0 ∧ 0 < al ∧ bits .and .i64 (wh : Int) (bl : Int) = 0 ∧ bits .or .i64 (wh : Int) (bl : Int) / 2 ^ b.V.toNat = 0 ∧
      ((no = 0 ∧ 0 < on ∧ bitI wh v = 1 ∧ bitI bl v = 0 ∧ is = 2) ∨ (on = 0 ∧ 0 < no ∧ bitI wh v = 0 ∧ bitI bl v = 1 ∧ is = 0) ∨ (0 < on ∧ 0 < no ∧ bitI wh v = 0 ∧ bitI bl v = 0 ∧ is = 1)) ∧
      ((ps = 2 ∧ eachK b (b.V.toNat + 1) = true ∧ someK b (b.V.toNat + 1) = true) ∨ (ps = 0 ∧ eachK b (b.V.toNat + 1) = false ∧ someK b (b.V.toNat + 1) = false) ∨ (ps = 1 ∧ eachK b (b.V.toNat + 1) = false ∧ someK b (b.V.toNat + 1) = true)) ∧
      ∀ n : Nat, (n : Int) ≤ b.V → ∃ x y, tellR b n = (x, y, if canB b n then 0 else 4))
theorem kf {b : Bn} (hv : valid b = true) (hg : b.gs.length < 4) {v : Nat} (hvV : (v : Int) < b.V) : ∃ wh bl al on no is ps e, Kf b v wh bl al on no is ps e := by
  have hV := valid_V hv
  have hV8 : b.V.toNat ≤ 8 := by omega
  have hvn : v < b.V.toNat := by omega
  have hvb : voterB b v = true := by rw [voterB_of hv]; simp [inB]; omega
  have nc : ∀ x, valid x = true → countR x = ((((TL x).length : Nat) : Int), 0) := fun x hx => by
    unfold countR; rw [if_pos (by unfold chkE; simp [hx])]
  have n1 := nc _ (withV_valid hv hg hvV (lo := 1) (.inr rfl))
  have n0 := nc _ (withV_valid hv hg hvV (lo := 0) (.inl rfl))
  have l1 : (TL (withV b v 1)).length = cntH (TL b) v := by
    have := TL_withV hv hg hvV true
    simp only [if_true] at this
    rw [this, ← List.countP_eq_length_filter]
    unfold cntH
    exact List.countP_congr (fun x _ => by cases hasB x v <;> simp)
  have hle := cntH_le (TL b) v
  have l0 : (TL (withV b v 0)).length = (TL b).length - cntH (TL b) v := by
    have := TL_withV hv hg hvV false
    simp only [Bool.false_eq_true, if_false] at this
    rw [this, ← List.countP_eq_length_filter]
    have h2 := List.length_eq_countP_add_countP (fun x => hasB x v) (l := TL b)
    unfold cntH at hle ⊢
    have h3 : (TL b).countP (fun x => hasB x v == false) = (TL b).countP (fun x => decide ¬ (hasB x v = true)) := List.countP_congr (fun x _ => by cases hasB x v <;> simp)
    omega
  have hl := TL_len hv
  rw [l1] at n1
  rw [l0] at n0
  by_cases ht : TL b = []
  · have e1 : toldE b true = 10 := by unfold toldE; simp [hv, ht]
    refine ⟨0, 0, (TL b).length, cntH (TL b) v, (TL b).length - cntH (TL b) v, 0, 0, 10, ?_, ?_, ?_, nc b hv, n1, n0, by omega, hl, by omega, by omega, .inl ⟨rfl, by rw [ht]; rfl, rfl, rfl, rfl, rfl⟩⟩
    · unfold knownR; rw [e1, if_neg (by omega)]; rfl
    · unfold whiteR; rw [hvb, e1, if_neg (by omega)]
    · unfold passedR; rw [e1, if_neg (by omega)]
  · have e1 : toldE b true = 0 := by unfold toldE; simp [hv, ht]
    have hpos : 0 < (TL b).length := List.length_pos_iff.2 ht
    have w8 : whiteM (TL b) b.V.toNat < 4611686018427387904 := mask_small (by omega)
    have b8 : blackM (TL b) b.V.toNat < 4611686018427387904 := mask_small (by omega)
    refine ⟨whiteM (TL b) b.V.toNat, blackM (TL b) b.V.toNat, (TL b).length, cntH (TL b) v, (TL b).length - cntH (TL b) v, gradedI (cntH (TL b) v) (TL b).length, gradedI (passN (TL b) b.nd) (TL b).length, 0, ?_, ?_, ?_, nc b hv, n1, n0, by omega, hl, w8, b8, .inr ⟨rfl, hpos, ?_, ?_, ?_, ?_, ?_⟩⟩
    · unfold knownR; rw [if_pos e1]
    · unfold whiteR; rw [hvb, if_pos e1, Int.toNat_natCast]
    · unfold passedR; rw [if_pos e1]
    · rw [and_i64 _ _ w8 b8]
      have : whiteM (TL b) b.V.toNat &&& blackM (TL b) b.V.toNat = 0 := by
        apply Nat.eq_of_testBit_eq
        intro i
        rw [Nat.testBit_and, Nat.zero_testBit]
        unfold whiteM blackM
        rw [maskTo_test, maskTo_test]
        by_cases h : cntH (TL b) i = 0
        · have h2 : ¬ 0 = (TL b).length := by omega
          simp [h, h2]
        · simp [h]
      rw [this]; rfl
    · rw [or_i64 _ _ w8 b8]
      have h1 : whiteM (TL b) b.V.toNat ||| blackM (TL b) b.V.toNat < 2 ^ b.V.toNat := Nat.or_lt_two_pow (maskTo_lt _ _) (maskTo_lt _ _)
      have h2 : ((2 : Int) ^ b.V.toNat) = ((2 ^ b.V.toNat : Nat) : Int) := by simp
      rw [h2]
      exact_mod_cast Nat.div_eq_of_lt h1
    · unfold whiteM blackM
      rw [bitI_mask _ hvn, bitI_mask _ hvn]
      unfold gradedI
      by_cases h1 : cntH (TL b) v = (TL b).length
      · left
        have h2 : ¬ (TL b).length = 0 := by omega
        simp [h1, h2]; omega
      · by_cases h2 : cntH (TL b) v = 0
        · right; left
          have h3 : ¬ 0 = (TL b).length := by omega
          simp [h2, h3]; omega
        · right; right
          simp [h1, h2]; omega
    · have hp := List.countP_eq_length (p := fun x => decide (b.nd ≤ (sz x : Int))) (l := TL b)
      have hz := List.countP_eq_zero (p := fun x => decide (b.nd ≤ (sz x : Int))) (l := TL b)
      have he : eachK b (b.V.toNat + 1) = true ↔ passN (TL b) b.nd = (TL b).length := by
        rw [each_iff hv]; unfold passN; rw [hp]; simp
      have hs : someK b (b.V.toNat + 1) = true ↔ ¬ passN (TL b) b.nd = 0 := by
        rw [some_iff hv]; unfold passN; rw [hz]; simp
      unfold gradedI
      by_cases h1 : passN (TL b) b.nd = (TL b).length
      · left
        exact ⟨if_pos h1, he.2 h1, hs.2 (by omega)⟩
      · have hef : eachK b (b.V.toNat + 1) = false := by cases h : eachK b (b.V.toNat + 1); rfl; exact absurd (he.1 h) h1
        by_cases h2 : passN (TL b) b.nd = 0
        · right; left
          exact ⟨by rw [if_neg h1, if_pos h2], hef, by cases h : someK b (b.V.toNat + 1); rfl; exact absurd h2 (hs.1 h)⟩
        · right; right
          exact ⟨by rw [if_neg h1, if_neg h2], hef, hs.2 h2⟩
    · intro n hn
      have hin : inB n 0 b.V = true := by simp [inB]; omega
      unfold tellR canB
      rw [hin, if_pos e1]
      by_cases h : withL (TL b) n = []
      · exact ⟨0, 0, by rw [if_pos h, h]; rfl⟩
      · refine ⟨(whiteM (withL (TL b) n) b.V.toNat : Nat), (blackM (withL (TL b) n) b.V.toNat : Nat), ?_⟩
        rw [if_neg h]
        cases h2 : withL (TL b) n with
        | nil => exact absurd h2 h
        | cons _ _ => rfl
end Go.Proofs.Ytjbjmoghloabpaa
/- append of a whole list, which may be nil, to an owned one. -/
set_option linter.unusedVariables false
set_option linter.unusedSimpArgs false
namespace Go.Ord
/-- A binary operation among effects. -/
theorem wild_binOp {P : Program} {lo : List Oper} {Q : Exit → Act → World → Prop} {H : World → Prop} {k : Nat} {l : List (Nat × Nat)} {a : Act} {w : World} {d : Option Tmp} {ty t1 t2 : TypeId} {pos : String} {af : Array Edge} {g : Option (Nat × Bool)} {bo : BinOp} {x y : Operand}
    (v : Value) (ho : lo[k]? = some ⟨d, .binOp bo t1 x y t2, ty, pos, af, g⟩) (hr : ∀ W, (execOp a.eval ⟨d, .binOp bo t1 x y t2, ty, pos, af, g⟩).run P W = .ok (.value v) W)
    (h : ∀ K : Act → World → Prop, (∀ a, walk P lo.toArray H Q l a w → K a w) → wpList P lo.toArray (Exit.then K (fun _ _ _ => False)) [⟨d, .move (.const v), ty, pos, af, g⟩] a w) : walk P lo.toArray H Q ((k, 1) :: l) a w :=
  walk_wild_as ho v (fun W _ => by unfold yields; rw [hr W]; exact ⟨rfl, rfl⟩) h
end Go.Ord
namespace Go.Proofs.Ytjbjmoghloabpaa
open Go.RowKit Go.Proofs
/-- A list's cells, or nil. -/
def SrcAt (w : World) (sv : Value) (m size : Nat) (news : List Value) : Prop :=
  news.length = m * size ∧ ((∃ c, sv = .slice none m c ∧ m = 0) ∨ ∃ ad c, sv = .slice (some ad) m c ∧ ∀ j u, news[j]? = some u → w.cell? (ad.add j) = some u)
section
variable {P : Program} {w : World}
theorem run_append_none (base : Nat) (t ty e : TypeId) (i : TypeInfo) (ht : P.underlying t = some (.slice e)) (hi : P.info? e = some i)
    (v : Value) (n : Nat) (size : Nat) (xs : List Value) (hown : w.ownsRow base e size v n xs) (c : Nat) :
    (Builtin.append_ #[t, t] ty #[v, .slice none 0 c]).run P w = .ok v w := by
  rcases hown.2 with ⟨rfl, rfl⟩ | ⟨g, cap, cur, rfl, hbg, hg, hnc, hcm, hcs, htake⟩
  · simp [Builtin.append_, run_underlying ht, sizeOf, typeInfo, hi, Builtin.lenOf, Builtin.firstCells]
  · simp [Builtin.append_, run_underlying ht, sizeOf, typeInfo, hi, Builtin.lenOf, Builtin.firstCells, storeCells, hnc]
theorem wpList_append_src {ops : Array Oper} {rest : List Oper} {o : Oper} {a : Act} {Q : Exit → Act → World → Prop} (hgd : o.guard = none) (s x : Operand) (t : TypeId)
    (ho : o.op = .call { callee := .builtin .append, args := #[s, x], argTypes := #[t, t] })
    (base : Nat) (e : TypeId) (i : TypeInfo) (z : Value) (size bytes : Nat) (ht : P.underlying t = some (.slice e)) (hi : P.info? e = some i) (hz : i.zero = some z)
    (hsize : i.size = size) (hby : i.bytes = bytes) (hzs : z.cells.size = size) (hsz : 0 < size)
    (v : Value) (n : Nat) (xs : List Value) (hs : a.eval s = v) (hown : w.ownsRow base e size v n xs)
    (sv : Value) (m : Nat) (news : List Value) (hx : a.eval x = sv) (hsrc : SrcAt w sv m size news) (h1 : ∀ u ∈ news, u.oneCell' = true)
    (h63 : n + m ≤ maxLen) (hbytes : (n + m) * bytes ≤ 140737488355328) (hbase : base ≤ w.heap.size)
    (h : ∀ v' w', w'.ownsRow base e size v' (n + m) (xs ++ news) → w.grownBy w' v.ownBlock → wpList P ops Q rest (a.put o.dst v') w') : wpList P ops Q (o :: rest) a w := by
  obtain ⟨hl, ⟨c, rfl, rfl⟩ | ⟨ad, c, rfl, hnews⟩⟩ := hsrc
  · have hn : news = [] := List.eq_nil_of_length_eq_zero (by simpa using hl)
    subst hn
    refine wpList_plain hgd fun K hK => ?_
    have hr := run_append_none (P := P) (w := w) base t o.type e i ht hi v n size xs hown c
    unfold Oper.wp execOp
    simp only [ho, resolve, invoke, builtin, Sem.run_bind, Sem.run_pure, Result.andThen_ok, List.map_toArray, List.map_cons, List.map_nil, hs, hx, hr]
    refine hK _ _ (h v w (by simpa using hown) ⟨rfl, rfl, rfl, Nat.le_refl _, fun _ _ _ => rfl⟩)
  · exact wpList_append_own w hgd s x t ho base e i z size bytes ht hi hz hsize hby hzs hsz v n xs hs hown ad m c news hx hl hnews h1 h63 hbytes hbase (fun v' w' h2 h3 _ => h v' w' h2 h3)
end
theorem flat_src {α : Type} (f : α → List Value) (hf : ∀ a, (f a).length = 3) (l : List α) (ga : Option Addr) (gc : Nat) (w : World)
    (h : ∀ i (hi : i < l.length), ∃ gb go, ga = some ⟨gb, go, none⟩ ∧ ∀ j, j < 3 → ∀ u, (f l[i])[j]? = some u → w.cell? ⟨gb, go + i * 3 + j, none⟩ = some u) :
    SrcAt w (.slice ga l.length gc) l.length 3 (l.flatMap f) := by
  have hlen : (l.flatMap f).length = l.length * 3 := by
    clear h
    induction l with
    | nil => rfl
    | cons a l ih => rw [List.flatMap_cons, List.length_append, ih, hf, List.length_cons]; omega
  refine ⟨hlen, ?_⟩
  cases ga with
  | none =>
    left
    refine ⟨gc, rfl, ?_⟩
    cases l with
    | nil => rfl
    | cons a l => obtain ⟨gb, go, e, _⟩ := h 0 (by simp); cases e
  | some ad =>
    right
    refine ⟨ad, gc, rfl, fun j u hj => ?_⟩
    have hjl : j < (l.flatMap f).length := (List.getElem?_eq_some_iff.1 hj).1
    have hi : j / 3 < l.length := by omega
    obtain ⟨gb, go, e, hc⟩ := h (j / 3) hi
    obtain rfl : ad = ⟨gb, go, none⟩ := by injection e
    have hr : j % 3 < 3 := Nat.mod_lt _ (by omega)
    have h1 := flat_get f hf l (j / 3) hi (j % 3) hr
    rw [show j / 3 * 3 + j % 3 = j by omega] at h1
    have h2 := hc (j % 3) hr u (by rw [← h1]; exact hj)
    rw [Addr.add_lit]
    rw [show go + j = go + j / 3 * 3 + j % 3 by omega]
    exact h2
theorem GsAt.src {w : World} {ga : Option Addr} {gs : List (Int × Int × Int)} (h : GsAt w ga gs) (gc : Nat) : SrcAt w (.slice ga gs.length gc) gs.length 3 (gs.flatMap gcell) :=
  flat_src gcell (fun _ => rfl) gs ga gc w fun i hi => by
    obtain ⟨gb, go, e, h1, h2, h3⟩ := h i hi
    refine ⟨gb, go, e, fun j hj u hu => ?_⟩
    match j, hj with
    | 0, _ => simp only [gcell, List.getElem?_cons_zero, Option.some.injEq] at hu; subst hu; exact h1
    | 1, _ => simp only [gcell, List.getElem?_cons_succ, List.getElem?_cons_zero, Option.some.injEq] at hu; subst hu; exact h2
    | 2, _ => simp only [gcell, List.getElem?_cons_succ, List.getElem?_cons_zero, Option.some.injEq] at hu; subst hu; exact h3
theorem PsAt.src {w : World} {ga : Option Addr} {gs : List (Int × Int × Bool)} (h : PsAt w ga gs) (gc : Nat) : SrcAt w (.slice ga gs.length gc) gs.length 3 (gs.flatMap pcell) :=
  flat_src pcell (fun _ => rfl) gs ga gc w fun i hi => by
    obtain ⟨gb, go, e, h1, h2, h3⟩ := h i hi
    refine ⟨gb, go, e, fun j hj u hu => ?_⟩
    match j, hj with
    | 0, _ => simp only [pcell, List.getElem?_cons_zero, Option.some.injEq] at hu; subst hu; exact h1
    | 1, _ => simp only [pcell, List.getElem?_cons_succ, List.getElem?_cons_zero, Option.some.injEq] at hu; subst hu; exact h2
    | 2, _ => simp only [pcell, List.getElem?_cons_succ, List.getElem?_cons_zero, Option.some.injEq] at hu; subst hu; exact h3
theorem gcell_one (l : List (Int × Int × Int)) : ∀ u ∈ l.flatMap gcell, u.oneCell' = true := by
  intro u hu
  obtain ⟨g, _, hg⟩ := List.mem_flatMap.1 hu
  simp only [gcell, List.mem_cons, List.not_mem_nil, or_false] at hg
  rcases hg with rfl | rfl | rfl <;> rfl
theorem pcell_one (l : List (Int × Int × Bool)) : ∀ u ∈ l.flatMap pcell, u.oneCell' = true := by
  intro u hu
  obtain ⟨g, _, hg⟩ := List.mem_flatMap.1 hu
  simp only [pcell, List.mem_cons, List.not_mem_nil, or_false] at hg
  rcases hg with rfl | rfl | rfl <;> rfl
end Go.Proofs.Ytjbjmoghloabpaa
