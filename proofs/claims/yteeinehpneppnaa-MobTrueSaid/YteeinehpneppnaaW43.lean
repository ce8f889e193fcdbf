/- Parts of a proof: MvB. -/
import Derived.Test.YteeinehpneppnaaW42
import Derived.Test.YteeinehpneppnaaW39
/- The law's truly: a way of which what was seen is right. -/
set_option linter.unusedVariables false
namespace Go.Ord.Two
theorem wp_regionN {P : Program} {Q : Exit → Act → World → Prop} {id : Nat} {a : Act} {w : World} {lo : List Oper} (l1 l2 : List (Nat × Nat)) (H : World → Prop) (hm : P.follows .mixedOrders = true) (hp : planOk lo.toArray l1 l2 = true)
    (hH : H w.drew) (h : walk P lo.toArray H (Qn (Nm Q) (walk P lo.toArray (fun _ => True) (Nm Q) l2)) l1 a w.drew) : (Code.region id lo.toArray true).wp P Q a w := by
  refine wp_mono (wp_region (Q := Nm Q) l1 l2 H hm hp (fun c a d v w h => h.elim) hH h) ?_
  intro e a w h
  cases e <;> first | exact h | exact h.elim
end Go.Ord.Two
set_option linter.unusedVariables false
set_option linter.unusedSimpArgs false
namespace Go.Proofs.Yteeinehpneppnaa
open Go.RowKit Go.Proofs
attribute [local irreducible] Ord.walk
theorem prodL_snoc {l : List (Int × Int)} {L : List Int} {lo hi v : Int} (h : L ∈ prodL l) (h1 : lo ≤ v) (h2 : v ≤ hi) : L ++ [v] ∈ prodL (l ++ [(lo, hi)]) := by
  obtain ⟨hl, hg⟩ := (mem_prodL _ _).1 h
  refine (mem_prodL _ _).2 ⟨by simp [hl], fun i hi => ?_⟩
  simp only [List.length_append, List.length_cons, List.length_nil] at hi
  rcases Nat.lt_or_ge i l.length with c | c
  · obtain ⟨y, e, h3⟩ := hg i c
    refine ⟨y, by rw [List.getElem?_append_left (by omega)]; exact e, ?_⟩
    simp only [List.getElem_append_left c]
    exact h3
  · obtain rfl : i = l.length := by omega
    refine ⟨v, by rw [← hl]; simp, ?_⟩
    simp only [List.getElem_append_right (Nat.le_refl _), Nat.sub_self, List.getElem_cons_zero]
    exact ⟨h1, h2⟩
def seenM (m : Mb) (S : List (Int × Int × Int × Int)) : Mb := { m with seen := S }
/-- What was seen is right. -/
def SOk (m : Mb) (L D : List Int) (S : List (Int × Int × Int × Int)) : Prop := ∀ s ∈ S, (fromB m s.1 s.2.1 = true ∧ 0 ≤ s.2.2.1 ∧ s.2.2.1 ≤ s.2.2.2 ∧ s.2.2.2 ≤ 100) ∧ seenB m L D s = true
theorem SOk.valid {m : Mb} {L D : List Int} {S : List (Int × Int × Int × Int)} (hv : validM m = true) (hS : SOk m L D S) (hl : S.length ≤ 5) : validM (seenM m S) = true := by
  have h := vparts hv
  have hlen := h.len
  exact validM_mk h.pl ⟨hlen.1, hlen.2.1, hlen.2.2.1, hlen.2.2.2.1, hl⟩ h.lg h.hd (fun s hs => (hS s hs).1)
theorem SOk.mem {m : Mb} {L D : List Int} {S : List (Int × Int × Int × Int)} (hv : validM m = true) (hS : SOk m L D S) (hl : S.length ≤ 5) (hL : L ∈ prodL m.legs) (hD : D ∈ prodL (leavesL m)) : (L, D) ∈ TM (seenM m S) :=
  (mem_TM (hS.valid hv hl) L D).2 ⟨hL, hD, fun s hs => (seenB_with m S L D s).trans (hS s hs).2⟩
/-- One more that is right. -/
theorem SOk.snoc {m : Mb} {L D : List Int} {S : List (Int × Int × Int × Int)} (hS : SOk m L D S) {s : Int × Int × Int × Int} (hf : fromB m s.1 s.2.1 = true) {n a b : Int} (hn : dayAt m L D s.1.toNat s.2.1.toNat = n) (hn0 : 0 ≤ n ∧ n ≤ 100) (ha : 0 ≤ a) (hb : 0 ≤ b) : SOk m L D (S ++ [(s.1, s.2.1, max 0 (n - a), min 100 (n + b))]) := by
  intro x hx
  rcases List.mem_append.1 hx with h | h
  · exact hS x h
  · simp only [List.mem_singleton] at h
    subst h
    refine ⟨⟨hf, by simp only; omega, by simp only; omega, by simp only; omega⟩, ?_⟩
    unfold seenB inB
    simp only [hn, Bool.and_eq_true, decide_eq_true_eq]
    omega
theorem own_ints {w : World} {base : Nat} {e : TypeId} {a : Option Addr} {c : Nat} {l : List Int} (h : w.ownsRow base e 1 (.slice a l.length c) l.length (l.flatMap itc)) : IntsM w a l := by
  obtain ⟨a', c', e', hr⟩ := own_rows (f := itc) (fun _ => rfl) h
  cases e'
  exact hr
theorem results_cell_tmp2_blk {fn : Func} {p u v : Tmp} {ty : TypeId} {w : World} (h : fn.results = #[.cell p ty, .tmp u, .tmp v]) (tmps : Array Value) {n : Nat} (hk : AggTy Try.prog ty n) {b : Nat} (hp : tmps.getD p undef = .pointer (some ⟨b, 0, none⟩)) {A : Array Value} {t : TypeId} (hb : Blk w b A t) (hs : A.size = n) :
    (results fn tmps).run Try.prog w = .ok (.tuple #[.agg A, tmps.getD u undef, tmps.getD v undef]) w := by
  have hp' : tmps[p]?.getD undef = .pointer (some ⟨b, 0, none⟩) := by simpa using hp
  simp [results, h, hp', asAddr, loadVar_blk hk hb hs]
/-- The cells that truly's last region loads. -/
def HS4 (p4 p12 : Nat) (u a b : Value) (W : World) : Prop := W.cell? ⟨p4, 3, none⟩ = some u ∧ W.cell? ⟨p12, 0, none⟩ = some a ∧ W.cell? ⟨p12, 1, none⟩ = some b
theorem HS4.drew {p4 p12 : Nat} {u a b : Value} {W : World} (h : HS4 p4 p12 u a b W) : HS4 p4 p12 u a b W.drew := h
theorem HS4.below {p4 p12 : Nat} {u a b : Value} {W W' : World} (h : HS4 p4 p12 u a b W) (hb : Below W.heap.size W W') : HS4 p4 p12 u a b W' := ⟨cell_later hb h.1, cell_later hb h.2.1, cell_later hb h.2.2⟩
theorem HS4.alloc {p4 p12 : Nat} {u a b : Value} {W : World} (h : HS4 p4 p12 u a b W) (o : Obj) : HS4 p4 p12 u a b (W.alloc o) := h.below ((Below.refl _ _).alloc (Nat.le_refl _) _)
theorem HS4.off {p4 p12 : Nat} {u a b : Value} {W W' : World} {T : List Nat} (h : HS4 p4 p12 u a b W) (ho : Off T W.heap.size W W') (h1 : p4 ∉ T) (h2 : p12 ∉ T) : HS4 p4 p12 u a b W' :=
  ⟨(ho.cell (a := ⟨p4, 3, none⟩) (World.block_lt_of_cell? W _ h.1) h1).trans h.1, (ho.cell (a := ⟨p12, 0, none⟩) (World.block_lt_of_cell? W _ h.2.1) h2).trans h.2.1, (ho.cell (a := ⟨p12, 1, none⟩) (World.block_lt_of_cell? W _ h.2.2) h2).trans h.2.2⟩
theorem min2_run (a b : Int) (W : World) : (Builtin.min2 (.int .i64 a) (.int .i64 b)).run Try.prog W = .ok (.int .i64 (min a b)) W := by
  by_cases h : b < a
  · have : min a b = b := by omega
    simp [Builtin.min2, go_sem, h, this]
  · have : min a b = a := by omega
    simp [Builtin.min2, go_sem, h, this]
theorem yields_max {o : Oper} {a : Act} {W : World} {x y : Operand} {p q : Int} (ho : o.op = .call { callee := .builtin .max, args := [x, y].toArray, argTypes := #[3, 3] }) (hx : a.eval x = .int .i64 p) (hy : a.eval y = .int .i64 q) : Ord.yields Try.prog o a W (.int .i64 (max p q)) := by
  unfold Ord.yields
  generalize a.eval = ev at *
  simp [execOp, ho, hx, hy, Builtin.max_, go_sem, max2_run, Ord.yieldUpon]
theorem wpList_min2 {ops : Array Oper} {Q : Exit → Act → World → Prop} {o : Oper} {rest : List Oper} {a : Act} {w : World} (x y : Operand) (hgd : o.guard = none) (ho : o.op = .call { callee := .builtin .min, args := [x, y].toArray, argTypes := #[3, 3] }) {p q : Int} (hx : a.eval x = .int .i64 p) (hy : a.eval y = .int .i64 q)
    (hK : wpList Try.prog ops Q rest (a.put o.dst (.int .i64 (min p q))) w) : wpList Try.prog ops Q (o :: rest) a w := by
  refine wpList_plain hgd fun K' hK' => ?_
  have := hK' _ _ hK
  unfold Oper.wp
  generalize a.eval = ev at *
  simp [execOp, ho, hx, hy, Builtin.min_, go_sem, min2_run, Result.andThen]
  exact this
/-- What truly returns. -/
def TrulyP (m : Mb) (A : Ma) (w0 w : World) (n : Nat) (e : Ending) (w' : World) : Prop := ∃ (L D : List Int) (S : List (Int × Int × Int × Int)) (la : Option Addr) (lc : Nat) (da : Option Addr) (dc : Nat) (sa : Option Addr) (sc : Nat),
  e = .returned (.tuple #[.agg #[.slice A.pa m.places.length A.pc, .slice A.la m.legs.length A.lc, .slice A.ha m.herds.length A.hc, .slice sa S.length sc], .slice la L.length lc, .slice da D.length dc]) ∧
  L ∈ prodL m.legs ∧ D ∈ prodL (leavesL m) ∧ SOk m L D S ∧ S.length = m.seen.length ∧ RowsAt w' sa 4 i4c S ∧ IntsM w' la L ∧ IntsM w' da D ∧ Below w0.heap.size w0 w' ∧ Off [n + 1] w.heap.size w w'
/-- A map that has a number at a place. -/
def Looks (w : World) (mp : Nat) (p v : Int) : Prop := ∃ l, MapII w mp l ∧ OkI l ∧ Ik p ∧ getI l p = v
theorem l_tripAt {m : Mb} {A : Ma} (hv : validM m = true) {L D : List Int} (hL : L ∈ prodL m.legs) (hD : D ∈ prodL (leavesL m)) {h p : Nat} (hh : h < m.herds.length) (h1 : startN m h ≤ p) (h2 : p < m.places.length) {a : Option Addr} (c : Nat) (W : World) (hm : MbAt W m A) (hr : IntsM W a L) :
    Calls Try.prog 31 #[mv m A, .int .i64 (h : Int), .slice a L.length c, .int .i64 (D.getD h 0)] W (fun e w' => ∃ mp s0, e = .returned (.tuple #[.map (some mp), .int .i64 s0]) ∧ Looks w' mp (p : Int) (dayAt m L D h p) ∧ Below W.heap.size W w') := by
  have hb := day_in hv (trOk_of hL hD) h
  refine (l_trip h c (D.getD h 0) W hm hv hh hL hr hb.1 hb.2).mono ?_
  rintro e w' ⟨mp, h3, h4, h5, h6⟩
  have hlen := validM_len hv
  refine ⟨mp, _, h3, ⟨_, h4, tripL_ok m L (startN m h) _ _ (by omega), ⟨by omega, by omega⟩, ?_⟩, h6⟩
  obtain ⟨q, hq⟩ : ∃ q, startN m h + q = p := ⟨p - startN m h, by omega⟩
  rw [← hq, tripL_get m L (startN m h) _ (by omega) (by omega)]
  unfold dayAt
  rw [show startN m h + q - startN m h = q by omega]
set_option maxHeartbeats 40000000 in
set_option maxRecDepth 100000 in
theorem l_truly {m : Mb} {A : Ma} {n c0 : Nat} {bl : List Int} {ab : Option Addr} (w0 w : World) (hm : MbAt w0 m A) (hv : validM m = true) (hB : Below w0.heap.size w0 w) (hn : w0.heap.size ≤ n) (hd : DrAt w n bl ab c0 0) (hl : bl.length ≤ maxLen) (hx : ∀ x ∈ bl, 0 ≤ x ∧ x < 65536) :
    Calls Try.prog 29 #[mv m A, drF n] w (TrulyP m A w0 w n) := by
  have hlen := validM_len hv
  have hvp := vparts hv
  have HMR : Hid (∀ W, Below w0.heap.size w0 W → MbAt W m A) := fun W h => hm.below h
  have HFin : Hid (∀ L D S la lc da dc sa sc w', L ∈ prodL m.legs → D ∈ prodL (leavesL m) → SOk m L D S → S.length = m.seen.length → RowsAt w' sa 4 i4c S → IntsM w' la L → IntsM w' da D → Below w0.heap.size w0 w' → Off [n + 1] w.heap.size w w' → TrulyP m A w0 w n (.returned (.tuple #[.agg #[.slice A.pa m.places.length A.pc, .slice A.la m.legs.length A.lc, .slice A.ha m.herds.length A.hc, .slice sa S.length sc], .slice la L.length lc, .slice da D.length dc])) w') := fun L D S la lc da dc sa sc w' h1 h2 h3 h4 h5 h6 h7 h8 h9 => ⟨L, D, S, la, lc, da, dc, sa, sc, rfl, h1, h2, h3, h4, h5, h6, h7, h8, h9⟩
  generalize TrulyP m A w0 w n = Q at *
  have HDr : Hid (∀ (k : Nat) lo hi W, DrAt W n bl ab c0 k → k ≤ 1000 → 0 ≤ lo → lo ≤ hi → hi ≤ 1000 → Calls Try.prog 90 #[.agg #[.int .i64 lo, .int .i64 hi], .pointer (some ⟨n + 1, 0, none⟩), .pointer (some ⟨n, 0, none⟩)] W (fun e w' => ∃ v, e = .returned (.int .i64 v) ∧ lo ≤ v ∧ v ≤ hi ∧ DrAt w' n bl ab c0 (k + 1) ∧ Off [n + 1] W.heap.size W w')) := fun k lo hi W h hk a b c => l_draw lo hi W h hl hx hk a b c
  have HLg : Hid (∀ k, (h : k < m.legs.length) → 1 ≤ m.legs[k].1 ∧ m.legs[k].1 ≤ m.legs[k].2 ∧ m.legs[k].2 ≤ 5) := fun k h => by have := hvp.lg _ (List.getElem_mem h); omega
  have HHd : Hid (∀ k, (h : k < m.herds.length) → 0 ≤ m.herds[k].2.1 ∧ m.herds[k].2.1 ≤ m.herds[k].2.2.1 ∧ m.herds[k].2.2.1 ≤ 30) := fun k h => by have := hvp.hd _ (List.getElem_mem h); omega
  have HLl : Hid (∀ k, (h : k < m.legs.length) → m.legs.take (k + 1) = m.legs.take k ++ [m.legs[k]]) := fun k h => List.take_succ_eq_append_getElem h
  have HDl : Hid (∀ k, (h : k < m.herds.length) → (leavesL m).take (k + 1) = (leavesL m).take k ++ [(m.herds[k].2.1, m.herds[k].2.2.1)]) := fun k h => by
    rw [List.take_succ_eq_append_getElem (by simpa [leavesL] using h)]
    simp [leavesL]
  have HDn : Hid ((leavesL m).length = m.herds.length) := by show _ = _; simp [leavesL]
  have HSp := Lib.hid l_span
  have HSe := Lib.hid l_seen
  obtain ⟨i0, hi0, hz0, hz1, hz2⟩ := info_of Try.info3
  obtain ⟨j0, hj0, kz0, kz1, kz2⟩ := info_parts Try.info64
  have HV := Lib.hid hv
  have hdl := hd.lt
  obtain ⟨p2, hp2⟩ : ∃ p2, w.heap.size = p2 := ⟨_, rfl⟩
  have HP2 := Lib.hid hp2
  have hp2n : n + 1 < p2 := by omega
  have hp20 : w0.heap.size ≤ p2 := by omega
  have HT : Hid (∀ L D, L ∈ prodL m.legs → D ∈ prodL (leavesL m) → ∀ k, (hk : k < m.seen.length) → ∃ (h p : Nat), m.seen[k].1 = (h : Int) ∧ m.seen[k].2.1 = (p : Int) ∧ h < D.length ∧ p ≤ 5 ∧ fromB m h p = true ∧ 0 ≤ dayAt m L D h p ∧ dayAt m L D h p ≤ 100 ∧ ∀ a c W, Below w0.heap.size w0 W → IntsM W a L →
      Calls Try.prog 31 #[mv m A, .int .i64 (h : Int), .slice a L.length c, .int .i64 (D.getD h 0)] W (fun e w' => ∃ mp s0, e = .returned (.tuple #[.map (some mp), .int .i64 s0]) ∧ Looks w' mp (p : Int) (dayAt m L D h p) ∧ Below W.heap.size W w')) := fun L D hL hD k hk => by
    have h1 := (hvp.sn _ (List.getElem_mem hk)).1
    obtain ⟨q1, q2, q3, q4, q5⟩ := from_herd h1
    obtain ⟨h, hh⟩ : ∃ h : Nat, m.seen[k].1 = (h : Int) := ⟨_, (Int.toNat_of_nonneg q1).symm⟩
    obtain ⟨p, hp⟩ : ∃ p : Nat, m.seen[k].2.1 = (p : Int) := ⟨_, (Int.toNat_of_nonneg q3).symm⟩
    rw [hh, hp] at h1
    rw [hh] at q2 q5
    rw [hp] at q4 q5
    have hhl : h < m.herds.length := by omega
    have hst := start_le hv hhl
    have hDl : D.length = m.herds.length := by rw [((mem_prodL _ _).1 hD).1]; simp [leavesL]
    have hdd := dayAt_in hv (trOk_of hL hD) h p (by omega)
    exact ⟨h, p, hh, hp, by omega, by omega, h1, hdd.1, hdd.2, fun a c W hW hr => l_tripAt hv hL hD hhl (by omega) (by omega) c W (hm.below hW) hr⟩
  have HS0 : Hid (∀ L D, SOk m L D []) := fun L D s hs => absurd hs (by simp)
  have HSn : Hid (∀ L D S (h p : Nat) (n a b : Int), SOk m L D S → fromB m h p = true → dayAt m L D h p = n → 0 ≤ n ∧ n ≤ 100 → 0 ≤ a → 0 ≤ b → SOk m L D (S ++ [((h : Int), (p : Int), max 0 (n - a), min 100 (n + b))])) := fun L D S h p n a b h1 h2 h3 h4 h5 h6 => h1.snoc (s := ((h : Int), (p : Int), 0, 0)) h2 h3 h4 h5 h6
  generalize leavesL m = lv at *
  generalize SOk m = so at *
  generalize dayAt m = dy at *
  generalize fromB m = fb at *
  rcases A with ⟨pa, pc, la, lc, ha, hc, sa, sc⟩
  rcases m with ⟨ps, ls, hs, ss⟩
  unfold mv mcells drF at *
  simp only at *
  have hl5 : (ls.length : Int) ≤ 5 := by omega
  have hh4 : (hs.length : Int) ≤ 4 := by omega
  have hs5 : (ss.length : Int) ≤ 5 := by omega
  clear hm hv hvp hx hl
  go_enter Try.func29, Try.ntmps29
  go_wp2_with fail
  obtain ⟨Wa, hWa⟩ : ∃ Wa, (w.alloc (.cells #[.slice pa ps.length pc, .slice la ls.length lc, .slice ha hs.length hc, .slice sa ss.length sc] 27)).alloc (.cells #[.slice none 0 0, .slice none 0 0, .slice none 0 0, .slice none 0 0] 27) = Wa := ⟨_, rfl⟩
  have b2a : Blk Wa p2 #[.slice pa ps.length pc, .slice la ls.length lc, .slice ha hs.length hc, .slice sa ss.length sc] 27 := by rw [← hWa]; exact (Blk.new' _ _ _ _ hp2).alloc _
  have b4a : Blk Wa (p2 + 1) #[.slice none 0 0, .slice none 0 0, .slice none 0 0, .slice none 0 0] 27 := by rw [← hWa]; exact Blk.new' _ _ _ _ (by simp [hp2])
  have hab : Below w.heap.size w Wa := by rw [← hWa]; (repeat (first | assumption | exact Below.refl _ _ | refine Below.drew ?_ | refine Below.alloc ?_ (by first | omega | (simp; done) | (simp; omega)) _ | refine Below.setCell ?_ (by first | omega | (simp; done) | (simp; omega)) _ | refine Below.trans ?_ (Below.mono (by assumption) (by first | omega | (simp; done) | (simp; omega)))))
  have hPa : Off [n + 1] p2 w Wa := Off.of_below hab (by omega)
  have hda := hd.below (hab.mono (by omega))
  have hBa : Below w0.heap.size w0 Wa := hB.trans (hab.mono (by omega))
  have hza : Wa.heap.size ≤ p2 + 2 ∧ p2 + 2 ≤ Wa.heap.size := by rw [← hWa]; simp; omega
  rw [hWa]
  (try simp only [hp2])
  clear hWa hab hd hB hdl hp2
  have r2 := b2a.cell
  go_wp2_with fail
  go_loopw [5, 19] (fun x5 x19 wr => ∃ (k : Nat) (L : List Int), k ≤ ls.length ∧ x19 = .int .i64 (k : Int) ∧ L ∈ prodL (ls.take k) ∧ Off [n + 1] (p2 + 2) Wa wr ∧ DrAt wr n bl ab c0 k ∧ wr.ownsRow (p2 + 2) 3 1 x5 L.length (L.flatMap itc)) (fun _ x19 _ => ls.length - (intOf x19).toNat)
  case atStart => exact ⟨0, [], by omega, rfl, by simp [prodL], Off.refl _ _ _, hda, by simpa using World.ownsRow_nil _ _ _ _⟩
  case round =>
    obtain ⟨k', L, hk, rfl, hL, hO, hdr, own⟩ := hrel
    clear r2
    have hBr : Below w0.heap.size w0 wr := hBa.trans (hO.below (by omega) (by simp; omega))
    have hsr := hO.size
    have hLl : L.length = k' := by rw [((mem_prodL _ _).1 hL).1, List.length_take]; omega
    by_cases hlt : k' < ls.length
    · have hlti : (k' : Int) < (ls.length : Int) := Int.ofNat_lt.2 hlt
      obtain ⟨gl, gol, rfl, el1, el2⟩ := (HMR.out _ hBr).legs.get2 hlt
      have hlg := HLg.out k' hlt
      have hLl1 := HLl.out k' hlt
      simp only at el1 el2 hLl1
      generalize ls[k'] = lx at *
      obtain ⟨l1, l2⟩ := lx
      simp only at el1 el2 hlg
      have HL1 := Lib.hid hLl1
      have HLk := Lib.hid hLl
      clear hLl1 hLl
      go_wp2_with (first
        | (refine wpList_store_blk 39 (.tmp 8) (.tmp 22) agg_span rfl rfl rfl rfl (Blk.new _ _ _) rfl rfl (by simp [Value.oneCell']) ?_; intro w20 h; refine at_stop ?_))
      unfold Stop
      have b8 := h.blk
      have hb20 : Below wr.heap.size wr w20 := h.below ((Below.refl _ _).alloc (Nat.le_refl _) _) (Nat.le_refl _)
      have hlr := hdr.lt
      have hdr20 := hdr.below (hb20.mono (by omega))
      have own20 := ownsRow_below own hb20
      have hO20 := hO.trans (Off.of_below hb20 (by omega))
      have hs20 := hb20.size
      clear h el1 el2 hdr own hO
      go_wp2_with (first
        | (refine wpList_load_blk 39 (.tmp 8) agg_span rfl rfl rfl b8 rfl ?_)
        | (go_at_call 90; refine (HDr.out k' l1 l2 w20 hdr20 (by omega) (by omega) (by omega) (by omega)).mono ?_; rintro e w21 ⟨v, rfl, hv1, hv2, hdr21, hoff⟩; refine at_stop ?_))
      unfold Stop
      have own21 := ownsRow_off own20 hoff (by simp; omega)
      have hO21 := hO20.trans (hoff.mono (by omega) (fun _ _ h => h))
      have hs21 := hoff.size
      clear hoff own20 hO20 hdr20 b8
      go_wp2_with (first | (at_builtin; refine at_stop ?_))
      unfold Stop
      refine wpList_appendW rfl (.tmp 23) (.tmp 27) 50 rfl (p2 + 2) 3 i0 (.int .i64 0) 1 8 Try.underlying50 hi0 hz0 hz1 hz2 rfl (by decide) u5 L.length (L.flatMap itc) rfl (World.ownsRow.alloc own21 _) (.slice (some ⟨_, 0, none⟩) 1 1) 1 [.int .i64 v] rfl ⟨rfl, .inr ⟨_, _, rfl, news_blk (A := #[.int .i64 v]) (Blk.new _ _ _)⟩⟩ (by simp [Value.oneCell']) (by have := HLk.out; unfold maxLen; omega) (by have := HLk.out; omega) (by first | omega | (simp; done) | (simp; omega)) ?_
      intro va wa owna hga hwa
      have hl21 := hdr21.lt
      have hge : ∀ g, u5.ownBlock = some g → p2 + 2 ≤ g := fun g e => (own21.lt g e).1
      go_wp2_with fail
      refine ⟨⟨k' + 1, L ++ [v], by omega, by go_num, by rw [HL1.out]; exact prodL_snoc hL hv1 hv2, (hO21.alloc (by omega) _).grown hga (by simp; omega) (fun g e => .inr (hge g e)), hdr21.below (Below.grown ((Below.refl _ _).alloc (by omega) _) hga (by simp; omega) (fun g e => by have := hge g e; omega)), by simpa [itc] using owna⟩, by simp [intOf]; omega⟩
    · have hlti : ¬ (k' : Int) < (ls.length : Int) := by omega
      obtain rfl : k' = ls.length := by omega
      rw [List.take_of_length_le (Nat.le_refl _)] at hL
      have b2r := hO.blk b2a (by omega) (by simp; omega)
      have b4r := hO.blk b4a (by omega) (by simp; omega)
      have hlr := hdr.lt
      have hP1 := hPa.trans (hO.mono (by omega) (fun _ _ h => h))
      clear hPa hO b2a b4a hda hBa hlti hlt hk hLl
      generalize wr = w1 at *
      clear wr
      obtain ⟨z2, hz2'⟩ : ∃ z, w1.heap.size = z := ⟨_, rfl⟩
      have hzz : w1.heap.size ≤ z2 ∧ z2 ≤ w1.heap.size := by omega
      clear hz2'
      have r2 := b2r.cell
      go_wp2_with fail
      go_loopw [6, 33] (fun x6 x33 wr => ∃ (k : Nat) (D : List Int), k ≤ hs.length ∧ x33 = .int .i64 (k : Int) ∧ D ∈ prodL (lv.take k) ∧ Off [n + 1] z2 w1 wr ∧ DrAt wr n bl ab c0 (ls.length + k) ∧ wr.ownsRow z2 3 1 x6 D.length (D.flatMap itc)) (fun _ x33 _ => hs.length - (intOf x33).toNat)
      case atStart => exact ⟨0, [], by omega, rfl, by simp [prodL], Off.refl _ _ _, hdr, by simpa using World.ownsRow_nil _ _ _ _⟩
      case round =>
        obtain ⟨k', D, hk, rfl, hD, hO, hdr2, own2⟩ := hrel
        clear r2
        have hBr2 : Below w0.heap.size w0 wr := hBr.trans (hO.below (by omega) (by simp; omega))
        have hsr2 := hO.size
        have hDl : D.length = k' := by rw [((mem_prodL _ _).1 hD).1, List.length_take, HDn.out]; omega
        by_cases hlt : k' < hs.length
        · have hlti : (k' : Int) < (hs.length : Int) := Int.ofNat_lt.2 hlt
          obtain ⟨gl, gol, rfl, e1, e2, e3, e4⟩ := (HMR.out _ hBr2).herds.get4 hlt
          have hhd := HHd.out k' hlt
          have hDl1 := HDl.out k' hlt
          simp only at e1 e2 e3 e4 hDl1
          generalize hs[k'] = hx at *
          obtain ⟨h1, h2, h3, h4⟩ := hx
          simp only at e1 e2 e3 e4 hhd hDl1
          have HD1 := Lib.hid hDl1
          have HDk := Lib.hid hDl
          clear hDl1 hDl
          go_wp2_with (first
            | (refine wpList_store_blk 56 (.tmp 10) (.tmp 36) agg_herdA rfl rfl rfl rfl (Blk.new _ _ _) rfl rfl (by simp [Value.oneCell']) ?_; intro w20 h; refine at_stop ?_))
          unfold Stop
          have b10 := h.blk
          have hb20 : Below wr.heap.size wr w20 := h.below ((Below.refl _ _).alloc (Nat.le_refl _) _) (Nat.le_refl _)
          have hlr2 := hdr2.lt
          have hdr20 := hdr2.below (hb20.mono (by omega))
          have own20 := ownsRow_below own2 hb20
          have hO20 := hO.trans (Off.of_below hb20 (by omega))
          have hs20 := hb20.size
          have l10 := b10.lt
          have r10 := b10.cell
          clear h e1 e2 e3 e4 hdr2 own2 hO
          go_wp2_with (first
            | (go_at_call 90; refine (HDr.out (ls.length + k') h2 h3 w20 hdr20 (by omega) (by omega) (by omega) (by omega)).mono ?_; rintro e w21 ⟨v, rfl, hv1, hv2, hdr21, hoff⟩; refine at_stop ?_))
          unfold Stop
          have own21 := ownsRow_off own20 hoff (by simp; omega)
          have hO21 := hO20.trans (hoff.mono (by omega) (fun _ _ h => h))
          have hs21 := hoff.size
          clear hoff own20 hO20 hdr20 b10 r10
          go_wp2_with (first | (at_builtin; refine at_stop ?_))
          unfold Stop
          refine wpList_appendW rfl (.tmp 37) (.tmp 42) 50 rfl z2 3 i0 (.int .i64 0) 1 8 Try.underlying50 hi0 hz0 hz1 hz2 rfl (by decide) u6 D.length (D.flatMap itc) rfl (World.ownsRow.alloc own21 _) (.slice (some ⟨_, 0, none⟩) 1 1) 1 [.int .i64 v] rfl ⟨rfl, .inr ⟨_, _, rfl, news_blk (A := #[.int .i64 v]) (Blk.new _ _ _)⟩⟩ (by simp [Value.oneCell']) (by have := HDk.out; unfold maxLen; omega) (by have := HDk.out; omega) (by first | omega | (simp; done) | (simp; omega)) ?_
          intro va wa owna hga hwa
          have hl21 := hdr21.lt
          have hge : ∀ g, u6.ownBlock = some g → z2 ≤ g := fun g e => (own21.lt g e).1
          go_wp2_with fail
          refine ⟨⟨k' + 1, D ++ [v], by omega, by go_num, by rw [HD1.out]; exact prodL_snoc hD hv1 hv2, (hO21.alloc (by omega) _).grown hga (by simp; omega) (fun g e => .inr (hge g e)), (show DrAt w21 n bl ab c0 (ls.length + (k' + 1)) from hdr21).below (Below.grown ((Below.refl _ _).alloc (by omega) _) hga (by simp; omega) (fun g e => by have := hge g e; omega)), by simpa [itc] using owna⟩, by simp [intOf]; omega⟩
        · have hlti : ¬ (k' : Int) < (hs.length : Int) := by omega
          obtain rfl : k' = hs.length := by omega
          rw [List.take_of_length_le (by rw [HDn.out]; omega)] at hD
          have b2s := hO.blk b2r (by have := b2r.lt; omega) (by simp; omega)
          have b4s := hO.blk b4r (by have := b4r.lt; omega) (by simp; omega)
          have own5 := ownsRow_off own (hO.mono (by omega) (fun _ _ h => h)) (by simp; omega)
          have hP2 := hP1.trans (hO.mono (by omega) (fun _ _ h => h))
          clear hP1 hO b2r b4r hdr own hBr hlti hlt hk hDl
          generalize wr = w2 at *
          clear wr
          have l4s := b4s.lt
          go_wp2_with (first
            | (refine wpList_load_blk 27 (.tmp 2) agg_mob rfl rfl rfl b2s rfl ?_)
            | (refine wpList_store_blk 27 (.tmp 4) (.tmp 45) agg_mob rfl rfl rfl rfl b4s rfl rfl (by simp [Value.oneCell']) ?_; intro w5 h5; refine at_stop ?_))
          unfold Stop
          have hO5 : Off [p2 + 1] w2.heap.size w2 w5 := (Off.refl _ _ _).rowed h5 (.inl (by simp))
          have b4t := h5.blk
          have b2t := hO5.blk b2s b2s.lt (by simp)
          have r4 := b4t.cell
          have f4 := b4t.free
          have l4t := b4t.lt
          go_upto_region 13 with fail
          obtain ⟨w6, hw6⟩ : ∃ w6, w5.setCell ⟨p2 + 1, 3, none⟩ (.slice none 0 0) = w6 := ⟨_, rfl⟩
          have hO6 : Off [p2 + 1] w2.heap.size w2 w6 := by rw [← hw6]; exact hO5.setCell (.inl (by simp)) _
          have b4u : Blk w6 (p2 + 1) #[.slice pa ps.length pc, .slice la ls.length lc, .slice ha hs.length hc, .slice none 0 0] 27 := by rw [← hw6]; exact b4t.set 3 _
          have b2u := hO6.blk b2s b2s.lt (by simp)
          have own5u := ownsRow_off own5 hO6 (by simp)
          have own6u := ownsRow_off own2 hO6 (by simp; omega)
          have hd6 := hdr2.lt
          have hdr6 := hdr2.below (hO6.below (by omega) (by simp; omega))
          have hB6 := hBr2.trans (hO6.below (by omega) (by simp; omega))
          have hP6 := hP2.trans (hO6.mono (by omega) (fun k hk h => by simp at h; omega))
          rw [hw6]
          have hs6 := hO6.size
          clear hw6 h5 hO5 b4t b2t r4 f4 l4t hO6 b2s b4s own5 own2 hdr2 hBr2 l4s
          obtain ⟨z3, hz3'⟩ : ∃ z, w6.heap.size = z := ⟨_, rfl⟩
          have hz3 : w6.heap.size ≤ z3 ∧ z3 ≤ w6.heap.size := by omega
          clear hz3'
          have r2 := b2u.cell
          obtain ⟨gL, cL, rfl, hrL⟩ := own_rows (f := itc) (fun _ => rfl) own5u
          obtain ⟨gD, cD, rfl, hrD⟩ := own_rows (f := itc) (fun _ => rfl) own6u
          have hs0 := HS0.out L D
          have HTL := Lib.hid (HT.out L D hL hD)
          have hl4u := b4u.lt
          go_wp2_with fail
          go_loopw [50] (fun x50 wr => ∃ (k : Nat) (S : List (Int × Int × Int × Int)) (u : Value), k ≤ ss.length ∧ x50 = .int .i64 (k : Int) ∧ S.length = k ∧ so L D S ∧ Off [n + 1, p2 + 1] z3 w6 wr ∧ DrAt wr n bl ab c0 (ls.length + hs.length + 2 * k) ∧ Blk wr (p2 + 1) #[.slice pa ps.length pc, .slice la ls.length lc, .slice ha hs.length hc, u] 27 ∧ wr.ownsRow z3 64 4 u S.length (S.flatMap i4c)) (fun x50 _ => ss.length - (intOf x50).toNat)
          case atStart => exact ⟨0, [], .slice none 0 0, by omega, rfl, rfl, hs0, Off.refl _ _ _, hdr6, b4u, by simpa using World.ownsRow_nil _ _ _ _⟩
          case round =>
            obtain ⟨k', S, u, hk, rfl, hSl, hso, hO, hdr3, b4, own3⟩ := hrel
            clear r2
            have hBr3 : Below w0.heap.size w0 wr := hB6.trans (hO.below (by omega) (by simp; omega))
            have hsr3 := hO.size
            have b2 := hO.blk b2u (by have := b2u.lt; omega) (by simp; omega)
            have own5 := ownsRow_off own5u (hO.mono (by omega) (fun _ _ h => h)) (by simp; omega)
            have own6 := ownsRow_off own6u (hO.mono (by omega) (fun _ _ h => h)) (by simp; omega)
            by_cases hlt : k' < ss.length
            · have hlti : (k' : Int) < (ss.length : Int) := Int.ofNat_lt.2 hlt
              obtain ⟨gl, gol, rfl, e1, e2, e3, e4⟩ := (HMR.out _ hBr3).seen.get4 hlt
              obtain ⟨h, p, hse1, hse2, hhl, hp5, hfb, hdy0, hdy1, hTr⟩ := HTL.out k' hlt
              simp only at e1 e2 e3 e4
              rw [hse1] at e1
              rw [hse2] at e2
              obtain ⟨nd, hnd⟩ : ∃ nd, dy L D h p = nd := ⟨_, rfl⟩
              rw [hnd] at hdy0 hdy1
              simp only [hnd] at hTr
              have HTr := Lib.hid hTr
              generalize ss[k'] = sx at *
              obtain ⟨s1, s2, s3, s4⟩ := sx
              simp only at e1 e2 e3 e4
              have HSl := Lib.hid hSl
              clear hse1 hse2 hTr HTL hSl
              go_wp2_with (first
                | (refine wpList_store_blk 64 (.tmp 12) (.tmp 53) agg_seen rfl rfl rfl rfl (Blk.new _ _ _) rfl rfl (by simp [Value.oneCell']) ?_; intro w20 h20; refine at_stop ?_))
              unfold Stop
              have b12 := h20.blk
              have hb20 : Below wr.heap.size wr w20 := h20.below ((Below.refl _ _).alloc (Nat.le_refl _) _) (Nat.le_refl _)
              have hlr3 := hdr3.lt
              have hdr20 := hdr3.below (hb20.mono (by omega))
              have b2x := b2.below hb20 b2.lt
              have b4x := b4.below hb20 b4.lt
              have own3x := ownsRow_below own3 hb20
              have own5x := ownsRow_below own5 hb20
              have own6x := ownsRow_below own6 hb20
              have hO20 := hO.trans (Off.of_below hb20 (by omega))
              have hB20 := hBr3.trans (hb20.mono hBr3.size)
              have hs20 := hb20.size
              have hl20 := b12.lt
              have l4x := b4.lt
              obtain ⟨p12, hp12⟩ : ∃ p, wr.heap.size = p := ⟨_, rfl⟩
              rw [hp12] at b12 hl20 hs20 l4x
              simp only [hp12]
              have hp12z : z3 ≤ p12 := by omega
              have hgp : ∀ g, u.ownBlock = some g → g < p12 := fun g e => by have := (own3.lt g e).2; omega
              clear h20 e1 e2 e3 e4 hdr3 b2 b4 own3 own5 own6 hO hBr3 hb20 hsr3 hp12 hlr3
              obtain ⟨gd, god, rfl, ed⟩ := (own_ints own6x).get1 hhl
              have hDg : D[h] = D.getD h 0 := by rw [List.getD_eq_getElem?_getD, List.getElem?_eq_getElem hhl]; rfl
              rw [hDg] at ed
              have hrL2 := own_ints own5x
              have hhli : (h : Int) < (D.length : Int) := Int.ofNat_lt.2 hhl
              generalize D.getD h 0 = dh at *
              have r12 := b12.cell
              go_wp2_with fail
              refine Ord.wp_regionN [(0, 0), (1, 0), (2, 0), (3, 0), (4, 0), (5, 0), (6, 0), (7, 0), (8, 0), (9, 2), (10, 0), (11, 0), (12, 0), (13, 0), (14, 0)] (fun _ => True) (by kernel_rfl) (by kernel_rfl) trivial ?_
              go_wp2_with (first
                | (refine wpList_load_blk 27 (.tmp 2) agg_mob rfl rfl rfl b2x.drew rfl ?_)
                | (go_at_call 31; refine (HTr.out gL cL w20.drew hB20.drew (RowsAt.below hrL2 (Below.refl _ _).drew)).mono ?_; rintro e w21 ⟨mp, s0, rfl, hlk, hb21⟩; refine at_stop ?_)
                | (with_reducible refine Ord.at_nm ?_)
                | ((with_reducible refine Ord.at_calm ?_); refine Ord.calm_skip rfl ?_ (fun K hK => ?_); (focus (simp [Region.wanted, yielded]; done))) | with_reducible refine Ord.walk_calm rfl rfl (fun K hK => ?_) | ((with_reducible refine Ord.at_wild ?_); refine Ord.wild_fieldAddr rfl rfl (fun W => by simp [go_sem]; rfl) (fun K hK => ?_)) | ((with_reducible refine Ord.at_wild ?_); refine Ord.wild_move rfl rfl (fun K hK => ?_)) | ((with_reducible refine Ord.at_wild ?_); refine Ord.wild_nilCheck rfl rfl (fun K hK => ?_)) | with_reducible refine Ord.walk_eff rfl (by first | (simp; done) | assumption | (go_simp; done) | (repeat (first | assumption | exact Below.refl _ _ | refine Below.drew ?_ | refine Below.alloc ?_ (by first | omega | (simp; done) | (simp; omega)) _ | refine Below.setCell ?_ (by first | omega | (simp; done) | (simp; omega)) _ | refine Below.trans ?_ (Below.mono (by assumption) (by first | omega | (simp; done) | (simp; omega)))))) (fun K hK => ?_) | with_reducible refine Ord.at_fork ?_ ?_ | with_reducible refine Ord.walk_nil ?_ | (with_reducible refine Ord.next_of (by first | (simp; done) | (go_simp; done) | (repeat (first | assumption | exact Below.refl _ _ | refine Below.drew ?_ | refine Below.alloc ?_ (by first | omega | (simp; done) | (simp; omega)) _ | refine Below.setCell ?_ (by first | omega | (simp; done) | (simp; omega)) _ | refine Below.trans ?_ (Below.mono (by assumption) (by first | omega | (simp; done) | (simp; omega)))))) (fun _ => ?_)))
              unfold Stop
              have hb21' : Below w20.heap.size w20 w21 := (Below.refl _ _).drew.trans hb21
              obtain ⟨tl, hmp, hok, hik, hgl⟩ := hlk
              have b12y := b12.below hb21' b12.lt
              have b4y := b4x.below hb21' b4x.lt
              have own3y := ownsRow_below own3x hb21'
              have hO21 := hO20.trans (Off.of_below hb21' (by omega))
              have hdr21 := hdr20.below (hb21'.mono (by omega))
              have hs21 := hb21'.size
              have r12y := b12y.cell
              clear hb21 hb21' b12 b4x own3x own5x own6x hO20 hdr20 r12 ed hrL2 b2x hB20
              go_wp2_with (first
                | (refine wpList_lookup_int (.tmp 67) (.tmp 69) rfl rfl rfl rfl hmp hok hik ?_; rw [hgl])
                | (with_reducible refine Ord.at_nm ?_)
                | ((with_reducible refine Ord.at_calm ?_); refine Ord.calm_skip rfl ?_ (fun K hK => ?_); (focus (simp [Region.wanted, yielded]; done))) | with_reducible refine Ord.walk_calm rfl rfl (fun K hK => ?_) | ((with_reducible refine Ord.at_wild ?_); refine Ord.wild_fieldAddr rfl rfl (fun W => by simp [go_sem]; rfl) (fun K hK => ?_)) | ((with_reducible refine Ord.at_wild ?_); refine Ord.wild_move rfl rfl (fun K hK => ?_)) | ((with_reducible refine Ord.at_wild ?_); refine Ord.wild_nilCheck rfl rfl (fun K hK => ?_)) | with_reducible refine Ord.walk_eff rfl (by first | (simp; done) | assumption | (go_simp; done) | (repeat (first | assumption | exact Below.refl _ _ | refine Below.drew ?_ | refine Below.alloc ?_ (by first | omega | (simp; done) | (simp; omega)) _ | refine Below.setCell ?_ (by first | omega | (simp; done) | (simp; omega)) _ | refine Below.trans ?_ (Below.mono (by assumption) (by first | omega | (simp; done) | (simp; omega)))))) (fun K hK => ?_) | with_reducible refine Ord.at_fork ?_ ?_ | with_reducible refine Ord.walk_nil ?_ | (with_reducible refine Ord.next_of (by first | (simp; done) | (go_simp; done) | (repeat (first | assumption | exact Below.refl _ _ | refine Below.drew ?_ | refine Below.alloc ?_ (by first | omega | (simp; done) | (simp; omega)) _ | refine Below.setCell ?_ (by first | omega | (simp; done) | (simp; omega)) _ | refine Below.trans ?_ (Below.mono (by assumption) (by first | omega | (simp; done) | (simp; omega)))))) (fun _ => ?_)))
              have hH21 : HS4 (p2 + 1) p12 u (.int .i64 (h : Int)) (.int .i64 (p : Int)) w21 := ⟨by rw [b4y.cell]; rfl, by rw [b12y.cell]; rfl, by rw [b12y.cell]; rfl⟩
              have b421 := b4y
              have own21 := own3y
              clear b4y own3y b12y r12y hmp hok hik hgl tl
              refine Ord.Two.wp_regionN [(0, 1), (1, 1), (2, 1), (3, 1), (4, 1), (5, 1), (6, 1), (7, 1), (12, 1), (13, 1), (8, 2), (9, 2), (10, 1), (11, 1), (14, 2), (15, 2), (16, 0), (17, 0), (18, 2), (19, 2), (20, 2), (21, 0)] [(22, 2)] (HS4 (p2 + 1) p12 u (.int .i64 (h : Int)) (.int .i64 (p : Int))) (by kernel_rfl) (by kernel_rfl) hH21.drew ?_
              go_wp2_with (first
                | (with_reducible refine Ord.Two.walk_next ?_)
                | (with_reducible refine Ord.at_nm ?_)
                | ((with_reducible refine Ord.at_wild ?_); refine Ord.wild_load (ad := ⟨p2 + 1, 3, none⟩) (u) rfl rfl ?_ ?_; (focus (intro W hW; have r := hW.1; simp [go_sem, r]; done)); intro K hK)
                | ((with_reducible refine Ord.at_wild ?_); refine Ord.wild_load (ad := ⟨p12, 0, none⟩) (.int .i64 (h : Int)) rfl rfl ?_ ?_; (focus (intro W hW; have r := hW.2.1; simp [go_sem, r]; done)); intro K hK)
                | ((with_reducible refine Ord.at_wild ?_); refine Ord.wild_load (ad := ⟨p12, 1, none⟩) (.int .i64 (p : Int)) rfl rfl ?_ ?_; (focus (intro W hW; have r := hW.2.2; simp [go_sem, r]; done)); intro K hK)
                | (go_at_call 20; refine (HSp.out _ _ _).mono ?_; rintro e w22 ⟨rfl, hb⟩; refine at_stop ?_)
                | ((with_reducible refine Ord.walk_eff rfl ?_ (fun K hK => ?_)); (focus (first | exact hH21.drew | exact hH21)))
                | ((with_reducible refine Ord.next_of ?_ (fun hOF => ?_)); (focus (first | exact hH21.drew | exact hH21)))
                | ((with_reducible refine Ord.at_calm ?_); refine Ord.calm_skip rfl ?_ (fun K hK => ?_); (focus (simp [Region.wanted, yielded]; done))) | with_reducible refine Ord.walk_calm rfl rfl (fun K hK => ?_) | ((with_reducible refine Ord.at_wild ?_); refine Ord.wild_fieldAddr rfl rfl (fun W => by simp [go_sem]; rfl) (fun K hK => ?_)) | ((with_reducible refine Ord.at_wild ?_); refine Ord.wild_move rfl rfl (fun K hK => ?_)) | ((with_reducible refine Ord.at_wild ?_); refine Ord.wild_nilCheck rfl rfl (fun K hK => ?_)) | with_reducible refine Ord.walk_eff rfl (by first | (simp; done) | assumption | (go_simp; done) | (repeat (first | assumption | exact Below.refl _ _ | refine Below.drew ?_ | refine Below.alloc ?_ (by first | omega | (simp; done) | (simp; omega)) _ | refine Below.setCell ?_ (by first | omega | (simp; done) | (simp; omega)) _ | refine Below.trans ?_ (Below.mono (by assumption) (by first | omega | (simp; done) | (simp; omega)))))) (fun K hK => ?_) | with_reducible refine Ord.at_fork ?_ ?_ | with_reducible refine Ord.walk_nil ?_ | (with_reducible refine Ord.next_of (by first | (simp; done) | (go_simp; done) | (repeat (first | assumption | exact Below.refl _ _ | refine Below.drew ?_ | refine Below.alloc ?_ (by first | omega | (simp; done) | (simp; omega)) _ | refine Below.setCell ?_ (by first | omega | (simp; done) | (simp; omega)) _ | refine Below.trans ?_ (Below.mono (by assumption) (by first | omega | (simp; done) | (simp; omega)))))) (fun _ => ?_))
)
              unfold Stop
              have hb22 : Below w21.heap.size w21 w22 := (Below.refl _ _).drew.trans hb
              clear hb
              have hH22 := hH21.below hb22
              have b422 := b421.below hb22 b421.lt
              have own22 := ownsRow_below own21 hb22
              have hO22 := hO21.trans (Off.of_below hb22 (by omega))
              have hdr22 := hdr21.below (hb22.mono (by have := hdr21.lt; omega))
              have hs22 := hb22.size
              clear hH21 b421 own21 hO21 hdr21
              go_wp2_with (first
                | (with_reducible refine Ord.Two.walk_next ?_)
                | (with_reducible refine Ord.at_nm ?_)
                | (go_at_call 90; refine (HDr.out (ls.length + hs.length + 2 * k') 0 2 w22 hdr22 (by omega) (by omega) (by omega) (by omega)).mono ?_; rintro e w23 ⟨v1, rfl, hv1, hv1', hdr23, hoff⟩; refine at_stop ?_)
                | ((with_reducible refine Ord.walk_eff rfl ?_ (fun K hK => ?_)); (focus (first | exact hH22.drew | exact hH22)))
                | ((with_reducible refine Ord.next_of ?_ (fun hOF => ?_)); (focus (first | exact hH22.drew | exact hH22)))
                | ((with_reducible refine Ord.at_calm ?_); refine Ord.calm_skip rfl ?_ (fun K hK => ?_); (focus (simp [Region.wanted, yielded]; done))) | with_reducible refine Ord.walk_calm rfl rfl (fun K hK => ?_) | ((with_reducible refine Ord.at_wild ?_); refine Ord.wild_fieldAddr rfl rfl (fun W => by simp [go_sem]; rfl) (fun K hK => ?_)) | ((with_reducible refine Ord.at_wild ?_); refine Ord.wild_move rfl rfl (fun K hK => ?_)) | ((with_reducible refine Ord.at_wild ?_); refine Ord.wild_nilCheck rfl rfl (fun K hK => ?_)) | with_reducible refine Ord.walk_eff rfl (by first | (simp; done) | assumption | (go_simp; done) | (repeat (first | assumption | exact Below.refl _ _ | refine Below.drew ?_ | refine Below.alloc ?_ (by first | omega | (simp; done) | (simp; omega)) _ | refine Below.setCell ?_ (by first | omega | (simp; done) | (simp; omega)) _ | refine Below.trans ?_ (Below.mono (by assumption) (by first | omega | (simp; done) | (simp; omega)))))) (fun K hK => ?_) | with_reducible refine Ord.at_fork ?_ ?_ | with_reducible refine Ord.walk_nil ?_ | (with_reducible refine Ord.next_of (by first | (simp; done) | (go_simp; done) | (repeat (first | assumption | exact Below.refl _ _ | refine Below.drew ?_ | refine Below.alloc ?_ (by first | omega | (simp; done) | (simp; omega)) _ | refine Below.setCell ?_ (by first | omega | (simp; done) | (simp; omega)) _ | refine Below.trans ?_ (Below.mono (by assumption) (by first | omega | (simp; done) | (simp; omega)))))) (fun _ => ?_))
)
              unfold Stop
              have hH23 := hH22.off hoff (by simp; omega) (by simp; omega)
              have b423 := hoff.blk b422 b422.lt (by simp; omega)
              have own23 := ownsRow_off own22 hoff (by simp; omega)
              have hO23 := hO22.trans (hoff.mono (by omega) (fun _ _ h => by simp at h ⊢; exact .inl h))
              have hs23 := hoff.size
              clear hoff hH22 b422 own22 hO22 hdr22
              have hnv1 : IntKind.i64.wrap (nd - v1) = nd - v1 := wrapI (by omega)
              go_wp2_with (first
                | (with_reducible refine Ord.Two.walk_next ?_)
                | (with_reducible refine Ord.at_nm ?_)
                | ((with_reducible refine Ord.at_wild ?_); refine Ord.wild_binOp (.int .i64 (nd - v1)) rfl (fun W => by simp [go_sem, hnv1]; done) (fun K hK => ?_))
                | ((with_reducible refine Ord.at_wild ?_); refine Ord.walk_wild_as rfl (.int .i64 (max 0 (nd - v1))) ?_ ?_; (focus (intro W hW; exact yields_max rfl rfl rfl)); intro K hK)
                | (go_at_call 20; refine (HSp.out _ _ _).mono ?_; rintro e w24 ⟨rfl, hb⟩; refine at_stop ?_)
                | ((with_reducible refine Ord.walk_eff rfl ?_ (fun K hK => ?_)); (focus (first | exact hH23.drew | exact hH23)))
                | ((with_reducible refine Ord.next_of ?_ (fun hOF => ?_)); (focus (first | exact hH23.drew | exact hH23)))
                | ((with_reducible refine Ord.at_calm ?_); refine Ord.calm_skip rfl ?_ (fun K hK => ?_); (focus (simp [Region.wanted, yielded]; done))) | with_reducible refine Ord.walk_calm rfl rfl (fun K hK => ?_) | ((with_reducible refine Ord.at_wild ?_); refine Ord.wild_fieldAddr rfl rfl (fun W => by simp [go_sem]; rfl) (fun K hK => ?_)) | ((with_reducible refine Ord.at_wild ?_); refine Ord.wild_move rfl rfl (fun K hK => ?_)) | ((with_reducible refine Ord.at_wild ?_); refine Ord.wild_nilCheck rfl rfl (fun K hK => ?_)) | with_reducible refine Ord.walk_eff rfl (by first | (simp; done) | assumption | (go_simp; done) | (repeat (first | assumption | exact Below.refl _ _ | refine Below.drew ?_ | refine Below.alloc ?_ (by first | omega | (simp; done) | (simp; omega)) _ | refine Below.setCell ?_ (by first | omega | (simp; done) | (simp; omega)) _ | refine Below.trans ?_ (Below.mono (by assumption) (by first | omega | (simp; done) | (simp; omega)))))) (fun K hK => ?_) | with_reducible refine Ord.at_fork ?_ ?_ | with_reducible refine Ord.walk_nil ?_ | (with_reducible refine Ord.next_of (by first | (simp; done) | (go_simp; done) | (repeat (first | assumption | exact Below.refl _ _ | refine Below.drew ?_ | refine Below.alloc ?_ (by first | omega | (simp; done) | (simp; omega)) _ | refine Below.setCell ?_ (by first | omega | (simp; done) | (simp; omega)) _ | refine Below.trans ?_ (Below.mono (by assumption) (by first | omega | (simp; done) | (simp; omega)))))) (fun _ => ?_))
)
              unfold Stop
              have hb24 : Below w23.heap.size w23 w24 := hb
              clear hb
              have hH24 := hH23.below hb24
              have b424 := b423.below hb24 b423.lt
              have own24 := ownsRow_below own23 hb24
              have hO24 := hO23.trans (Off.of_below hb24 (by omega))
              have hdr24 := hdr23.below (hb24.mono (by have := hdr23.lt; omega))
              have hs24 := hb24.size
              clear hH23 b423 own23 hO23 hdr23
              go_wp2_with (first
                | (with_reducible refine Ord.Two.walk_next ?_)
                | (with_reducible refine Ord.at_nm ?_)
                | (go_at_call 90; refine (HDr.out (ls.length + hs.length + 2 * k' + 1) 0 2 w24 hdr24 (by omega) (by omega) (by omega) (by omega)).mono ?_; rintro e w25 ⟨v2, rfl, hv2, hv2', hdr25, hoff⟩; refine at_stop ?_)
                | ((with_reducible refine Ord.walk_eff rfl ?_ (fun K hK => ?_)); (focus (first | exact hH24.drew | exact hH24)))
                | ((with_reducible refine Ord.next_of ?_ (fun hOF => ?_)); (focus (first | exact hH24.drew | exact hH24)))
                | ((with_reducible refine Ord.at_calm ?_); refine Ord.calm_skip rfl ?_ (fun K hK => ?_); (focus (simp [Region.wanted, yielded]; done))) | with_reducible refine Ord.walk_calm rfl rfl (fun K hK => ?_) | ((with_reducible refine Ord.at_wild ?_); refine Ord.wild_fieldAddr rfl rfl (fun W => by simp [go_sem]; rfl) (fun K hK => ?_)) | ((with_reducible refine Ord.at_wild ?_); refine Ord.wild_move rfl rfl (fun K hK => ?_)) | ((with_reducible refine Ord.at_wild ?_); refine Ord.wild_nilCheck rfl rfl (fun K hK => ?_)) | with_reducible refine Ord.walk_eff rfl (by first | (simp; done) | assumption | (go_simp; done) | (repeat (first | assumption | exact Below.refl _ _ | refine Below.drew ?_ | refine Below.alloc ?_ (by first | omega | (simp; done) | (simp; omega)) _ | refine Below.setCell ?_ (by first | omega | (simp; done) | (simp; omega)) _ | refine Below.trans ?_ (Below.mono (by assumption) (by first | omega | (simp; done) | (simp; omega)))))) (fun K hK => ?_) | with_reducible refine Ord.at_fork ?_ ?_ | with_reducible refine Ord.walk_nil ?_ | (with_reducible refine Ord.next_of (by first | (simp; done) | (go_simp; done) | (repeat (first | assumption | exact Below.refl _ _ | refine Below.drew ?_ | refine Below.alloc ?_ (by first | omega | (simp; done) | (simp; omega)) _ | refine Below.setCell ?_ (by first | omega | (simp; done) | (simp; omega)) _ | refine Below.trans ?_ (Below.mono (by assumption) (by first | omega | (simp; done) | (simp; omega)))))) (fun _ => ?_))
)
              unfold Stop
              have hH25 := hH24.off hoff (by simp; omega) (by simp; omega)
              have b425 := hoff.blk b424 b424.lt (by simp; omega)
              have own25 := ownsRow_off own24 hoff (by simp; omega)
              have hO25 := hO24.trans (hoff.mono (by omega) (fun _ _ h => by simp at h ⊢; exact .inl h))
              have hs25 := hoff.size
              clear hoff hH24 b424 own24 hO24 hdr24
              go_wp2_with (first
                | (with_reducible refine Ord.Two.walk_next ?_)
                | (with_reducible refine Ord.at_nm ?_)
                | (refine wpList_min2 (.const (.int .i64 100)) (.tmp 87) rfl rfl rfl rfl ?_)
                | (go_at_call 34; refine (HSe.out _ _ _ _ _).mono ?_; rintro e w26 ⟨rfl, hb⟩; refine at_stop ?_)
                | ((with_reducible refine Ord.walk_eff rfl ?_ (fun K hK => ?_)); (focus (first | exact hH25.drew | exact hH25)))
                | ((with_reducible refine Ord.next_of ?_ (fun hOF => ?_)); (focus (first | exact hH25.drew | exact hH25)))
                | ((with_reducible refine Ord.at_calm ?_); refine Ord.calm_skip rfl ?_ (fun K hK => ?_); (focus (simp [Region.wanted, yielded]; done))) | with_reducible refine Ord.walk_calm rfl rfl (fun K hK => ?_) | ((with_reducible refine Ord.at_wild ?_); refine Ord.wild_fieldAddr rfl rfl (fun W => by simp [go_sem]; rfl) (fun K hK => ?_)) | ((with_reducible refine Ord.at_wild ?_); refine Ord.wild_move rfl rfl (fun K hK => ?_)) | ((with_reducible refine Ord.at_wild ?_); refine Ord.wild_nilCheck rfl rfl (fun K hK => ?_)) | with_reducible refine Ord.walk_eff rfl (by first | (simp; done) | assumption | (go_simp; done) | (repeat (first | assumption | exact Below.refl _ _ | refine Below.drew ?_ | refine Below.alloc ?_ (by first | omega | (simp; done) | (simp; omega)) _ | refine Below.setCell ?_ (by first | omega | (simp; done) | (simp; omega)) _ | refine Below.trans ?_ (Below.mono (by assumption) (by first | omega | (simp; done) | (simp; omega)))))) (fun K hK => ?_) | with_reducible refine Ord.at_fork ?_ ?_ | with_reducible refine Ord.walk_nil ?_ | (with_reducible refine Ord.next_of (by first | (simp; done) | (go_simp; done) | (repeat (first | assumption | exact Below.refl _ _ | refine Below.drew ?_ | refine Below.alloc ?_ (by first | omega | (simp; done) | (simp; omega)) _ | refine Below.setCell ?_ (by first | omega | (simp; done) | (simp; omega)) _ | refine Below.trans ?_ (Below.mono (by assumption) (by first | omega | (simp; done) | (simp; omega)))))) (fun _ => ?_))
)
              unfold Stop
              have hb26 : Below w25.heap.size w25 w26 := hb
              clear hb
              have hH26 := hH25.below hb26
              have b426 := b425.below hb26 b425.lt
              have own26 := ownsRow_below own25 hb26
              have hO26 := hO25.trans (Off.of_below hb26 (by omega))
              have hdr26 := hdr25.below (hb26.mono (by have := hdr25.lt; omega))
              have hs26 := hb26.size
              clear hH25 b425 own25 hO25 hdr25
              go_wp2_with (first
                | (with_reducible refine Ord.Two.walk_next ?_)
                | (with_reducible refine Ord.at_nm ?_)
                | (at_builtin; refine at_stop ?_)
                | ((with_reducible refine Ord.walk_eff rfl ?_ (fun K hK => ?_)); (focus (first | exact hH26.alloc _ | exact hH26)))
                | ((with_reducible refine Ord.next_of ?_ (fun hOF => ?_)); (focus (first | exact hH26.alloc _ | exact hH26)))
                | ((with_reducible refine Ord.at_calm ?_); refine Ord.calm_skip rfl ?_ (fun K hK => ?_); (focus (simp [Region.wanted, yielded]; done))) | with_reducible refine Ord.walk_calm rfl rfl (fun K hK => ?_) | ((with_reducible refine Ord.at_wild ?_); refine Ord.wild_fieldAddr rfl rfl (fun W => by simp [go_sem]; rfl) (fun K hK => ?_)) | ((with_reducible refine Ord.at_wild ?_); refine Ord.wild_move rfl rfl (fun K hK => ?_)) | ((with_reducible refine Ord.at_wild ?_); refine Ord.wild_nilCheck rfl rfl (fun K hK => ?_)) | with_reducible refine Ord.walk_eff rfl (by first | (simp; done) | assumption | (go_simp; done) | (repeat (first | assumption | exact Below.refl _ _ | refine Below.drew ?_ | refine Below.alloc ?_ (by first | omega | (simp; done) | (simp; omega)) _ | refine Below.setCell ?_ (by first | omega | (simp; done) | (simp; omega)) _ | refine Below.trans ?_ (Below.mono (by assumption) (by first | omega | (simp; done) | (simp; omega)))))) (fun K hK => ?_) | with_reducible refine Ord.at_fork ?_ ?_ | with_reducible refine Ord.walk_nil ?_ | (with_reducible refine Ord.next_of (by first | (simp; done) | (go_simp; done) | (repeat (first | assumption | exact Below.refl _ _ | refine Below.drew ?_ | refine Below.alloc ?_ (by first | omega | (simp; done) | (simp; omega)) _ | refine Below.setCell ?_ (by first | omega | (simp; done) | (simp; omega)) _ | refine Below.trans ?_ (Below.mono (by assumption) (by first | omega | (simp; done) | (simp; omega)))))) (fun _ => ?_))
)
              unfold Stop
              refine wpList_appendW rfl (.tmp 72) (.tmp 90) 25 rfl z3 64 j0 (.agg #[.int .i64 0, .int .i64 0, .int .i64 0, .int .i64 0]) 4 32 Try.underlying25 hj0 kz0 kz1 kz2 rfl (by decide) u S.length (S.flatMap i4c) rfl (World.ownsRow.alloc own26 _) (.slice (some ⟨_, 0, none⟩) 1 1) 1 (i4c ((h : Int), (p : Int), max 0 (nd - v1), min 100 (nd + v2))) rfl ⟨rfl, .inr ⟨_, _, rfl, news_blk (A := #[.int .i64 (h : Int), .int .i64 (p : Int), .int .i64 (max 0 (nd - v1)), .int .i64 (min 100 (nd + v2))]) (Blk.new _ _ _)⟩⟩ (i4c_one _) (by have := HSl.out; unfold maxLen; omega) (by have := HSl.out; omega) (by first | omega | (simp; done) | (simp; omega)) ?_
              intro va wa owna hga hwa
              have hge : ∀ g, u.ownBlock = some g → z3 ≤ g := fun g e => (own26.lt g e).1
              have b4w : Blk wa (p2 + 1) _ _ := (hga.block (p2 + 1) (by simp; omega) (fun e => by have := hge _ e.symm; omega)).trans (b426.alloc _)
              have hOw : Off [n + 1, p2 + 1] z3 w6 wa := (hO26.alloc (by omega) _).grown hga (by simp; omega) (fun g e => .inr (hge g e))
              have hl26 := hdr26.lt
              have hdrw := hdr26.below (Below.grown ((Below.refl _ _).alloc (by omega) _) hga (by simp; omega) (fun g e => by have := hge g e; omega))
              have f4w := b4w.free
              have hHw : HS4 (p2 + 1) p12 u (.int .i64 (h : Int)) (.int .i64 (p : Int)) wa := ⟨by rw [b4w.cell]; rfl, hga.cell hOF.2.1 (fun e => absurd (hgp _ e.symm) (Nat.lt_irrefl _)), hga.cell hOF.2.2 (fun e => absurd (hgp _ e.symm) (Nat.lt_irrefl _))⟩
              have r4w := b4w.cell
              have l4w := b4w.lt
              have hlwa := hdrw.lt
              obtain ⟨g7, q7, rfl⟩ := own_slice owna (by omega)
              go_wp2_with (first
                | (with_reducible refine Ord.Two.walk_next ?_)
                | (with_reducible refine Ord.at_nm ?_)
                | ((with_reducible refine Ord.walk_eff rfl ?_ (fun K hK => ?_)); (focus (first | trivial | exact hHw)))
                | ((with_reducible refine Ord.next_of ?_ (fun hOF => ?_)); (focus (first | exact hHw | trivial)))
                | ((with_reducible refine Ord.at_calm ?_); refine Ord.calm_skip rfl ?_ (fun K hK => ?_); (focus (simp [Region.wanted, yielded]; done))) | with_reducible refine Ord.walk_calm rfl rfl (fun K hK => ?_) | ((with_reducible refine Ord.at_wild ?_); refine Ord.wild_fieldAddr rfl rfl (fun W => by simp [go_sem]; rfl) (fun K hK => ?_)) | ((with_reducible refine Ord.at_wild ?_); refine Ord.wild_move rfl rfl (fun K hK => ?_)) | ((with_reducible refine Ord.at_wild ?_); refine Ord.wild_nilCheck rfl rfl (fun K hK => ?_)) | with_reducible refine Ord.walk_eff rfl (by first | (simp; done) | assumption | (go_simp; done) | (repeat (first | assumption | exact Below.refl _ _ | refine Below.drew ?_ | refine Below.alloc ?_ (by first | omega | (simp; done) | (simp; omega)) _ | refine Below.setCell ?_ (by first | omega | (simp; done) | (simp; omega)) _ | refine Below.trans ?_ (Below.mono (by assumption) (by first | omega | (simp; done) | (simp; omega)))))) (fun K hK => ?_) | with_reducible refine Ord.at_fork ?_ ?_ | with_reducible refine Ord.walk_nil ?_ | (with_reducible refine Ord.next_of (by first | (simp; done) | (go_simp; done) | (repeat (first | assumption | exact Below.refl _ _ | refine Below.drew ?_ | refine Below.alloc ?_ (by first | omega | (simp; done) | (simp; omega)) _ | refine Below.setCell ?_ (by first | omega | (simp; done) | (simp; omega)) _ | refine Below.trans ?_ (Below.mono (by assumption) (by first | omega | (simp; done) | (simp; omega)))))) (fun _ => ?_)))
              have own7 := ownsRow_off owna ((Off.refl [p2 + 1] wa.heap.size wa).setCell (p := ⟨p2 + 1, 3, none⟩) (.inl (by simp)) (.slice (some ⟨g7, 0, none⟩) (S.length + 1) q7)) (by simp; omega)
              refine ⟨⟨k' + 1, S ++ [((h : Int), (p : Int), max 0 (nd - v1), min 100 (nd + v2))], .slice (some ⟨g7, 0, none⟩) (S.length + 1) q7, by omega, by go_num, by simp [HSl.out], HSn.out L D S h p nd v1 v2 hso hfb hnd ⟨hdy0, hdy1⟩ hv1 hv2, hOw.setCell (.inl (by simp)) _, ?_, b4w.set 3 _, by simpa using own7⟩, by simp [intOf]; omega⟩
              exact (show DrAt wa n bl ab c0 (ls.length + hs.length + 2 * (k' + 1)) from hdrw).below ((Below.refl _ _).setCell (by simp; omega) _)
            · have hlti : ¬ (k' : Int) < (ss.length : Int) := by omega
              obtain rfl : k' = ss.length := by omega
              obtain ⟨gS, cS, rfl, _⟩ := own_rows i4c_len own3
              have l4 := b4.lt
              have HSl := Lib.hid hSl
              clear hSl
              go_wp2_with (first
                | (refine wpList_load_blk 27 (.tmp 4) agg_mob rfl rfl rfl b4 rfl ?_)
                | (refine wpList_store_blk 27 (.tmp 4) (.tmp 94) agg_mob rfl rfl rfl rfl b4 rfl rfl (by simp [Value.oneCell']) ?_; intro w9 h9; refine at_stop ?_))
              unfold Stop
              have hO9 : Off [p2 + 1] wr.heap.size wr w9 := (Off.refl _ _ _).rowed h9 (.inl (by simp))
              have hrS := own_rows i4c_len (ownsRow_off own3 hO9 (by simp; omega))
              have hrL9 := own_ints (ownsRow_off own5 hO9 (by simp))
              have hrD9 := own_ints (ownsRow_off own6 hO9 (by simp; omega))
              have hB9 := hBr3.trans (hO9.below (by omega) (by simp; omega))
              have hP9 := (hP6.trans (hO.mono (by omega) (fun k hk h => by simp at h ⊢; omega))).trans (hO9.mono (by omega) (fun k hk h => by simp at h; omega))
              have HP9 : Off [n + 1] w.heap.size w w9 := by rw [HP2.out]; exact hP9
              obtain ⟨a', c', e', hrS⟩ := hrS
              cases e'
              have hF := HFin.out L D S gL cL gD cD gS cS w9 hL hD hso HSl.out hrS hrL9 hrD9 hB9 HP9
              have b49 := h9.blk
              clear HFin
              go_wp2_with fail
              refine bodyPost_ret (v := .tuple #[.agg #[.slice pa ps.length pc, .slice la ls.length lc, .slice ha hs.length hc, .slice gS S.length cS], .slice gL L.length cL, .slice gD D.length cD]) ((results_cell_tmp2_blk (p := 4) (u := 5) (v := 6) rfl _ agg_mob rfl b49 rfl).trans rfl) rfl hF
end Go.Proofs.Yteeinehpneppnaa
