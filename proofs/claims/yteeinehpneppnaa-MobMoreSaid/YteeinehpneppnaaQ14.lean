/- Parts of a proof: MoK. -/
import Derived.Test.YteeinehpneppnaaQ13
set_option linter.unusedVariables false
set_option linter.unusedSimpArgs false
namespace Go.Proofs.Yteeinehpneppnaa
open Go.RowKit Go.Proofs
attribute [local irreducible] Ord.walk
theorem Try.info138 : (Try.prog.info? 138).map (fun i => (i.zero, i.size, i.bytes)) = some (some .nilIface, 1, 16) := by kernel_rfl
/-- What open returns. -/
def OpenPost (m : Mb) (isB : Bool) (A : Ma) (w : World) (e : Ending) (w' : World) : Prop :=
  if validM m = false then Stops 1 w e w' else if isB = false then Stops 2 w e w' else
    ∃ wp mb pa pc, e = .returned (.pointer (some ⟨wp, 0, none⟩)) ∧ Opened w' wp m A pa pc mb ∧ Below w.heap.size w w' ∧ w.heap.size ≤ wp ∧ w.heap.size ≤ mb
set_option maxHeartbeats 4000000 in
set_option maxRecDepth 100000 in
theorem m_open_no (m : Mb) (A : Ma) (F : FuncId) (cap : Array Value) (w : World) (hl : Mlen m) (hh : headM m = false) :
    Calls Try.prog 42 #[mv m A, .func (.func F) #[] cap] w (Stops 1 w) := by
  have l1 : (m.places.length : Int) ≤ 40 := by have := hl.places; omega
  have l2 : (m.legs.length : Int) ≤ 40 := by have := hl.legs; omega
  have l3 : (m.herds.length : Int) ≤ 40 := by have := hl.herds; omega
  have l4 : (m.seen.length : Int) ≤ 40 := by have := hl.seen; omega
  have HI := Lib.hid (fun a b c W => m_within a b c W)
  unfold headM at hh
  clear hl
  rcases m with ⟨ps, ls, hs, ss⟩
  unfold mv mcells at *
  simp only at *
  by_cases c1 : inB (ps.length : Int) 2 6 = true
  · rw [c1, Bool.true_and] at hh
    by_cases c2 : (ls.length : Int) = (ps.length : Int) - 1
    · rw [decide_eq_true c2, Bool.true_and] at hh
      have c2' : ((ls.length : Int) == (ps.length : Int) - 1) = true := by simp [c2]
      by_cases c3 : (hs.length : Int) ≤ 4
      · rw [decide_eq_true c3, Bool.true_and] at hh
        have c4 : ¬ (ss.length : Int) ≤ 5 := by simpa using hh
        have c4' : decide ((ss.length : Int) ≤ 5) = false := by simpa using hh
        clear hh c2 c4
        go_enter Try.func42, Try.ntmps42
        go_wp2_with (first
          | (go_at_call 93; refine (HI.out _ _ _ _).mono ?_; rintro e w' ⟨rfl, rfl⟩; rw [c1])
          | (go_at_call 68; refine at_stop ?_))
        unfold Stop
        refine (m_must_no _ _).mono ?_
        rintro e w' ⟨rfl, rfl⟩
        exact ⟨rfl, rfl, by (repeat (first | assumption | exact Below.refl _ _ | refine Below.drew ?_ | refine Below.alloc ?_ (by first | omega | (simp; done) | (simp; omega)) _ | refine Below.setCell ?_ (by first | omega | (simp; done) | (simp; omega)) _ | refine Below.trans ?_ (Below.mono (by assumption) (by first | omega | (simp; done) | (simp; omega)))))⟩
      · have c3' : decide ((hs.length : Int) ≤ 4) = false := by simpa using c3
        clear hh c2
        go_enter Try.func42, Try.ntmps42
        go_wp2_with (first
          | (go_at_call 93; refine (HI.out _ _ _ _).mono ?_; rintro e w' ⟨rfl, rfl⟩; rw [c1])
          | (go_at_call 68; refine (m_must_no _ _).mono ?_; rintro e w' ⟨rfl, rfl⟩))
        exact ⟨rfl, rfl, by (repeat (first | assumption | exact Below.refl _ _ | refine Below.drew ?_ | refine Below.alloc ?_ (by first | omega | (simp; done) | (simp; omega)) _ | refine Below.setCell ?_ (by first | omega | (simp; done) | (simp; omega)) _ | refine Below.trans ?_ (Below.mono (by assumption) (by first | omega | (simp; done) | (simp; omega)))))⟩
    · have c2' : ((ls.length : Int) == (ps.length : Int) - 1) = false := by simpa using c2
      clear hh c2
      go_enter Try.func42, Try.ntmps42
      go_wp2_with (first
        | (go_at_call 93; refine (HI.out _ _ _ _).mono ?_; rintro e w' ⟨rfl, rfl⟩; rw [c1])
        | (go_at_call 68; refine (m_must_no _ _).mono ?_; rintro e w' ⟨rfl, rfl⟩))
      exact ⟨rfl, rfl, by (repeat (first | assumption | exact Below.refl _ _ | refine Below.drew ?_ | refine Below.alloc ?_ (by first | omega | (simp; done) | (simp; omega)) _ | refine Below.setCell ?_ (by first | omega | (simp; done) | (simp; omega)) _ | refine Below.trans ?_ (Below.mono (by assumption) (by first | omega | (simp; done) | (simp; omega)))))⟩
  · have c1 : inB (ps.length : Int) 2 6 = false := by simpa using c1
    clear hh
    go_enter Try.func42, Try.ntmps42
    go_wp2_with (first
      | (go_at_call 93; refine (HI.out _ _ _ _).mono ?_; rintro e w' ⟨rfl, rfl⟩; rw [c1])
      | (go_at_call 68; refine (m_must_no _ _).mono ?_; rintro e w' ⟨rfl, rfl⟩))
    exact ⟨rfl, rfl, by (repeat (first | assumption | exact Below.refl _ _ | refine Below.drew ?_ | refine Below.alloc ?_ (by first | omega | (simp; done) | (simp; omega)) _ | refine Below.setCell ?_ (by first | omega | (simp; done) | (simp; omega)) _ | refine Below.trans ?_ (Below.mono (by assumption) (by first | omega | (simp; done) | (simp; omega)))))⟩
abbrev wcl (m : Mb) (A : Ma) (v : Value) (mb : Nat) : Array Value := #[.slice A.pa m.places.length A.pc, .slice A.la m.legs.length A.lc, .slice A.ha m.herds.length A.hc, .slice A.sa m.seen.length A.sc, v, .map (some mb)]
/-- What the first loop of open keeps. -/
structure OpAt (w : World) (m : Mb) (A : Ma) (k : Nat) (v : Value) (W : World) : Prop where
  below : Below w.heap.size w W
  bm : Blk W w.heap.size (mcells m A) 27
  map : MapIs W (w.heap.size + 1) []
  bw : Blk W (w.heap.size + 2) (wcl m A v (w.heap.size + 1)) 126
  own : W.ownsRow (w.heap.size + 3) 138 1 v k ((m.places.take k).map spotV)
  size : w.heap.size + 3 ≤ W.heap.size
noncomputable def o4 : Code := sR (sR (sR (sR (Try.f42.body.getD .skip))))
noncomputable def oL1 : Code := sI (sR (sL o4))
noncomputable def oL2 : Code := sI (sR (sL (sR o4)))
noncomputable def oL3 : Code := sI (sR (sL (sR (sR o4))))
noncomputable def oL4 : Code := sI (sR (sL (sR (sR (sR o4)))))
def stopX (e : Int) : Exit := .panic [{ v := stopV e, recovered := false }]
set_option maxHeartbeats 4000000 in
set_option maxRecDepth 100000 in
theorem open_l2 {u0 u1 u2 u3 u4 u6 u7 u8 u9 u10 u11 u12 u13 u14 u15 u16 u17 u18 u19 u20 u21 u22 u23 u24 u25 u26 u27 u28 u29 u30 u31 u32 u33 u34 u35 u36 u37 u38 u39 u40 u41 u42 u43 u44 u45 u46 u47 u48 u49 u50 u51 u52 u53 u54 u55 u56 u57 u58 u59 u60 u61 u62 u63 u64 u65 u66 u67 u68 u69 u70 u71 u72 u73 u74 u75 u76 u77 u81 u82 u83 u84 u85 u86 u87 u88 u89 u90 u91 u92 u93 u94 u95 u96 u97 u98 u99 u100 u101 u102 u103 u104 u105 u106 u107 u108 u109 u110 u111 u112 u113 u114 u115 u116 u117 u118 u119 u120 u121 u122 u123 u124 u125 u126 u127 u128 u129 u130 u131 u132 u133 u134 u135 u136 u137 u138 u139 u140 u141 : Value} {ds : List Deferred} (Q : Exit → Act → World → Prop) (w0 W : World) (n0 : Nat) (HN0 : Hid (w0.heap.size = n0)) (ls : List (Int × Int)) (la : Option Addr) (lc : Nat) (hr : RowsAt w0 la 2 spc ls) (hll : ls.length ≤ 40)
    (hb : Below n0 w0 W) (hn : n0 < W.heap.size)
    (hfail : ls.all lgOk = false → ∀ a W', a.defers = ds → Below n0 w0 W' → Q (stopX 1) a W')
    (hexit : ls.all lgOk = true → ∀ (x11 x80 x81 x82 x83 x84 x85 x86 x87 x88 : Value) W', Below W.heap.size W W' → Q (.exit 2) ⟨(u0 :: u1 :: u2 :: u3 :: u4 :: .func (.func 92) #[] #[] :: u6 :: u7 :: u8 :: u9 :: u10 :: x11 :: u12 :: u13 :: u14 :: u15 :: u16 :: u17 :: u18 :: u19 :: u20 :: u21 :: u22 :: u23 :: u24 :: u25 :: u26 :: u27 :: u28 :: u29 :: u30 :: u31 :: u32 :: u33 :: u34 :: u35 :: u36 :: u37 :: u38 :: u39 :: u40 :: u41 :: u42 :: u43 :: u44 :: u45 :: u46 :: u47 :: u48 :: u49 :: u50 :: u51 :: u52 :: u53 :: u54 :: u55 :: u56 :: u57 :: u58 :: u59 :: u60 :: u61 :: u62 :: u63 :: u64 :: u65 :: u66 :: u67 :: u68 :: u69 :: u70 :: u71 :: u72 :: u73 :: u74 :: u75 :: u76 :: u77 :: .slice la ls.length lc :: .int .i64 (ls.length : Int) :: x80 :: x81 :: x82 :: x83 :: x84 :: x85 :: x86 :: x87 :: x88 :: u89 :: u90 :: u91 :: u92 :: u93 :: u94 :: u95 :: u96 :: u97 :: u98 :: u99 :: u100 :: u101 :: u102 :: u103 :: u104 :: u105 :: u106 :: u107 :: u108 :: u109 :: u110 :: u111 :: u112 :: u113 :: u114 :: u115 :: u116 :: u117 :: u118 :: u119 :: u120 :: u121 :: u122 :: u123 :: u124 :: u125 :: u126 :: u127 :: u128 :: u129 :: u130 :: u131 :: u132 :: u133 :: u134 :: u135 :: u136 :: u137 :: u138 :: u139 :: u140 :: u141 :: []).toArray, ds⟩ W') :
    oL2.wp Try.prog Q ⟨(u0 :: u1 :: u2 :: u3 :: u4 :: .func (.func 92) #[] #[] :: u6 :: u7 :: u8 :: u9 :: u10 :: u11 :: u12 :: u13 :: u14 :: u15 :: u16 :: u17 :: u18 :: u19 :: u20 :: u21 :: u22 :: u23 :: u24 :: u25 :: u26 :: u27 :: u28 :: u29 :: u30 :: u31 :: u32 :: u33 :: u34 :: u35 :: u36 :: u37 :: u38 :: u39 :: u40 :: u41 :: u42 :: u43 :: u44 :: u45 :: u46 :: u47 :: u48 :: u49 :: u50 :: u51 :: u52 :: u53 :: u54 :: u55 :: u56 :: u57 :: u58 :: u59 :: u60 :: u61 :: u62 :: u63 :: u64 :: u65 :: u66 :: u67 :: u68 :: u69 :: u70 :: u71 :: u72 :: u73 :: u74 :: u75 :: u76 :: u77 :: .slice la ls.length lc :: .int .i64 (ls.length : Int) :: .int .i64 0 :: u81 :: u82 :: u83 :: u84 :: u85 :: u86 :: u87 :: u88 :: u89 :: u90 :: u91 :: u92 :: u93 :: u94 :: u95 :: u96 :: u97 :: u98 :: u99 :: u100 :: u101 :: u102 :: u103 :: u104 :: u105 :: u106 :: u107 :: u108 :: u109 :: u110 :: u111 :: u112 :: u113 :: u114 :: u115 :: u116 :: u117 :: u118 :: u119 :: u120 :: u121 :: u122 :: u123 :: u124 :: u125 :: u126 :: u127 :: u128 :: u129 :: u130 :: u131 :: u132 :: u133 :: u134 :: u135 :: u136 :: u137 :: u138 :: u139 :: u140 :: u141 :: []).toArray, ds⟩ W := by
  have HE := Lib.hid hexit
  have HF := Lib.hid hfail
  clear hexit hfail
  have HS := Lib.hid (fun a b c d e W h1 h2 => m_isSpan a b c d e h1 h2 W)
  have HY := Lib.hid m_must_yes
  have HN := Lib.hid m_must_no
  have hli : (ls.length : Int) ≤ 40 := by omega
  conv => arg 2; whnf
  go_loopw [80] (fun x wr => ∃ k : Nat, k ≤ ls.length ∧ x = .int .i64 (k : Int) ∧ Hid ((ls.take k).all lgOk = true) ∧ Below W.heap.size W wr) (fun x _ => (ls.length - (intOf x).toNat))
  case atStart => exact ⟨0, Nat.zero_le _, rfl, rfl, Below.refl _ _⟩
  case round =>
    obtain ⟨k, hk, rfl, hall, hBr⟩ := hrel
    have hBw := hb.trans (hBr.mono (by omega))
    have hsr := hBr.size
    by_cases hlt : k < ls.length
    · obtain ⟨gb, go, rfl, e1, e2⟩ := hr.get2 hlt
      have hgb := World.block_lt_of_cell? w0 _ e1
      simp only [HN0.out] at hgb
      have i1 := (hBw.cell (p := ⟨gb, go + k * 2, none⟩) hgb).trans e1
      have i2 := (hBw.cell (p := ⟨gb, go + k * 2 + 1, none⟩) hgb).trans e2
      have hlti : (k : Int) < ls.length := by omega
      have HT := Lib.hid (fun h => all_more ls lgOk k hlt hall.out h)
      have HO := Lib.hid (fun h => all_stop ls lgOk k hlt h)
      unfold lgOk at HT HO
      generalize ls[k] = x at *
      obtain ⟨x1, x2⟩ := x
      simp only at *
      clear e1 e2
      cases hx : spanM x1 x2 1 5 2
      · rw [hx] at HO
        go_wp2_with (first
          | (go_at_call 92; refine (HS.out _ _ _ _ _ _ (by omega) (by omega)).mono ?_; rw [hx]; rintro e w2 ⟨rfl, hb2⟩)
          | (go_at_call 68; refine (HN.out _ _).mono ?_; rintro e w' ⟨rfl, rfl⟩))
        exact HF.out (HO.out (by trivial)) _ _ rfl ((hBw.alloc (by omega) _).trans (hb2.mono (by simp; omega)))
      · rw [hx] at HT
        go_wp2_with (first
          | (go_at_call 92; refine (HS.out _ _ _ _ _ _ (by omega) (by omega)).mono ?_; rw [hx]; rintro e w2 ⟨rfl, hb2⟩)
          | (go_at_call 68; refine (HY.out _ _).mono ?_; rintro e w' ⟨rfl, rfl⟩))
        exact ⟨⟨k + 1, by omega, by go_num, HT.out (by trivial), (hBr.alloc (by omega) _).trans (hb2.mono (by simp; omega))⟩, by simp [intOf]; omega⟩
    · have hlti : ¬ (k : Int) < (ls.length : Int) := by omega
      have e : k = ls.length := by omega
      subst e
      have hall2 := hall.out
      rw [List.take_length] at hall2
      have HE2 := Lib.hid (HE.out hall2)
      clear hall2
      go_wp2_with fail
      exact HE2.out _ _ _ _ _ _ _ _ _ _ _ hBr
set_option maxHeartbeats 4000000 in
set_option maxRecDepth 100000 in
theorem open_l3 {u0 u1 u3 u4 u6 u7 u8 u9 u10 u11 u12 u13 u14 u15 u16 u17 u18 u19 u20 u21 u22 u23 u24 u25 u26 u27 u28 u29 u30 u31 u32 u33 u34 u35 u36 u37 u38 u39 u40 u41 u42 u43 u44 u45 u46 u47 u48 u49 u50 u51 u52 u53 u54 u55 u56 u57 u58 u59 u60 u61 u62 u63 u64 u65 u66 u67 u68 u69 u70 u71 u72 u73 u74 u75 u76 u77 u78 u79 u80 u81 u82 u83 u84 u85 u86 u87 u88 u89 u93 u94 u95 u96 u97 u98 u99 u100 u101 u102 u103 u104 u105 u106 u107 u108 u109 u110 u111 u112 u113 u114 u115 u116 u117 u118 u119 u120 u121 u122 u123 u124 u125 u126 u127 u128 u129 u130 u131 u132 u133 u134 u135 u136 u137 u138 u139 u140 u141 : Value} {ds : List Deferred} (Q : Exit → Act → World → Prop) (w0 W : World) (n0 : Nat) (HN0 : Hid (w0.heap.size = n0)) (np : Nat) (qa : Option Addr) (qc : Nat) (v1 v2 v3 : Value) (hs : List (Int × Int × Int × Int)) (ha : Option Addr) (hc : Nat) (hr : RowsAt w0 ha 4 i4c hs) (hll : hs.length ≤ 40) (hnp : np ≤ 40)
    (hb : Below n0 w0 W) (bm : Blk W n0 #[.slice qa np qc, v1, v2, v3] 27)
    (hfail : hs.all (hdOk np) = false → ∀ a W', a.defers = ds → Below n0 w0 W' → Q (stopX 1) a W')
    (hexit : hs.all (hdOk np) = true → ∀ (x13 x92 x93 x94 x95 x96 x97 x98 x99 x100 x101 x102 x103 x104 x105 x106 x107 x108 x109 x110 x111 x112 x113 x114 x115 : Value) W', Below W.heap.size W W' → Q (.exit 4) ⟨(u0 :: u1 :: .pointer (some ⟨n0, 0, none⟩) :: u3 :: u4 :: .func (.func 92) #[] #[] :: u6 :: u7 :: u8 :: u9 :: u10 :: u11 :: u12 :: x13 :: u14 :: u15 :: u16 :: u17 :: u18 :: u19 :: u20 :: u21 :: u22 :: u23 :: u24 :: u25 :: u26 :: u27 :: u28 :: u29 :: u30 :: u31 :: u32 :: u33 :: u34 :: u35 :: u36 :: u37 :: u38 :: u39 :: u40 :: u41 :: u42 :: u43 :: u44 :: u45 :: u46 :: u47 :: u48 :: u49 :: u50 :: u51 :: u52 :: u53 :: u54 :: u55 :: u56 :: u57 :: u58 :: u59 :: u60 :: u61 :: u62 :: u63 :: u64 :: u65 :: u66 :: u67 :: u68 :: u69 :: u70 :: u71 :: u72 :: u73 :: u74 :: u75 :: u76 :: u77 :: u78 :: u79 :: u80 :: u81 :: u82 :: u83 :: u84 :: u85 :: u86 :: u87 :: u88 :: u89 :: .slice ha hs.length hc :: .int .i64 (hs.length : Int) :: x92 :: x93 :: x94 :: x95 :: x96 :: x97 :: x98 :: x99 :: x100 :: x101 :: x102 :: x103 :: x104 :: x105 :: x106 :: x107 :: x108 :: x109 :: x110 :: x111 :: x112 :: x113 :: x114 :: x115 :: u116 :: u117 :: u118 :: u119 :: u120 :: u121 :: u122 :: u123 :: u124 :: u125 :: u126 :: u127 :: u128 :: u129 :: u130 :: u131 :: u132 :: u133 :: u134 :: u135 :: u136 :: u137 :: u138 :: u139 :: u140 :: u141 :: []).toArray, ds⟩ W') :
    oL3.wp Try.prog Q ⟨(u0 :: u1 :: .pointer (some ⟨n0, 0, none⟩) :: u3 :: u4 :: .func (.func 92) #[] #[] :: u6 :: u7 :: u8 :: u9 :: u10 :: u11 :: u12 :: u13 :: u14 :: u15 :: u16 :: u17 :: u18 :: u19 :: u20 :: u21 :: u22 :: u23 :: u24 :: u25 :: u26 :: u27 :: u28 :: u29 :: u30 :: u31 :: u32 :: u33 :: u34 :: u35 :: u36 :: u37 :: u38 :: u39 :: u40 :: u41 :: u42 :: u43 :: u44 :: u45 :: u46 :: u47 :: u48 :: u49 :: u50 :: u51 :: u52 :: u53 :: u54 :: u55 :: u56 :: u57 :: u58 :: u59 :: u60 :: u61 :: u62 :: u63 :: u64 :: u65 :: u66 :: u67 :: u68 :: u69 :: u70 :: u71 :: u72 :: u73 :: u74 :: u75 :: u76 :: u77 :: u78 :: u79 :: u80 :: u81 :: u82 :: u83 :: u84 :: u85 :: u86 :: u87 :: u88 :: u89 :: .slice ha hs.length hc :: .int .i64 (hs.length : Int) :: .int .i64 0 :: u93 :: u94 :: u95 :: u96 :: u97 :: u98 :: u99 :: u100 :: u101 :: u102 :: u103 :: u104 :: u105 :: u106 :: u107 :: u108 :: u109 :: u110 :: u111 :: u112 :: u113 :: u114 :: u115 :: u116 :: u117 :: u118 :: u119 :: u120 :: u121 :: u122 :: u123 :: u124 :: u125 :: u126 :: u127 :: u128 :: u129 :: u130 :: u131 :: u132 :: u133 :: u134 :: u135 :: u136 :: u137 :: u138 :: u139 :: u140 :: u141 :: []).toArray, ds⟩ W := by
  have HE := Lib.hid hexit
  have HF := Lib.hid hfail
  clear hexit hfail
  have HI := Lib.hid (fun a b c W => m_within a b c W)
  have HS := Lib.hid (fun a b c d e W h1 h2 => m_isSpan a b c d e h1 h2 W)
  have HY := Lib.hid m_must_yes
  have HN := Lib.hid m_must_no
  have hli : (hs.length : Int) ≤ 40 := by omega
  have hnpi : (np : Int) ≤ 40 := by omega
  have hn := bm.lt
  conv => arg 2; whnf
  go_loopw [92] (fun x wr => ∃ k : Nat, k ≤ hs.length ∧ x = .int .i64 (k : Int) ∧ Hid ((hs.take k).all (hdOk np) = true) ∧ Below W.heap.size W wr) (fun x _ => (hs.length - (intOf x).toNat))
  case atStart => exact ⟨0, Nat.zero_le _, rfl, rfl, Below.refl _ _⟩
  case round =>
    obtain ⟨k, hk, rfl, hall, hBr⟩ := hrel
    have hBw := hb.trans (hBr.mono (by omega))
    have hsr := hBr.size
    have bmr := bm.below hBr hn
    have rm := bmr.cell
    by_cases hlt : k < hs.length
    · obtain ⟨gb, go, rfl, e1, e2, e3, e4⟩ := hr.get4 hlt
      have hgb := World.block_lt_of_cell? w0 _ e1
      simp only [HN0.out] at hgb
      have i1 := (hBw.cell (p := ⟨gb, go + k * 4, none⟩) hgb).trans e1
      have i2 := (hBw.cell (p := ⟨gb, go + k * 4 + 1, none⟩) hgb).trans e2
      have i3 := (hBw.cell (p := ⟨gb, go + k * 4 + 2, none⟩) hgb).trans e3
      have i4 := (hBw.cell (p := ⟨gb, go + k * 4 + 3, none⟩) hgb).trans e4
      have hlti : (k : Int) < hs.length := by omega
      have HT := Lib.hid (fun h => all_more hs (hdOk np) k hlt hall.out h)
      have HO := Lib.hid (fun h => all_stop hs (hdOk np) k hlt h)
      have HD : Hid (hdOk np hs[k] = (inB hs[k].1 0 ((np : Int) - 2) && (spanM hs[k].2.1 hs[k].2.2.1 0 30 3 && inB hs[k].2.2.2 0 20))) := rfl
      generalize hs[k] = x at *
      generalize hdOk np x = hx at *
      obtain ⟨x1, x2, x3, x4⟩ := x
      simp only at *
      clear e1 e2 e3 e4
      cases c1 : inB x1 0 ((np : Int) - 2)
      · rw [c1] at HD
        go_wp2_with (first
          | (go_at_call 93; refine (HI.out _ _ _ _).mono ?_; rintro e w' ⟨rfl, rfl⟩; rw [c1])
          | (go_at_call 68; refine (HN.out _ _).mono ?_; rintro e w' ⟨rfl, rfl⟩))
        exact HF.out (HO.out (by rw [HD.out]; rfl)) _ _ rfl (hBw.alloc (by omega) _)
      · cases c2 : spanM x2 x3 0 30 3
        · rw [c1, c2] at HD
          go_wp2_with (first
            | (go_at_call 93; refine (HI.out _ _ _ _).mono ?_; rintro e w' ⟨rfl, rfl⟩; rw [c1])
            | (go_at_call 92; refine (HS.out _ _ _ _ _ _ (by omega) (by omega)).mono ?_; rw [c2]; rintro e w2 ⟨rfl, hb2⟩; obtain ⟨d2, f2, z2⟩ := after hb2 (World.size_alloc _ _))
            | (go_at_call 68; refine (HN.out _ _).mono ?_; rintro e w' ⟨rfl, rfl⟩))
          exact HF.out (HO.out (by rw [HD.out]; rfl)) _ _ rfl ((hBw.alloc (by omega) _).trans (hb2.mono (by simp; omega)))
        · cases c3 : inB x4 0 20
          · rw [c1, c2, c3] at HD
            go_wp2_with (first
              | (go_at_call 93; refine (HI.out _ _ _ _).mono ?_; rintro e w' ⟨rfl, rfl⟩; first | rw [c1] | rw [c3])
              | (go_at_call 92; refine (HS.out _ _ _ _ _ _ (by omega) (by omega)).mono ?_; rw [c2]; rintro e w2 ⟨rfl, hb2⟩; obtain ⟨d2, f2, z2⟩ := after hb2 (World.size_alloc _ _))
              | (go_at_call 68; refine (HN.out _ _).mono ?_; rintro e w' ⟨rfl, rfl⟩))
            exact HF.out (HO.out (by rw [HD.out]; rfl)) _ _ rfl ((hBw.alloc (by omega) _).trans (hb2.mono (by simp; omega)))
          · rw [c1, c2, c3] at HD
            go_wp2_with (first
              | (go_at_call 93; refine (HI.out _ _ _ _).mono ?_; rintro e w' ⟨rfl, rfl⟩; first | rw [c1] | rw [c3])
              | (go_at_call 92; refine (HS.out _ _ _ _ _ _ (by omega) (by omega)).mono ?_; rw [c2]; rintro e w2 ⟨rfl, hb2⟩; obtain ⟨d2, f2, z2⟩ := after hb2 (World.size_alloc _ _))
              | (go_at_call 68; refine (HY.out _ _).mono ?_; rintro e w' ⟨rfl, rfl⟩))
            exact ⟨⟨k + 1, by omega, by go_num, HT.out (by rw [HD.out]; rfl), (hBr.alloc (by omega) _).trans (hb2.mono (by simp; omega))⟩, by simp [intOf]; omega⟩
    · have hlti : ¬ (k : Int) < (hs.length : Int) := by omega
      have e : k = hs.length := by omega
      subst e
      have hall2 := hall.out
      rw [List.take_length] at hall2
      have HE2 := Lib.hid (HE.out hall2)
      clear hall2
      go_wp2_with fail
      exact HE2.out _ _ _ _ _ _ _ _ _ _ _ _ _ _ _ _ _ _ _ _ _ _ _ _ _ _ hBr
/-- Where a place is one from the start of a mob on: the same, if all mobs are right. -/
theorem fromP_eq {m : Mb} (h : m.herds.all (hdOk m.places.length) = true) (a b : Int) : fromP m a b = fromB m a b := by
  unfold fromP fromB herdB
  cases h1 : inB a 0 ((m.herds.length : Int) - 1)
  · rfl
  · have h2 := inB_of h1
    obtain ⟨i, rfl⟩ : ∃ i : Nat, a = (i : Int) := ⟨a.toNat, by omega⟩
    have hi : i < m.herds.length := by omega
    have h3 := List.all_eq_true.1 h _ (List.getElem_mem hi)
    simp only [hdOk, Bool.and_eq_true] at h3
    have h4 := inB_of h3.1
    have hs : startI m (i : Int) = m.herds[i].1 := by unfold startI; simp [hi]
    rw [hs, Bool.true_and, Bool.true_and, Bool.eq_iff_iff]
    simp only [inB, Bool.and_eq_true, decide_eq_true_eq]
    omega
set_option maxHeartbeats 4000000 in
set_option maxRecDepth 100000 in
theorem open_l4 {u0 u1 u2 u3 u4 u7 u8 u9 u10 u11 u12 u13 u14 u15 u16 u17 u18 u19 u20 u21 u22 u23 u24 u25 u26 u27 u28 u29 u30 u31 u32 u33 u34 u35 u36 u37 u38 u39 u40 u41 u42 u43 u44 u45 u46 u47 u48 u49 u50 u51 u52 u53 u54 u55 u56 u57 u58 u59 u60 u61 u62 u63 u64 u65 u66 u67 u68 u69 u70 u71 u72 u73 u74 u75 u76 u77 u78 u79 u80 u81 u82 u83 u84 u85 u86 u87 u88 u89 u90 u91 u92 u93 u94 u95 u96 u97 u98 u99 u100 u101 u102 u103 u104 u105 u106 u107 u108 u109 u110 u111 u112 u113 u114 u115 u116 u120 u121 u122 u123 u124 u125 u126 u127 u128 u129 u130 u131 u132 u133 u134 u135 u136 u137 u138 u139 u140 u141 : Value} {ds : List Deferred} (Q : Exit → Act → World → Prop) (w0 W : World) (n0 : Nat) (HN0 : Hid (w0.heap.size = n0)) (m : Mb) (A : Ma) (wp : Nat) (v mp : Value) (hl : Mlen m) (hr : RowsAt w0 A.sa 4 i4c m.seen) (hh : RowsAt w0 A.ha 4 i4c m.herds) (hok : m.herds.all (hdOk m.places.length) = true)
    (hb : Below n0 w0 W) (hn : n0 < W.heap.size) (bw : Blk W wp #[.slice A.pa m.places.length A.pc, .slice A.la m.legs.length A.lc, .slice A.ha m.herds.length A.hc, .slice A.sa m.seen.length A.sc, v, mp] 126)
    (hfail : m.seen.all (snOk m) = false → ∀ a W', a.defers = ds → Below n0 w0 W' → Q (stopX 1) a W')
    (hexit : m.seen.all (snOk m) = true → ∀ (x15 x119 x120 x121 x122 x123 x124 x125 x126 x127 x128 x129 x130 x131 x132 x133 x134 x135 x136 : Value) W', Below W.heap.size W W' → Q (.exit 6) ⟨(u0 :: u1 :: u2 :: u3 :: u4 :: .func (.func 92) #[] #[] :: .pointer (some ⟨wp, 0, none⟩) :: u7 :: u8 :: u9 :: u10 :: u11 :: u12 :: u13 :: u14 :: x15 :: u16 :: u17 :: u18 :: u19 :: u20 :: u21 :: u22 :: u23 :: u24 :: u25 :: u26 :: u27 :: u28 :: u29 :: u30 :: u31 :: u32 :: u33 :: u34 :: u35 :: u36 :: u37 :: u38 :: u39 :: u40 :: u41 :: u42 :: u43 :: u44 :: u45 :: u46 :: u47 :: u48 :: u49 :: u50 :: u51 :: u52 :: u53 :: u54 :: u55 :: u56 :: u57 :: u58 :: u59 :: u60 :: u61 :: u62 :: u63 :: u64 :: u65 :: u66 :: u67 :: u68 :: u69 :: u70 :: u71 :: u72 :: u73 :: u74 :: u75 :: u76 :: u77 :: u78 :: u79 :: u80 :: u81 :: u82 :: u83 :: u84 :: u85 :: u86 :: u87 :: u88 :: u89 :: u90 :: u91 :: u92 :: u93 :: u94 :: u95 :: u96 :: u97 :: u98 :: u99 :: u100 :: u101 :: u102 :: u103 :: u104 :: u105 :: u106 :: u107 :: u108 :: u109 :: u110 :: u111 :: u112 :: u113 :: u114 :: u115 :: u116 :: .slice A.sa m.seen.length A.sc :: .int .i64 (m.seen.length : Int) :: x119 :: x120 :: x121 :: x122 :: x123 :: x124 :: x125 :: x126 :: x127 :: x128 :: x129 :: x130 :: x131 :: x132 :: x133 :: x134 :: x135 :: x136 :: u137 :: u138 :: u139 :: u140 :: u141 :: []).toArray, ds⟩ W') :
    oL4.wp Try.prog Q ⟨(u0 :: u1 :: u2 :: u3 :: u4 :: .func (.func 92) #[] #[] :: .pointer (some ⟨wp, 0, none⟩) :: u7 :: u8 :: u9 :: u10 :: u11 :: u12 :: u13 :: u14 :: u15 :: u16 :: u17 :: u18 :: u19 :: u20 :: u21 :: u22 :: u23 :: u24 :: u25 :: u26 :: u27 :: u28 :: u29 :: u30 :: u31 :: u32 :: u33 :: u34 :: u35 :: u36 :: u37 :: u38 :: u39 :: u40 :: u41 :: u42 :: u43 :: u44 :: u45 :: u46 :: u47 :: u48 :: u49 :: u50 :: u51 :: u52 :: u53 :: u54 :: u55 :: u56 :: u57 :: u58 :: u59 :: u60 :: u61 :: u62 :: u63 :: u64 :: u65 :: u66 :: u67 :: u68 :: u69 :: u70 :: u71 :: u72 :: u73 :: u74 :: u75 :: u76 :: u77 :: u78 :: u79 :: u80 :: u81 :: u82 :: u83 :: u84 :: u85 :: u86 :: u87 :: u88 :: u89 :: u90 :: u91 :: u92 :: u93 :: u94 :: u95 :: u96 :: u97 :: u98 :: u99 :: u100 :: u101 :: u102 :: u103 :: u104 :: u105 :: u106 :: u107 :: u108 :: u109 :: u110 :: u111 :: u112 :: u113 :: u114 :: u115 :: u116 :: .slice A.sa m.seen.length A.sc :: .int .i64 (m.seen.length : Int) :: .int .i64 0 :: u120 :: u121 :: u122 :: u123 :: u124 :: u125 :: u126 :: u127 :: u128 :: u129 :: u130 :: u131 :: u132 :: u133 :: u134 :: u135 :: u136 :: u137 :: u138 :: u139 :: u140 :: u141 :: []).toArray, ds⟩ W := by
  have HE := Lib.hid hexit
  have HF := Lib.hid hfail
  clear hexit hfail
  have HS := Lib.hid (fun a b c d e W h1 h2 => m_isSpan a b c d e h1 h2 W)
  have HFr : Hid (∀ a b W, Below n0 w0 W → Blk W wp #[.slice A.pa m.places.length A.pc, .slice A.la m.legs.length A.lc, .slice A.ha m.herds.length A.hc, .slice A.sa m.seen.length A.sc, v, mp] 126 → Calls Try.prog 75 #[.pointer (some ⟨wp, 0, none⟩), .int .i64 a, .int .i64 b] W (fun e w' => e = .returned (.bool (fromB m a b)) ∧ Below W.heap.size W w')) := fun a b W hW hw => by
    rw [← fromP_eq hok]
    exact m_isFrom wp m A a b W hl (hw.cell 0) (hw.cell 2) (hh.below (by rw [HN0.out]; exact hW))
  have HY := Lib.hid m_must_yes
  have HN := Lib.hid m_must_no
  have hll := hl.seen
  have hli : (m.seen.length : Int) ≤ 40 := by omega
  have hwl := bw.lt
  clear hok
  conv => arg 2; whnf
  go_loopw [119] (fun x wr => ∃ k : Nat, k ≤ m.seen.length ∧ x = .int .i64 (k : Int) ∧ Hid ((m.seen.take k).all (snOk m) = true) ∧ Below W.heap.size W wr) (fun x _ => (m.seen.length - (intOf x).toNat))
  case atStart => exact ⟨0, Nat.zero_le _, rfl, rfl, Below.refl _ _⟩
  case round =>
    obtain ⟨k, hk, rfl, hall, hBr⟩ := hrel
    have hBw := hb.trans (hBr.mono (by omega))
    have hsr := hBr.size
    have bwr := bw.below hBr hwl
    by_cases hlt : k < m.seen.length
    · rcases A with ⟨pa, pc, la, lc, ha, hc, sa, sc⟩
      obtain ⟨gb, go, e0, e1, e2, e3, e4⟩ := hr.get4 hlt
      simp only at e0
      subst e0
      have hgb := World.block_lt_of_cell? w0 _ e1
      simp only [HN0.out] at hgb
      have i1 := (hBw.cell (p := ⟨gb, go + k * 4, none⟩) hgb).trans e1
      have i2 := (hBw.cell (p := ⟨gb, go + k * 4 + 1, none⟩) hgb).trans e2
      have i3 := (hBw.cell (p := ⟨gb, go + k * 4 + 2, none⟩) hgb).trans e3
      have i4 := (hBw.cell (p := ⟨gb, go + k * 4 + 3, none⟩) hgb).trans e4
      have hlti : (k : Int) < m.seen.length := by omega
      have HT := Lib.hid (fun h => all_more m.seen (snOk m) k hlt hall.out h)
      have HO := Lib.hid (fun h => all_stop m.seen (snOk m) k hlt h)
      have HD : Hid (snOk m m.seen[k] = (fromB m m.seen[k].1 m.seen[k].2.1 && spanM m.seen[k].2.2.1 m.seen[k].2.2.2 0 100 100)) := rfl
      have HFk := Lib.hid (HFr.out m.seen[k].1 m.seen[k].2.1 (wr.alloc (.cells #[.int .i64 m.seen[k].1, .int .i64 m.seen[k].2.1, .int .i64 m.seen[k].2.2.1, .int .i64 m.seen[k].2.2.2] 64)) (hBw.alloc (by omega) _) (bwr.alloc _))
      generalize fromB m m.seen[k].1 m.seen[k].2.1 = fr at *
      generalize snOk m m.seen[k] = sx at *
      generalize m.seen[k] = x at *
      obtain ⟨x1, x2, x3, x4⟩ := x
      simp only at *
      clear e1 e2 e3 e4 HFr
      cases fr
      · go_wp2_with (first
          | (go_at_call 75; refine HFk.out.mono ?_; rintro e w2 ⟨rfl, hb2⟩; obtain ⟨d2, f2, z2⟩ := after hb2 (World.size_alloc _ _))
          | (go_at_call 68; refine (HN.out _ _).mono ?_; rintro e w' ⟨rfl, rfl⟩))
        exact HF.out (HO.out (by rw [HD.out]; rfl)) _ _ rfl ((hBw.alloc (by omega) _).trans (hb2.mono (by simp; omega)))
      · cases c2 : spanM x3 x4 0 100 100
        · rw [c2] at HD
          go_wp2_with (first
            | (go_at_call 75; refine HFk.out.mono ?_; rintro e w2 ⟨rfl, hb2⟩; obtain ⟨d2, f2, z2⟩ := after hb2 (World.size_alloc _ _))
            | (go_at_call 92; refine (HS.out _ _ _ _ _ _ (by omega) (by omega)).mono ?_; rw [c2]; rintro e w3 ⟨rfl, hb3⟩)
            | (go_at_call 68; refine (HN.out _ _).mono ?_; rintro e w' ⟨rfl, rfl⟩))
          exact HF.out (HO.out (by rw [HD.out]; rfl)) _ _ rfl (((hBw.alloc (by omega) _).trans (hb2.mono (by simp; omega))).trans (hb3.mono (by omega)))
        · rw [c2] at HD
          go_wp2_with (first
            | (go_at_call 75; refine HFk.out.mono ?_; rintro e w2 ⟨rfl, hb2⟩; obtain ⟨d2, f2, z2⟩ := after hb2 (World.size_alloc _ _))
            | (go_at_call 92; refine (HS.out _ _ _ _ _ _ (by omega) (by omega)).mono ?_; rw [c2]; rintro e w3 ⟨rfl, hb3⟩)
            | (go_at_call 68; refine (HY.out _ _).mono ?_; rintro e w' ⟨rfl, rfl⟩))
          exact ⟨⟨k + 1, by omega, by go_num, HT.out (by rw [HD.out]; rfl), ((hBr.alloc (by omega) _).trans (hb2.mono (by simp; omega))).trans (hb3.mono (by omega))⟩, by simp [intOf]; omega⟩
    · have hlti : ¬ (k : Int) < (m.seen.length : Int) := by omega
      have e : k = m.seen.length := by omega
      subst e
      have hall2 := hall.out
      rw [List.take_length] at hall2
      have HE2 := Lib.hid (HE.out hall2)
      clear hall2
      go_wp2_with fail
      exact HE2.out _ _ _ _ _ _ _ _ _ _ _ _ _ _ _ _ _ _ _ _ hBr
set_option maxHeartbeats 4000000 in
set_option maxRecDepth 100000 in
theorem open_l1 {u0 u1 u2 u3 u4 u5 u7 u8 u9 u10 u11 u12 u13 u14 u15 u16 u17 u18 u19 u20 u21 u22 u23 u24 u25 u26 u27 u28 u29 u30 u31 u32 u33 u34 u35 u36 u37 u38 u39 u40 u41 u42 u43 u44 u45 u46 u47 u51 u52 u53 u54 u55 u56 u57 u58 u59 u60 u61 u62 u63 u64 u65 u66 u67 u68 u69 u70 u71 u72 u73 u74 u75 u76 u77 u78 u79 u80 u81 u82 u83 u84 u85 u86 u87 u88 u89 u90 u91 u92 u93 u94 u95 u96 u97 u98 u99 u100 u101 u102 u103 u104 u105 u106 u107 u108 u109 u110 u111 u112 u113 u114 u115 u116 u117 u118 u119 u120 u121 u122 u123 u124 u125 u126 u127 u128 u129 u130 u131 u132 u133 u134 u135 u136 u137 u138 u139 u140 u141 : Value} {ds : List Deferred} (Q : Exit → Act → World → Prop) (w0 W : World) (n0 : Nat) (HN0 : Hid (w0.heap.size = n0)) (m : Mb) (qa : Option Addr) (qc : Nat) (la : Option Addr) (lc : Nat) (ha : Option Addr) (hc : Nat) (sa : Option Addr) (sc : Nat) (hr : RowsAt w0 qa 2 plc m.places) (l2 : m.places.length ≤ 6)
    (hA0 : OpAt w0 m ⟨qa, qc, la, lc, ha, hc, sa, sc⟩ 0 (.slice none 0 0) W)
    (hfail : m.places.all plOk = false → ∀ a W', a.defers = ds → Below n0 w0 W' → Q (stopX 1) a W')
    (hexit : m.places.all plOk = true → ∀ (x8 x9 x50 x51 x52 x53 x54 x55 x56 x57 x58 x59 x60 x61 x62 x63 x64 x65 x66 x67 x68 x69 x70 x71 x72 x73 x74 x75 x76 : Value) v W', OpAt w0 m ⟨qa, qc, la, lc, ha, hc, sa, sc⟩ m.places.length v W' → Q (.exit 0) ⟨(u0 :: u1 :: u2 :: u3 :: u4 :: u5 :: .pointer (some ⟨n0 + 1 + 1, 0, none⟩) :: u7 :: x8 :: x9 :: u10 :: u11 :: u12 :: u13 :: u14 :: u15 :: u16 :: u17 :: u18 :: u19 :: u20 :: u21 :: u22 :: u23 :: u24 :: u25 :: u26 :: u27 :: u28 :: u29 :: u30 :: u31 :: u32 :: u33 :: u34 :: u35 :: u36 :: u37 :: u38 :: u39 :: u40 :: u41 :: u42 :: u43 :: u44 :: u45 :: u46 :: u47 :: .slice qa m.places.length qc :: .int .i64 (m.places.length : Int) :: x50 :: x51 :: x52 :: x53 :: x54 :: x55 :: x56 :: x57 :: x58 :: x59 :: x60 :: x61 :: x62 :: x63 :: x64 :: x65 :: x66 :: x67 :: x68 :: x69 :: x70 :: x71 :: x72 :: x73 :: x74 :: x75 :: x76 :: u77 :: u78 :: u79 :: u80 :: u81 :: u82 :: u83 :: u84 :: u85 :: u86 :: u87 :: u88 :: u89 :: u90 :: u91 :: u92 :: u93 :: u94 :: u95 :: u96 :: u97 :: u98 :: u99 :: u100 :: u101 :: u102 :: u103 :: u104 :: u105 :: u106 :: u107 :: u108 :: u109 :: u110 :: u111 :: u112 :: u113 :: u114 :: u115 :: u116 :: u117 :: u118 :: u119 :: u120 :: u121 :: u122 :: u123 :: u124 :: u125 :: u126 :: u127 :: u128 :: u129 :: u130 :: u131 :: u132 :: u133 :: u134 :: u135 :: u136 :: u137 :: u138 :: u139 :: u140 :: u141 :: []).toArray, ds⟩ W') :
    oL1.wp Try.prog Q ⟨(u0 :: u1 :: u2 :: u3 :: u4 :: u5 :: .pointer (some ⟨n0 + 1 + 1, 0, none⟩) :: u7 :: u8 :: u9 :: u10 :: u11 :: u12 :: u13 :: u14 :: u15 :: u16 :: u17 :: u18 :: u19 :: u20 :: u21 :: u22 :: u23 :: u24 :: u25 :: u26 :: u27 :: u28 :: u29 :: u30 :: u31 :: u32 :: u33 :: u34 :: u35 :: u36 :: u37 :: u38 :: u39 :: u40 :: u41 :: u42 :: u43 :: u44 :: u45 :: u46 :: u47 :: .slice qa m.places.length qc :: .int .i64 (m.places.length : Int) :: .int .i64 0 :: u51 :: u52 :: u53 :: u54 :: u55 :: u56 :: u57 :: u58 :: u59 :: u60 :: u61 :: u62 :: u63 :: u64 :: u65 :: u66 :: u67 :: u68 :: u69 :: u70 :: u71 :: u72 :: u73 :: u74 :: u75 :: u76 :: u77 :: u78 :: u79 :: u80 :: u81 :: u82 :: u83 :: u84 :: u85 :: u86 :: u87 :: u88 :: u89 :: u90 :: u91 :: u92 :: u93 :: u94 :: u95 :: u96 :: u97 :: u98 :: u99 :: u100 :: u101 :: u102 :: u103 :: u104 :: u105 :: u106 :: u107 :: u108 :: u109 :: u110 :: u111 :: u112 :: u113 :: u114 :: u115 :: u116 :: u117 :: u118 :: u119 :: u120 :: u121 :: u122 :: u123 :: u124 :: u125 :: u126 :: u127 :: u128 :: u129 :: u130 :: u131 :: u132 :: u133 :: u134 :: u135 :: u136 :: u137 :: u138 :: u139 :: u140 :: u141 :: []).toArray, ds⟩ W := by
  have HE := Lib.hid hexit
  have HFl := Lib.hid hfail
  clear hexit hfail
  have HI := Lib.hid (fun a b c W => m_within a b c W)
  have HY := Lib.hid m_must_yes
  have HN := Lib.hid m_must_no
  obtain ⟨i0, hi0, hz0, hz1, hz2⟩ := info_of Try.info138
  have hli : (m.places.length : Int) ≤ 6 := by omega
  conv => arg 2; whnf
  go_loopw [50] (fun x wr => ∃ (k : Nat) (v : Value), k ≤ m.places.length ∧ x = .int .i64 (k : Int) ∧ Hid ((m.places.take k).all plOk = true) ∧ OpAt w0 m ⟨qa, qc, la, lc, ha, hc, sa, sc⟩ k v wr) (fun x _ => (m.places.length - (intOf x).toNat))
  case atStart => exact ⟨0, _, Nat.zero_le _, rfl, rfl, hA0⟩
  case round =>
    clear hA0
    obtain ⟨k, v, hk, rfl, hall, hA⟩ := hrel
    by_cases hlt : k < m.places.length
    · obtain ⟨gb, go, e0, e1, e2⟩ := hr.getP hlt
      have hgb := World.block_lt_of_cell? w0 _ e1
      simp only [HN0.out] at hgb
      subst e0
      have hbw := hA.below
      rw [HN0.out] at hbw
      have i1 := (hbw.cell (p := ⟨gb, go + k * 2, none⟩) hgb).trans e1
      have i2 := (hbw.cell (p := ⟨gb, go + k * 2 + 1, none⟩) hgb).trans e2
      have hlti : (k : Int) < m.places.length := by omega
      have HT := Lib.hid (fun h => all_more m.places plOk k hlt hall.out h)
      have HF := Lib.hid (fun h => all_stop m.places plOk k hlt h)
      have htk : m.places.take (k + 1) = m.places.take k ++ [m.places[k]] := List.take_succ_eq_append_getElem hlt
      have HTK := Lib.hid htk
      unfold plOk at HT HF
      clear e1 e2 htk
      generalize m.places[k] = x at *
      obtain ⟨x1, x2⟩ := x
      simp only at *
      have bm := hA.bm
      have bw := hA.bw
      have hown := hA.own
      have hsz := hA.size
      rw [HN0.out] at bm bw hown hsz
      obtain ⟨av, cv, rfl⟩ := own_any hown
      have rm := bm.cell
      have rw' := bw.cell
      have fw := bw.free
      have hk6 : k ≤ 6 := by omega
      cases hx : inB x2 0 3
      · rw [hx] at HF
        go_wp2_with (first
          | (go_at_call 93; refine (HI.out _ _ _ _).mono ?_; rintro e w' ⟨rfl, rfl⟩; rw [hx])
          | (go_at_call 68; refine (HN.out _ _).mono ?_; rintro e w' ⟨rfl, rfl⟩))
        exact HFl.out (HF.out (by trivial)) _ _ rfl (hbw.alloc (by omega) _)
      · rw [hx] at HT
        cases x1
        · have e1 : wr.cell? ⟨gb, go + k * 2, none⟩ = some (.bool false) := i1
          clear i1
          have i1 := e1
          go_wp2_with (first
            | (go_at_call 93; refine (HI.out _ _ _ _).mono ?_; rintro e w' ⟨rfl, rfl⟩; rw [hx])
            | (go_at_call 68; refine (HY.out _ _).mono ?_; rintro e w' ⟨rfl, rfl⟩)
            | (at_builtin; refine at_stop ?_))
          unfold Stop
          refine wpList_append_own _ rfl (.tmp 70) (.tmp 72) 123 rfl (n0 + 3) 138 i0 .nilIface 1 16 Try.underlying123 hi0 hz0 hz1 hz2 rfl (by decide) (.slice av k cv) k ((m.places.take k).map spotV) rfl (World.ownsRow.alloc (World.ownsRow.alloc hown _) _) ⟨wr.heap.size + 1, 0, none⟩ 1 1 [.iface 136 (.agg #[])] rfl rfl (news_blk (A := #[.iface 136 (.agg #[])]) (Blk.new' _ _ _ _ (by simp))) (by simp [Value.oneCell']) (by unfold maxLen; omega) (by omega) (by simp; omega) ?_
          intro v6 w6 hown6 hgrow6 _
          have hg5 := fun g e => (hown.lt g e).1
          have hl6 : Lets (fun j _ => n0 + 3 ≤ j) wr w6 := (((Lets.refl _ _).alloc _).alloc _).grown hgrow6 (fun j e hj => hg5 j e)
          obtain ⟨a6, c6, rfl⟩ := own_any hown6
          have bw6 := hl6.blk bw (by omega)
          have r6 := bw6.cell
          have f6 := bw6.free
          have lt6 := bw6.lt
          clear hgrow6 hg5 rm rw' fw i1 i2
          go_wp2_with fail
          have hlf : Lets (fun j _ => j = n0 + 2 ∨ n0 + 3 ≤ j) wr (w6.setCell ⟨n0 + 2, 4, none⟩ (.slice a6 (k + 1) c6)) := (hl6.mono fun _ _ e => .inr e).setCell (.inl rfl) _
          refine ⟨⟨k + 1, .slice a6 (k + 1) c6, by omega, by go_num, HT.out (by trivial), ?_⟩, by simp [intOf]; omega⟩
          refine ⟨?_, ?_, ?_, ?_, ?_, ?_⟩
          · rw [HN0.out]; exact below_lets hbw hlf (by have := HN0.out; omega) (fun j o h e => by omega)
          · rw [HN0.out]; exact hlf.blk bm (by omega)
          · rw [HN0.out]
            have := hA.map
            rw [HN0.out] at this
            exact (hlf.block _ this.lt (by omega)).trans this
          · rw [HN0.out]; exact bw6.set 4 _
          · rw [HN0.out, HTK.out, List.map_append]
            have := own_lets (X := fun j _ => j = n0 + 2) hown6 ((Lets.refl _ _).setCell (p := ⟨n0 + 2, 4, none⟩) rfl (.slice a6 (k + 1) c6)) (fun j o h e => by omega)
            exact this
          · rw [HN0.out]; exact Nat.le_trans hsz hlf.size
        · have e1 : wr.cell? ⟨gb, go + k * 2, none⟩ = some (.bool true) := i1
          clear i1
          have i1 := e1
          go_wp2_with (first
            | (go_at_call 93; refine (HI.out _ _ _ _).mono ?_; rintro e w' ⟨rfl, rfl⟩; rw [hx])
            | (go_at_call 68; refine (HY.out _ _).mono ?_; rintro e w' ⟨rfl, rfl⟩)
            | (at_builtin; refine at_stop ?_))
          unfold Stop
          refine wpList_append_own _ rfl (.tmp 70) (.tmp 72) 123 rfl (n0 + 3) 138 i0 .nilIface 1 16 Try.underlying123 hi0 hz0 hz1 hz2 rfl (by decide) (.slice av k cv) k ((m.places.take k).map spotV) rfl (World.ownsRow.alloc (World.ownsRow.alloc hown _) _) ⟨wr.heap.size + 1, 0, none⟩ 1 1 [.iface 140 (.agg #[.int .i64 x2])] rfl rfl (news_blk (A := #[.iface 140 (.agg #[.int .i64 x2])]) (Blk.new' _ _ _ _ (by simp))) (by simp [Value.oneCell']) (by unfold maxLen; omega) (by omega) (by simp; omega) ?_
          intro v6 w6 hown6 hgrow6 _
          have hg5 := fun g e => (hown.lt g e).1
          have hl6 : Lets (fun j _ => n0 + 3 ≤ j) wr w6 := (((Lets.refl _ _).alloc _).alloc _).grown hgrow6 (fun j e hj => hg5 j e)
          obtain ⟨a6, c6, rfl⟩ := own_any hown6
          have bw6 := hl6.blk bw (by omega)
          have r6 := bw6.cell
          have f6 := bw6.free
          have lt6 := bw6.lt
          clear hgrow6 hg5 rm rw' fw i1 i2
          go_wp2_with fail
          have hlf : Lets (fun j _ => j = n0 + 2 ∨ n0 + 3 ≤ j) wr (w6.setCell ⟨n0 + 2, 4, none⟩ (.slice a6 (k + 1) c6)) := (hl6.mono fun _ _ e => .inr e).setCell (.inl rfl) _
          refine ⟨⟨k + 1, .slice a6 (k + 1) c6, by omega, by go_num, HT.out (by trivial), ?_⟩, by simp [intOf]; omega⟩
          refine ⟨?_, ?_, ?_, ?_, ?_, ?_⟩
          · rw [HN0.out]; exact below_lets hbw hlf (by have := HN0.out; omega) (fun j o h e => by omega)
          · rw [HN0.out]; exact hlf.blk bm (by omega)
          · rw [HN0.out]
            have := hA.map
            rw [HN0.out] at this
            exact (hlf.block _ this.lt (by omega)).trans this
          · rw [HN0.out]; exact bw6.set 4 _
          · rw [HN0.out, HTK.out, List.map_append]
            have := own_lets (X := fun j _ => j = n0 + 2) hown6 ((Lets.refl _ _).setCell (p := ⟨n0 + 2, 4, none⟩) rfl (.slice a6 (k + 1) c6)) (fun j o h e => by omega)
            exact this
          · rw [HN0.out]; exact Nat.le_trans hsz hlf.size
    · have hlti : ¬ (k : Int) < (m.places.length : Int) := by omega
      have e : k = m.places.length := by omega
      subst e
      have hall2 := hall.out
      rw [List.take_length] at hall2
      have HE2 := Lib.hid (HE.out hall2)
      clear hall2
      go_wp2_with fail
      exact HE2.out _ _ _ _ _ _ _ _ _ _ _ _ _ _ _ _ _ _ _ _ _ _ _ _ _ _ _ _ _ _ _ hA
end Go.Proofs.Yteeinehpneppnaa
