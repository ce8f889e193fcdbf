/- Parts of a proof. -/
import Derived.Test.YtbapgefodmmikaaGreatDoorLMin
import Derived.Test.YtbapgefodmmikaaGreatDoorL09
set_option linter.unusedVariables false
set_option linter.unusedSimpArgs false
set_option maxHeartbeats 40000000
set_option maxRecDepth 100000
namespace Go.Proofs.YtbapgefodmmikaaGreatDoor
open Go.RowKit Go.Proofs Go.Ord Tryz
attribute [local irreducible] Ord.walk
theorem Zfh {w:World}{v:Nat}{b:Bn}{V:Nat}{ks:List Kn}{ga:Option Addr}{gc:Nat}{pa:Option Addr}{pc:Nat}{ka:Option Addr}{kc:Nat}(h:Vt w v b V ks ga gc pa pc ka kc) (hs:csum (Za6 V b.lo b.hi ks)=0) :
  Calls prog 85 #[.pointer v] w (Zy8 10 w):=by
 have hle:=Zbb V h.hV8 b.lo b.hi ks
 have HE:=hd_ (fun w' (hb:Below w.heap.size w w')=>(h.below hb).every)
 have HC:=hd_ (fun w' (hb:Below w.heap.size w w')=>(h.below hb).all)
 have HA:=hd_ (Zrr (Za6 V b.lo b.hi ks) om_)
 have HM:=hd_ Zcg
 have q1:=Zf7 (Za6 V b.lo b.hi ks)
 have q2:=Zf8 (Za6 V b.lo b.hi ks)
 rw [hs] at HA
 have hcv:Hid (cv (Za6 V b.lo b.hi ks)=.agg (Zb2 (Za6 V b.lo b.hi ks))):=rfl
 clear hs hle
 generalize cv (Za6 V b.lo b.hi ks)=CV at *
 generalize Zb2 (Za6 V b.lo b.hi ks)=OC at *
 obtain rfl:=hcv.out
 go_enter func85,ntmps85
 go_wp2_with (first
  | (go_at_call 93;refine (HE.out _ bel_).mono ?_;rintro e w' ⟨rfl,rfl⟩)
  | (go_at_call 92;refine (HC.out _ bel_).mono ?_;rintro e w1 ⟨rfl,hb1⟩)
  | (go_at_call 90;refine (HA.out _).mono ?_;rintro e w3 ⟨rfl,hb3⟩;have b3:=h2.blk.below hb3 h2.blk.lt;have b2:=h2.other (((Blk.new w (Zb2 fun _=>0) 142).below hb1 sp_).alloc _) (by have:=hb1.size;simp at this;omega);have b0:=b2.below hb3 b2.lt)
  | (go_at_call 102;refine Za2 ?_)
  | (refine Za1 142 (.tmp 3) (.tmp 7) Zap rfl rfl rfl rfl (Blk.new _ _ _) rfl q1 q2 ?_;intro w2 h2)
  | (refine Za0 142 (.tmp 3) Zap rfl rfl rfl b3 q1 ?_)
  | (refine Za0 142 (.tmp 3) Zap rfl rfl rfl h2.blk q1 ?_))
 unfold Stop
 refine (HM.out _ _).mono ?_
 rintro e w' ⟨rfl,rfl⟩
 refine ⟨rfl,rfl,?_⟩
 have hb4:w w2:=h2.below (((br_.alloc nl_ _).trans (hb1.mono sp_)).alloc (by have:=hb1.size;simp at this;omega) _) (by have:=hb1.size;simp at this;omega)
 exact hb4.trans (hb3.mono hb4.size)
def Opened (b:Bn) (ga:Option Addr) (gc:Nat) (pa:Option Addr) (pc:Nat) (w:World) (e:Ending) (w':World):Prop :=
 ∃ v ka kc,e=.returned (.pointer (some ⟨v,0,none⟩))∧Vt w' v b b.V.toNat (knOf b) ga gc pa pc ka kc∧w w'∧w.heap.size≤v
theorem opened {b:Bn}{ga:Option Addr}{gc:Nat}{pa:Option Addr}{pc:Nat}{w:World}(hv:valid b=true) {e:Ending}{w':World}(h:Zc2 b true ga gc pa pc w e w'):Opened b ga gc pa pc w e w':=by
 unfold Zc2 at h
 rw [if_neg (by rw [hv];simp),if_neg sp_] at h
 exact h
theorem Zrw (b:Bn) (ga:Option Addr) (gc:Nat) (pa:Option Addr) (pc:Nat) (w:World) (hg:GsAt w ga b.gs) (hp:PsAt w pa b.ps) (hv:valid b=true) :
  Calls prog 368 #[bv b ga gc pa pc] w (Zat (.int .i64 (csum (Za6 b.V.toNat b.lo b.hi (knOf b)):Nat)) ↑() w):=by
 have hmf:=hmf_ prog
 have HO:=hd_ (fun w' (hb:Below w.heap.size w w')=>Zia b ga gc pa pc 84 #[] true w' (hg.below hb) (hp.below hb) (Zd6 hv) (fun args W=>call84 args W) (fun w2 v _ _=>Zch _ _) |>.mono fun _ _ h=>opened hv h)
 have HC:=hd_ Zk6
 have HA:=hd_ Zrr
 unfold bv at *
 go_enter_defers func368,ntmps368
 go_wp2_with (first
  | (go_at_call 83;refine (HO.out _ bel_).mono ?_;rintro e w1 ⟨v,ka,kc,rfl,hvt,hb1,hle⟩;have HE:=hd_ hvt.every;have HT:=hd_ hvt.all;have b3:Blk w1 (w.heap.size+1) #[()] 31:=(Blk.new' _ _ _ _ sp_).below hb1 ar_)
  | (go_at_call 93;refine HE.out.mono ?_;rintro e w' ⟨rfl,rfl⟩)
  | (go_at_call 92;refine HT.out.mono ?_;rintro e w2 ⟨rfl,hb2⟩)
  | (go_at_call 90;refine (HA.out _ (by have:=Zbb b.V.toNat hvt.hV8 b.lo b.hi (knOf b);omega) _).mono ?_;rintro e w3 ⟨rfl,hb3⟩;have b4:=(b3.below hb2 b3.lt).below hb3 (b3.below hb2 b3.lt).lt;have r4:=b4.cell;have f4:=b4.free))
 refine leaves_cons (f:=369) (args:=#[.pointer ↑(w.heap.size+1)]) sp_ (by simp [go_sem]) ?_
 refine ((HC.out).2 (w.heap.size+1) _).mono ?_
 rintro e u' w4 ⟨rfl,rfl,rfl⟩
 have b5:=b4.set 0 ↑()
 have r5:=b5.cell
 have hB:w w3:=(((br_.alloc nl_ _).alloc ar_ _).trans (hb1.mono ar_)).trans ((hb2.mono (by have:=hb1.size;simp at this;omega)).trans (hb3.mono (by have:=hb1.size;have:=hb2.size;simp at *;omega)))
 simp only [settle,Leaves]
 simp [Leaves,settle,results,results368,go_sem,r5]
 exact ⟨rfl,hB.setCell sp_ _⟩
theorem Zco (b:Bn) (ga:Option Addr) (gc:Nat) (pa:Option Addr) (pc:Nat) (F:FuncId) (cap:Array Value) (isB:Bool) (w:World) (hg:GsAt w ga b.gs) (hp:PsAt w pa b.ps)
  (hgl:b.gs.length≤9223372036854775807) (hpl:b.ps.length≤9223372036854775807) (hE:chkE b isB≠0)
  (hcf:∀ (args:Array Value) (W:World),(callFunc F args).run prog W=.ok (.enter F args) W) (HIS0:∀ w' v,Below w.heap.size w w'→w'.cell? ⟨v,0,none⟩=some (.int .i64 b.V)→Calls prog F (#[.pointer (some ⟨v,0,none⟩)] ++ cap) w' (Same (.bool isB) w')) :
  Calls prog 83 #[bv b ga gc pa pc,.func (.func F) #[] cap] w (Zy8 (chkE b isB) w):=by
 cases hh:Ze0 b
 ·have hv:valid b=false:=Zwp hh
  have:chkE b isB=1:=by unfold chkE;rw [if_pos hv]
  rw [this]
  exact Zxs b ga gc pa pc F cap w hgl hpl hh
 ·refine (Zia b ga gc pa pc F cap isB w hg hp hh hcf HIS0).mono fun e w' h=>?_
  unfold Zc2 at h
  unfold chkE at *
  by_cases hv:valid b=false
  ·rw [if_pos hv] at h ⊢;exact h
  ·rw [if_neg hv] at h hE ⊢
   by_cases hb:isB=false
   ·rw [if_pos hb] at h ⊢;exact h
   ·rw [if_neg hb] at hE;exact absurd rfl hE
theorem Zbv (b:Bn) (ga:Option Addr) (gc:Nat) (pa:Option Addr) (pc:Nat) (F:FuncId) (cap:Array Value) (w:World) (hg:GsAt w ga b.gs) (hp:PsAt w pa b.ps) (hv:valid b=true)
  (hcf:∀ (args:Array Value) (W:World),(callFunc F args).run prog W=.ok (.enter F args) W) (HIS0:∀ w' v,Below w.heap.size w w'→w'.cell? ⟨v,0,none⟩=some (.int .i64 b.V)→Calls prog F (#[.pointer (some ⟨v,0,none⟩)] ++ cap) w' (Same (.bool true) w')) :
  Calls prog 83 #[bv b ga gc pa pc,.func (.func F) #[] cap] w (Opened b ga gc pa pc w) :=
 (Zia b ga gc pa pc F cap true w hg hp (Zd6 hv) hcf HIS0).mono fun e w' h=>opened hv h
theorem Zic (v p:Nat) (V n:Int) (w:World) (h:w.cell? ⟨v,0,none⟩=some (.int .i64 V)) (hp:w.cell? ⟨p,0,none⟩=some (.int .i64 n)) :
  Calls prog 88 #[.pointer v,.pointer p] w (Same (.bool (inB n 0 (wrap64 (V - 1)))) w):=by
 have HV:=hd_ (Zq1 v V n w h)
 go_enter func88,ntmps88
 go_wp2_with (go_at_call 89;refine HV.out.mono ?_;rintro e w' ⟨rfl,rfl⟩)
 go_ret
 exact ⟨rfl,rfl⟩
theorem Zhe (v p:Nat) (V n:Int) (w:World) (h:w.cell? ⟨v,0,none⟩=some (.int .i64 V)) (hp:w.cell? ⟨p,0,none⟩=some (.int .i64 n)) :
  Calls prog 100 #[.pointer v,.pointer p] w (Same (.bool (inB n 0 V)) w):=by
 have HV:=hd_ (Zid v V n w h)
 go_enter func100,ntmps100
 go_wp2_with (go_at_call 101;refine HV.out.mono ?_;rintro e w' ⟨rfl,rfl⟩)
 go_ret
 exact ⟨rfl,rfl⟩
theorem Zq5 (b:Bn) (ga:Option Addr) (gc:Nat) (pa:Option Addr) (pc:Nat) (w:World) (hg:GsAt w ga b.gs) (hp:PsAt w pa b.ps) (hgl:b.gs.length≤9223372036854775807) (hpl:b.ps.length≤9223372036854775807) (hE:chkE b true≠0) :
  Calls prog 368 #[bv b ga gc pa pc] w fun e w'=>e=.returned (.tuple #[(),(chkE b true)])∧Below w.heap.size w w':=by
 have hmf:=hmf_ prog
 have HO:=hd_ (fun w' (hb:Below w.heap.size w w')=>Zco b ga gc pa pc 84 #[] true w' (hg.below hb) (hp.below hb) hgl hpl hE (fun args W=>call84 args W) (fun w2 v _ _=>Zch _ _))
 generalize chkE b true=E at *
 have HC:=hd_ Zk6
 unfold bv at *
 go_enter_defers func368,ntmps368
 go_wp2_with (first
  | (go_at_call 83;refine (HO.out _ bel_).mono ?_;rintro e w1 ⟨rfl,hb1⟩;refine Za2 ?_))
 unfold Stop
 have b3:Blk w1 (w.heap.size+1) #[()] 31:=(Blk.new' _ _ _ _ sp_).below hb1 ar_
 have hB:w w1:=by exact bel_
 refine leaves_cons (f:=369) (args:=#[.pointer ↑(w.heap.size+1)]) sp_ (by simp [go_sem]) ?_
 refine ((HC.out).1 E (w.heap.size+1) _ b3).mono ?_
 rintro e u' w2 ⟨rfl,rfl,ho,hb⟩
 have hB2:Below w.heap.size w w2:=hB.trans (ho.below hB.size sp_)
 have r2:=hb.cell
 simp only [settle,Leaves]
 simp [Leaves,settle,results,results368,go_sem,r2]
 exact hB2
theorem _root_.Q31 {p:Prop}(h:p:=by
 have r2:=hb.cell
 simp only [settle,Leaves]
 simp [Leaves,settle,results,results34,go_sem,r2]
 exact hB2):p:=h
theorem Zo3 (b:Bn) (ga:Option Addr) (gc:Nat) (pa:Option Addr) (pc:Nat) (w:World) (hg:GsAt w ga b.gs) (hp:PsAt w pa b.ps) (hgl:b.gs.length≤9223372036854775807) (hpl:b.ps.length≤9223372036854775807) (hE:chkE b true≠0) :
  Calls prog 34 #[bv b ga gc pa pc] w fun e w'=>e=.returned (.tuple #[(),(chkE b true)])∧Below w.heap.size w w':=by
 have hmf:=hmf_ prog
 have HO:=hd_ (fun w' (hb:Below w.heap.size w w')=>Zco b ga gc pa pc 84 #[] true w' (hg.below hb) (hp.below hb) hgl hpl hE (fun args W=>call84 args W) (fun w2 v _ _=>Zch _ _))
 generalize chkE b true=E at *
 have HC:=hd_ Zfe
 unfold bv at *
 go_enter_defers func34,ntmps34
 go_wp2_with (first
  | (go_at_call 83;refine (HO.out _ bel_).mono ?_;rintro e w1 ⟨rfl,hb1⟩;refine Za2 ?_))
 unfold Stop
 have b3:Blk w1 (w.heap.size+1) #[()] 31:=(Blk.new' _ _ _ _ sp_).below hb1 ar_
 have hB:w w1:=by exact bel_
 refine leaves_cons (f:=97) (args:=#[.pointer ↑(w.heap.size+1)]) sp_ (by simp [go_sem]) ?_
 refine ((HC.out).1 E (w.heap.size+1) _ b3).mono ?_
 rintro e u' w2 ⟨rfl,rfl,ho,hb⟩
 have hB2:Below w.heap.size w w2:=hB.trans (ho.below hB.size sp_)
 exact Q31
theorem _root_.Q32 {p:Prop}(h:p:=by
 have r2:=hb.cell
 simp only [settle,Leaves]
 simp [Leaves,settle,results,results33,go_sem,r2]
 exact hB2):p:=h
theorem Zq4 (b:Bn) (ga:Option Addr) (gc:Nat) (pa:Option Addr) (pc:Nat) (w:World) (hg:GsAt w ga b.gs) (hp:PsAt w pa b.ps) (hgl:b.gs.length≤9223372036854775807) (hpl:b.ps.length≤9223372036854775807) (hE:chkE b true≠0) :
  Calls prog 33 #[bv b ga gc pa pc] w fun e w'=>e=.returned (.tuple #[(),(),(chkE b true)])∧Below w.heap.size w w':=by
 have hmf:=hmf_ prog
 have HO:=hd_ (fun w' (hb:Below w.heap.size w w')=>Zco b ga gc pa pc 84 #[] true w' (hg.below hb) (hp.below hb) hgl hpl hE (fun args W=>call84 args W) (fun w2 v _ _=>Zch _ _))
 generalize chkE b true=E at *
 have HC:=hd_ Zgr
 unfold bv at *
 go_enter_defers func33,ntmps33
 go_wp2_with (first
  | (go_at_call 83;refine (HO.out _ bel_).mono ?_;rintro e w1 ⟨rfl,hb1⟩;refine Za2 ?_))
 unfold Stop
 have b3:Blk w1 (w.heap.size+1) #[()] 31:=(Blk.new' _ _ _ _ sp_).below hb1 ar_
 have hB:w w1:=by exact bel_
 refine leaves_cons (f:=95) (args:=#[.pointer ↑(w.heap.size+1)]) sp_ (by simp [go_sem]) ?_
 refine ((HC.out).1 E (w.heap.size+1) _ b3).mono ?_
 rintro e u' w2 ⟨rfl,rfl,ho,hb⟩
 have hB2:Below w.heap.size w w2:=hB.trans (ho.below hB.size sp_)
 exact Q32
theorem Zo1 (b:Bn) (ga:Option Addr) (gc:Nat) (pa:Option Addr) (pc:Nat) (w:World) (hg:GsAt w ga b.gs) (hp:PsAt w pa b.ps) (hgl:b.gs.length≤9223372036854775807) (hpl:b.ps.length≤9223372036854775807) (hE:chkE b true≠0) :
  Calls prog 31 #[bv b ga gc pa pc] w fun e w'=>e=.returned (.tuple #[.agg #[(),()],(chkE b true)])∧Below w.heap.size w w':=by
 have hmf:=hmf_ prog
 have HO:=hd_ (fun w' (hb:Below w.heap.size w w')=>Zco b ga gc pa pc 84 #[] true w' (hg.below hb) (hp.below hb) hgl hpl hE (fun args W=>call84 args W) (fun w2 v _ _=>Zch _ _))
 generalize chkE b true=E at *
 have HC:=hd_ Zfa
 unfold bv at *
 go_enter_defers func31,ntmps31
 go_wp2_with (first
  | (go_at_call 83;refine (HO.out _ bel_).mono ?_;rintro e w1 ⟨rfl,hb1⟩;refine Za2 ?_))
 unfold Stop
 have b3:Blk w1 (w.heap.size+2) #[()] 31:=(Blk.new' _ _ _ _ sp_).below hb1 ar_
 have hB:w w1:=by exact bel_
 refine leaves_cons (f:=81) (args:=#[.pointer ↑(w.heap.size+2)]) sp_ (by simp [go_sem]) ?_
 refine ((HC.out).1 E (w.heap.size+2) _ b3).mono ?_
 rintro e u' w2 ⟨rfl,rfl,ho,hb⟩
 have hB2:Below w.heap.size w w2:=hB.trans (ho.below hB.size sp_)
 have r2:=hb.cell
 have b1:Blk w1 (w.heap.size+1) #[(),()] 23:=((Blk.new' _ _ _ _ sp_).alloc _).below hb1 ar_
 have r3:=(ho.blk b1 b1.lt sp_).cell
 simp only [settle,Leaves]
 simp [Leaves,settle,results,results31,go_sem,r2,r3]
 exact hB2
theorem _root_.Q33 {p:Prop}(h:p:=by
 have r2:=hb.cell
 simp only [settle,Leaves]
 simp [Leaves,settle,results,results32,go_sem,r2]
 exact hB2):p:=h
theorem Zq2 (b:Bn) (ga:Option Addr) (gc:Nat) (pa:Option Addr) (pc:Nat) (n:Int) (w:World) (hg:GsAt w ga b.gs) (hp:PsAt w pa b.ps) (hgl:b.gs.length≤9223372036854775807) (hpl:b.ps.length≤9223372036854775807) (hE:chkE b (inB n 0 (wrap64 (b.V - 1)))≠0) :
  Calls prog 32 #[bv b ga gc pa pc,n] w fun e w'=>e=.returned (.tuple #[(),.int .i64 (chkE b (inB n 0 (wrap64 (b.V - 1))))])∧Below w.heap.size w w':=by
 have hmf:=hmf_ prog
 have HO:=hd_ (fun w' (hb:Below w.heap.size w w') (hc0:w'.cell? ⟨w.heap.size+1,0,none⟩=some (.int .i64 n))=>Zco b ga gc pa pc 88 #[.pointer ↑(w.heap.size+1)] (inB n 0 (wrap64 (b.V - 1))) w' (hg.below hb) (hp.below hb) hgl hpl hE (fun args W=>call88 args W) (fun w2 v hb2 h0=>Zic v _ b.V n w2 h0 (Za4 hb2 hc0)))
 generalize chkE b (inB n 0 (wrap64 (b.V - 1)))=E at *
 have HC:=hd_ Zgq
 unfold bv at *
 go_enter_defers func32,ntmps32
 go_wp2_with (first
  | (go_at_call 83;refine (HO.out _ bel_ (by simp [go_sem];done)).mono ?_;rintro e w1 ⟨rfl,hb1⟩;refine Za2 ?_))
 unfold Stop
 have b3:Blk w1 (w.heap.size+2) #[()] 31:=(Blk.new' _ _ _ _ sp_).below hb1 ar_
 have hB:w w1:=by exact bel_
 refine leaves_cons (f:=87) (args:=#[.pointer ↑(w.heap.size+2)]) sp_ (by simp [go_sem]) ?_
 refine ((HC.out).1 E (w.heap.size+2) _ b3).mono ?_
 rintro e u' w2 ⟨rfl,rfl,ho,hb⟩
 have hB2:Below w.heap.size w w2:=hB.trans (ho.below hB.size sp_)
 exact Q33
theorem Zrt (b:Bn) (ga:Option Addr) (gc:Nat) (pa:Option Addr) (pc:Nat) (n:Int) (w:World) (hg:GsAt w ga b.gs) (hp:PsAt w pa b.ps) (hgl:b.gs.length≤9223372036854775807) (hpl:b.ps.length≤9223372036854775807) (hE:chkE b (inB n 0 b.V)≠0) :
  Calls prog 35 #[bv b ga gc pa pc,n] w fun e w'=>e=.returned (.tuple #[(),(),.int .i64 (chkE b (inB n 0 b.V))])∧Below w.heap.size w w':=by
 have hmf:=hmf_ prog
 have HO:=hd_ (fun w' (hb:Below w.heap.size w w') (hc0:w'.cell? ⟨w.heap.size+1,0,none⟩=some (.int .i64 n))=>Zco b ga gc pa pc 100 #[.pointer ↑(w.heap.size+1)] (inB n 0 b.V) w' (hg.below hb) (hp.below hb) hgl hpl hE (fun args W=>call100 args W) (fun w2 v hb2 h0=>Zhe v _ b.V n w2 h0 (Za4 hb2 hc0)))
 generalize chkE b (inB n 0 b.V)=E at *
 have HC:=hd_ Zft
 unfold bv at *
 go_enter_defers func35,ntmps35
 go_wp2_with (first
  | (go_at_call 83;refine (HO.out _ bel_ (by simp [go_sem];done)).mono ?_;rintro e w1 ⟨rfl,hb1⟩;refine Za2 ?_))
 unfold Stop
 have b3:Blk w1 (w.heap.size+2) #[()] 31:=(Blk.new' _ _ _ _ sp_).below hb1 ar_
 have hB:w w1:=by exact bel_
 refine leaves_cons (f:=99) (args:=#[.pointer ↑(w.heap.size+2)]) sp_ (by simp [go_sem]) ?_
 refine ((HC.out).1 E (w.heap.size+2) _ b3).mono ?_
 rintro e u' w2 ⟨rfl,rfl,ho,hb⟩
 have hB2:Below w.heap.size w w2:=hB.trans (ho.below hB.size sp_)
 have r2:=hb.cell
 simp only [settle,Leaves]
 simp [Leaves,settle,results,results35,go_sem,r2]
 exact hB2
def Zq9 (n:Nat) (w1:World) (e:Exit) (a:Act) (w:World):Prop :=
 e=.panic [{ v:=Zfy 10,recovered:=false }]∧a.defers=[{ target:=Target.fn (Fn.func 99) #[Value.pointer (some { block:=n+1+1,off:=0 })],args:=#[] }] ∧
 a.tmps.getD 4 undef=↑()∧a.tmps.getD 5 undef=↑()∧a.tmps.getD 6 undef=.pointer ↑(n+1+1)∧w1 w
theorem Zkq (b:Bn) (ga:Option Addr) (gc:Nat) (pa:Option Addr) (pc:Nat) (w:World) (hg:GsAt w ga b.gs) (hp:PsAt w pa b.ps) (hv:valid b=true) (hs:csum (Za6 b.V.toNat b.lo b.hi (knOf b))=0) :
  Calls prog 34 #[bv b ga gc pa pc] w fun e w'=>e=.returned (.tuple #[(),.int .i64 10])∧Below w.heap.size w w':=by
 have hmf:=hmf_ prog
 have HO:=hd_ (fun w' (hb:Below w.heap.size w w')=>Zbv b ga gc pa pc 84 #[] w' (hg.below hb) (hp.below hb) hv (fun args W=>call84 args W) (fun w2 v _ _=>Zch _ _))
 have HC:=hd_ Zfe
 have HS:=hd_ hs
 clear hs
 unfold bv at *
 go_enter_defers func34,ntmps34
 go_wp2_with (first
  | (go_at_call 83;refine (HO.out _ bel_ ).mono ?_;rintro e w1 ⟨v,ka,kc,rfl,hvt,hb1,hle⟩)
  | (go_at_call 85;refine Za2 ?_))
 unfold Stop
 refine (Zfh hvt HS.out).mono ?_
 rintro e w3 ⟨rfl,hb3⟩
 have b2:Blk w1 (w.heap.size+1) #[()] 31:=(Blk.new' _ _ _ _ sp_).below hb1 ar_
 have b3:=b2.below hb3 b2.lt
 have hB1:w w1:=by exact bel_
 have hB:w w3:=hB1.trans (hb3.mono hB1.size)
 refine leaves_cons (f:=97) (args:=#[.pointer ↑(w.heap.size+1)]) sp_ (by simp [go_sem]) ?_
 refine ((HC.out).1 10 (w.heap.size+1) _ b3).mono ?_
 rintro e u' w4 ⟨rfl,rfl,ho,hb⟩
 have hB2:w w4:=hB.trans (ho.below hB.size sp_)
 exact Q31
theorem Zo4 (b:Bn) (ga:Option Addr) (gc:Nat) (pa:Option Addr) (pc:Nat) (w:World) (hg:GsAt w ga b.gs) (hp:PsAt w pa b.ps) (hv:valid b=true) (hs:csum (Za6 b.V.toNat b.lo b.hi (knOf b))=0) :
  Calls prog 33 #[bv b ga gc pa pc] w fun e w'=>e=.returned (.tuple #[(),(),.int .i64 10])∧Below w.heap.size w w':=by
 have hmf:=hmf_ prog
 have HO:=hd_ (fun w' (hb:Below w.heap.size w w')=>Zbv b ga gc pa pc 84 #[] w' (hg.below hb) (hp.below hb) hv (fun args W=>call84 args W) (fun w2 v _ _=>Zch _ _))
 have HC:=hd_ Zgr
 have HS:=hd_ hs
 clear hs
 unfold bv at *
 go_enter_defers func33,ntmps33
 go_wp2_with (first
  | (go_at_call 83;refine (HO.out _ bel_ ).mono ?_;rintro e w1 ⟨v,ka,kc,rfl,hvt,hb1,hle⟩)
  | (go_at_call 85;refine Za2 ?_))
 unfold Stop
 refine (Zfh hvt HS.out).mono ?_
 rintro e w3 ⟨rfl,hb3⟩
 have b2:Blk w1 (w.heap.size+1) #[()] 31:=(Blk.new' _ _ _ _ sp_).below hb1 ar_
 have b3:=b2.below hb3 b2.lt
 have hB1:w w1:=by exact bel_
 have hB:w w3:=hB1.trans (hb3.mono hB1.size)
 refine leaves_cons (f:=95) (args:=#[.pointer ↑(w.heap.size+1)]) sp_ (by simp [go_sem]) ?_
 refine ((HC.out).1 10 (w.heap.size+1) _ b3).mono ?_
 rintro e u' w4 ⟨rfl,rfl,ho,hb⟩
 have hB2:w w4:=hB.trans (ho.below hB.size sp_)
 exact Q32
theorem Zkp (b:Bn) (ga:Option Addr) (gc:Nat) (pa:Option Addr) (pc:Nat) (w:World) (hg:GsAt w ga b.gs) (hp:PsAt w pa b.ps) (hv:valid b=true) (hs:csum (Za6 b.V.toNat b.lo b.hi (knOf b))=0) :
  Calls prog 31 #[bv b ga gc pa pc] w fun e w'=>e=.returned (.tuple #[.agg #[(),()],.int .i64 10])∧Below w.heap.size w w':=by
 have hmf:=hmf_ prog
 have HO:=hd_ (fun w' (hb:Below w.heap.size w w')=>Zbv b ga gc pa pc 84 #[] w' (hg.below hb) (hp.below hb) hv (fun args W=>call84 args W) (fun w2 v _ _=>Zch _ _))
 have HC:=hd_ Zfa
 have HS:=hd_ hs
 clear hs
 unfold bv at *
 go_enter_defers func31,ntmps31
 go_wp2_with (first
  | (go_at_call 83;refine (HO.out _ bel_ ).mono ?_;rintro e w1 ⟨v,ka,kc,rfl,hvt,hb1,hle⟩)
  | (go_at_call 85;refine Za2 ?_))
 unfold Stop
 refine (Zfh hvt HS.out).mono ?_
 rintro e w3 ⟨rfl,hb3⟩
 have b2:Blk w1 (w.heap.size+2) #[()] 31:=(Blk.new' _ _ _ _ sp_).below hb1 ar_
 have b3:=b2.below hb3 b2.lt
 have hB1:w w1:=by exact bel_
 have hB:w w3:=hB1.trans (hb3.mono hB1.size)
 refine leaves_cons (f:=81) (args:=#[.pointer ↑(w.heap.size+2)]) sp_ (by simp [go_sem]) ?_
 refine ((HC.out).1 10 (w.heap.size+2) _ b3).mono ?_
 rintro e u' w4 ⟨rfl,rfl,ho,hb⟩
 have hB2:w w4:=hB.trans (ho.below hB.size sp_)
 have r2:=hb.cell
 have b1:Blk w1 (w.heap.size+1) #[(),()] 23:=((Blk.new' _ _ _ _ sp_).alloc _).below hb1 ar_
 have r3:=(ho.blk (b1.below hb3 b1.lt) (b1.below hb3 b1.lt).lt sp_).cell
 simp only [settle,Leaves]
 simp [Leaves,settle,results,results31,go_sem,r2,r3]
 exact hB2
theorem Zo2 (b:Bn) (ga:Option Addr) (gc:Nat) (pa:Option Addr) (pc:Nat) (n:Int) (w:World) (hg:GsAt w ga b.gs) (hp:PsAt w pa b.ps) (hv:valid b=true) (hi:(inB n 0 (wrap64 (b.V - 1)))=true) (hs:csum (Za6 b.V.toNat b.lo b.hi (knOf b))=0) :
  Calls prog 32 #[bv b ga gc pa pc,n] w fun e w'=>e=.returned (.tuple #[(),.int .i64 10])∧Below w.heap.size w w':=by
 have hmf:=hmf_ prog
 have HO:=hd_ (fun w' (hb:Below w.heap.size w w') (hc0:w'.cell? ⟨w.heap.size+1,0,none⟩=some (.int .i64 n))=>Zbv b ga gc pa pc 88 #[.pointer ↑(w.heap.size+1)] w' (hg.below hb) (hp.below hb) hv (fun args W=>call88 args W) (fun w2 v hb2 h0=>by have:=Zic v _ b.V n w2 h0 (Za4 hb2 hc0);rwa [hi] at this))
 have HC:=hd_ Zgq
 have HS:=hd_ hs
 clear hs
 unfold bv at *
 go_enter_defers func32,ntmps32
 go_wp2_with (first
  | (go_at_call 83;refine (HO.out _ bel_ (by simp [go_sem];done)).mono ?_;rintro e w1 ⟨v,ka,kc,rfl,hvt,hb1,hle⟩)
  | (go_at_call 85;refine Za2 ?_))
 unfold Stop
 refine (Zfh hvt HS.out).mono ?_
 rintro e w3 ⟨rfl,hb3⟩
 have b2:Blk w1 (w.heap.size+2) #[()] 31:=(Blk.new' _ _ _ _ sp_).below hb1 ar_
 have b3:=b2.below hb3 b2.lt
 have hB1:w w1:=by exact bel_
 have hB:w w3:=hB1.trans (hb3.mono hB1.size)
 refine leaves_cons (f:=87) (args:=#[.pointer ↑(w.heap.size+2)]) sp_ (by simp [go_sem]) ?_
 refine ((HC.out).1 10 (w.heap.size+2) _ b3).mono ?_
 rintro e u' w4 ⟨rfl,rfl,ho,hb⟩
 have hB2:w w4:=hB.trans (ho.below hB.size sp_)
 exact Q33
theorem _root_.Q2m {p:Prop}(h:p:=by
 simp only [List.mem_toArray,List.mem_cons,List.not_mem_nil,or_false] at ho
 rcases ho with rfl|rfl|rfl|rfl|rfl <;> simp):p:=h
theorem Zq3 (b:Bn) (ga:Option Addr) (gc:Nat) (pa:Option Addr) (pc:Nat) (n:Int) (w:World) (hg:GsAt w ga b.gs) (hp:PsAt w pa b.ps) (hv:valid b=true) (hi:(inB n 0 b.V)=true) (hs:csum (Za6 b.V.toNat b.lo b.hi (knOf b))=0) :
  Calls prog 35 #[bv b ga gc pa pc,n] w fun e w'=>e=.returned (.tuple #[(),(),.int .i64 10])∧Below w.heap.size w w':=by
 have hmf:=hmf_ prog
 have HO:=hd_ (fun w' (hb:Below w.heap.size w w') (hc0:w'.cell? ⟨w.heap.size+1,0,none⟩=some (.int .i64 n))=>Zbv b ga gc pa pc 100 #[.pointer ↑(w.heap.size+1)] w' (hg.below hb) (hp.below hb) hv (fun args W=>call100 args W) (fun w2 v hb2 h0=>by have:=Zhe v _ b.V n w2 h0 (Za4 hb2 hc0);rwa [hi] at this))
 have HC:=hd_ Zft
 have HS:=hd_ hs
 clear hs
 unfold bv at *
 go_enter_defers func35,ntmps35
 go_wp2_with (first
  | (go_at_call 83;refine (HO.out _ bel_ (by simp [go_sem];done)).mono ?_;rintro e w1 ⟨v,ka,kc,rfl,hvt,hb1,hle⟩)
  | (go_at_call 85;refine Za2 ?_))
 have HTo:=hd_ (fun w2 (hb:Below w1.heap.size w1 w2)=>Zfh (hvt.below hb) HS.out)
 refine wp_mono (Q:=Zq9 w.heap.size w1) ?_ ?_
 ·have ht3:w1.cell? ⟨w.heap.size+1,0,none⟩=some (.int .i64 n):=by rw [hb1.cell (p:=⟨w.heap.size+1,0,none⟩) ar_];simp [go_sem]
  have hz1:w.heap.size+3≤w1.heap.size:=by have:=hb1.size;simpa using this
  refine Zyx [(0,0),(2,1),(1,2),(3,2),(4,2)] (fun W=>Below w1.heap.size w1 W) kr_ kr_ ?_ br_.drew ?_
  ·rintro c ⟨tm,ds⟩ d v u ⟨o,ho,rfl⟩ h
   have hd:o.dst=some 13∨o.dst=some 14∨o.dst=some 15∨o.dst=some 16∨o.dst=some 17:=Q2m
   unfold Zq9 at *
   rcases hd with e|e|e|e|e <;> rw [e] at h <;> simpa [Act.put,Array.getD_eq_getD_getElem?] using h
  ·go_wp2_with (first
    | (go_at_call 85;refine (HTo.out _ bel_).mono ?_;rintro e w3 ⟨rfl,hb3⟩;refine Za2 ?_)
    | ((with_reducible refine Zye ?_);refine Zyq (ad:=⟨w.heap.size+1,0,none⟩) ↑n rfl rfl ?_ ?_;(focus (intro W hW;obtain ⟨cW,_,zW⟩:=Zbe hW rfl;simp [go_sem,cW,↓IntWalk.iteOmega,ht3];done));intro K hK)
    | (refine o_ ?_;intro K hK)|(with_reducible first|refine Zyo ?_ ?_|refine Zyj ?_|refine Zyf bn_ (fun _=>?_)))
   unfold Stop
   refine ⟨rfl,rfl,rfl,rfl,rfl,?_⟩
   exact bel_
 rintro e ⟨tm,ds⟩ w3 ⟨rfl,rfl,h4,h5,h6,hb3⟩
 simp only [Array.getD_eq_getD_getElem?] at h4 h5 h6
 have b2:Blk w1 (w.heap.size+2) #[()] 31:=(Blk.new' _ _ _ _ sp_).below hb1 ar_
 have b3:=b2.below hb3 b2.lt
 have hB1:w w1:=by exact bel_
 have hB:w w3:=hB1.trans (hb3.mono hB1.size)
 refine leaves_cons (f:=99) (args:=#[.pointer ↑(w.heap.size+2)]) sp_ (by simp [go_sem]) ?_
 refine ((HC.out).1 10 (w.heap.size+2) _ b3).mono ?_
 rintro e u' w4 ⟨rfl,rfl,ho,hb⟩
 have hB2:w w4:=hB.trans (ho.below hB.size sp_)
 have r2:=hb.cell
 simp only [settle,Leaves]
 simp [Leaves,settle,results,results35,go_sem,r2,h4,h5,h6]
 exact hB2
theorem Zdg {Q:Exit→Act→World→Prop}{a:Act}{w:World}(h:Q .ret a w):Zn6 Q .ret a w:=h
theorem Zu9 (c:Nat→Nat) (n:Nat) (hn:n≤9) (w:World) (bk:Nat) (t:TypeId) (hb:Blk w bk (Zb2 c) t):Zmn w (some ⟨bk,n,none⟩) ((cl c).drop n):=by
 intro i hi
 have h9:n+i < 9:=by simp [cl] at hi;omega
 refine ⟨_,_,rfl,?_⟩
 rw [hb.cell]
 have e:(Zb2 c)[n+i]? = some (.int .i64 (c (n+i))):=Zpo c (n+i) h9
 rw [e]
 have:=cl_get c (n+i) h9
 rw [List.getElem_drop]
 rw [List.getElem?_eq_getElem (by simp [cl];omega)] at this
 simp only [Option.some.injEq] at this
 rw [this]
theorem Ztn (bk n:Nat) (hn:n≤8) (w:World):(Instr.sliceAt 142 (.pointer bk) (some (.int .i64 n)) none none).run prog w=.ok (.slice (some ⟨bk,n,none⟩) (9 - n) (9 - n)) w:=by
 rcases (show n=0∨n=1∨n=2∨n=3∨n=4∨n=5∨n=6∨n=7∨n=8 by omega) with rfl|rfl|rfl|rfl|rfl|rfl|rfl|rfl|rfl <;> kernel_rfl
theorem Zrv (b:Bn) (ga:Option Addr) (gc:Nat) (pa:Option Addr) (pc:Nat) (w:World) (hg:GsAt w ga b.gs) (hp:PsAt w pa b.ps) (hv:valid b=true) (hs:0 < csum (Za6 b.V.toNat b.lo b.hi (knOf b))) :
  Calls prog 34 #[bv b ga gc pa pc] w (Zat (.int .i64 (grI (((cl (Za6 b.V.toNat b.lo b.hi (knOf b))).drop b.nd.toNat).sum:Nat) (csum (Za6 b.V.toNat b.lo b.hi (knOf b)):Nat))) ↑() w):=by
 have hmf:=hmf_ prog
 have HO:=hd_ (fun w' (hb:Below w.heap.size w w')=>Zbv b ga gc pa pc 84 #[] w' (hg.below hb) (hp.below hb) hv (fun args W=>call84 args W) (fun w2 v _ _=>Zch _ _))
 have HC:=hd_ Zfe
 have HS:=hd_ hs
 have hnd:=Zry hv
 have hV:=Zb6 hv
 have hle:=Zbb b.V.toNat om_ b.lo b.hi (knOf b)
 have hn9:b.nd.toNat≤9:=by omega
 have hni:b.nd≤8:=by omega
 have hsl:∀ bk w,(Instr.sliceAt 142 (.pointer (some ⟨bk,0,none⟩)) (some (.int .i64 b.nd)) none none).run prog w=.ok (.slice (some ⟨bk,b.nd.toNat,none⟩) (9 - b.nd.toNat) (9 - b.nd.toNat)) w:=by
  intro bk w
  have:=Ztn bk b.nd.toNat om_ w
  rwa [Int.toNat_of_nonneg om_] at this
 have hn0:0≤b.nd:=hnd.1
 clear hs hnd hV
 unfold bv at *
 have HT:=hd_ (fun w1 v ka kc (hvt:Vt w1 v b b.V.toNat (knOf b) ga gc pa pc ka kc)=>Zd9 hvt HS.out)
 have hda:=hd_ (Zu9 (Za6 b.V.toNat b.lo b.hi (knOf b)) b.nd.toNat hn9)
 have hds:((cl (Za6 b.V.toNat b.lo b.hi (knOf b))).drop b.nd.toNat).length=9 - b.nd.toNat:=by simp [cl]
 have hsum:((cl (Za6 b.V.toNat b.lo b.hi (knOf b))).drop b.nd.toNat).sum≤csum (Za6 b.V.toNat b.lo b.hi (knOf b)):=by
  rw [← Zxc]
  have:=congrArg List.sum (List.take_append_drop b.nd.toNat (cl (Za6 b.V.toNat b.lo b.hi (knOf b))))
  rw [List.sum_append] at this;omega
 have HA:=hd_ (Zrr (Za6 b.V.toNat b.lo b.hi (knOf b)) om_)
 have HX:=hd_ (fun w' a cc hI=>b_sum ((cl (Za6 b.V.toNat b.lo b.hi (knOf b))).drop b.nd.toNat) a cc (by rw [hds];omega) om_ w' hI)
 rw [hds] at HX
 have q1:=Zf7 (Za6 b.V.toNat b.lo b.hi (knOf b))
 have q2:=Zf8 (Za6 b.V.toNat b.lo b.hi (knOf b))
 have hcv:Hid (cv (Za6 b.V.toNat b.lo b.hi (knOf b))=.agg (Zb2 (Za6 b.V.toNat b.lo b.hi (knOf b)))):=rfl
 generalize ((cl (Za6 b.V.toNat b.lo b.hi (knOf b))).drop b.nd.toNat).sum=SX at *
 generalize csum (Za6 b.V.toNat b.lo b.hi (knOf b))=S at *
 generalize cv (Za6 b.V.toNat b.lo b.hi (knOf b))=CV at *
 generalize Zb2 (Za6 b.V.toNat b.lo b.hi (knOf b))=OC at *
 obtain rfl:=hcv.out
 clear hsum hle hds
 go_enter_defers func34,ntmps34
 refine Zd5 ?_
 go_wp2_with fail
 with_reducible refine (HO.out _ bel_).mono ?_
 rintro e w1 ⟨v,ka,kc,rfl,hvt,hb1,hle⟩
 go_wp2_with fail
 with_reducible refine (HT.out _ _ _ _ hvt).mono ?_
 rintro e w2 ⟨rfl,hb2⟩
 go_wp2_with (first
  | (refine Za1 142 (.tmp 4) (.tmp 8) Zap rfl rfl rfl rfl (Blk.new _ _ _) rfl q1 q2 ?_;intro w3 h3))
 have z1:=hb1.size
 have z2:=hb2.size
 simp only [World.size_alloc] at z1
 have b1:Blk w3 w.heap.size #[b.V,b.nd,b.lo,b.hi,.slice ga b.gs.length gc,.slice pa b.ps.length pc] 54 :=
  h3.other (((((Blk.new w _ _).alloc _).below hb1 ar_).below hb2 om_).alloc _) om_
 have b3:Blk w3 (w.heap.size+1) #[()] 31 :=
  h3.other ((((Blk.new' _ _ _ _ sp_).below hb1 ar_).below hb2 om_).alloc _) om_
 have b4:=h3.blk
 have r1:=b1.cell 1
 have hB:Below w.heap.size w w3:=h3.below (((((br_.alloc nl_ _).alloc ar_ _).trans (hb1.mono ar_)).trans (hb2.mono om_)).alloc om_ _) om_
 have z3:=hB.size
 have l4:=b4.lt
 clear hb1 hb2
 refine Ord.wp_region [(0,0),(1,0),(2,0),(3,0),(4,0),(5,2),(6,0),(7,0),(8,2)] (fun _=>True) kr_ kr_ (fun c a d v w h=>by cases d <;> exact h) trivial ?_
 go_wp2_with (first
  | (refine Za0 142 (.tmp 4) Zap rfl rfl rfl b4.drew q1 ?_)
  | (go_at_call 90;go_loud (refine (HA.out _).mono ?_;rintro e w5 ⟨rfl,hb5⟩;have b5:=b3.drew.below hb5 b3.drew.lt;have r5:=b5.cell;have f5:=b5.free))
  | (refine o_ ?_;intro K hK)|(with_reducible first|refine Zyo ?_ ?_|refine Zyj ?_|refine Zyf bn_ (fun _=>?_))
  | ((with_reducible refine Zyg ?_);refine Zyv rfl (fun W=>call98 _ W) (HX.out _ _ _ (hda.out _ _ _ b4.drew)) (fun K hK=>?_))|((with_reducible refine Zye ?_);refine Ord.wild_call rfl (fun W=>call98 _ W) (fun W hW=>HX.out _ _ _ (hda.out _ _ _ b4.drew)) (fun K hK=>?_))
  | ((with_reducible refine Zyg ?_);refine Zyv rfl (fun W=>call91 _ W) (Zj6 _ _ _) (fun K hK=>?_))|((with_reducible refine Zye ?_);refine Ord.wild_call rfl (fun W=>call91 _ W) (fun W hW=>Zj6 _ _ _) (fun K hK=>?_)))
 refine Zdg ?_
 refine leaves_cons (f:=97) (args:=#[.pointer (some ⟨w.heap.size+1,0,none⟩)]) sp_ (by simp [go_sem]) ?_
 refine ((HC.out).2 (w.heap.size+1) _).mono ?_
 rintro e u' w6 ⟨rfl,rfl,rfl⟩
 have r6:=(b5.set 0 ↑()).cell
 have hB5:Below w.heap.size w w5:=hB.drew.trans (hb5.mono (by simp;omega))
 simp only [settle,Leaves]
 simp [Leaves,settle,results,results34,go_sem,r6]
 exact ⟨rfl,hB5.setCell sp_ _⟩
end Go.Proofs.YtbapgefodmmikaaGreatDoor
