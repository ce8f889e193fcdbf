/- Parts of a proof. -/
import Derived.Test.YtbapgefodmmikaaGreatDoorKMin
import Derived.Test.YtbapgefodmmikaaGreatDoorK13
import Derived.Lib.AtoiAll
import Derived.Lib.ItoaNum
set_option linter.unusedVariables false
set_option linter.unusedSimpArgs false
set_option maxHeartbeats 40000000
set_option maxRecDepth 100000
namespace Go.Proofs.YtbapgefodmmikaaGreatDoor
open Go.RowKit Go.Proofs Go.Ord Tryz
attribute [local irreducible] Ord.walk
theorem Zr3 (b:Bn) (ga:Option Addr) (gc:Nat) (pa:Option Addr) (pc:Nat) (lo hi:Nat) (w:World) (hg:GsAt w ga b.gs) (hp:PsAt w pa b.ps) (hv:valid b=true) (hs:0 < csum (Za6 b.V.toNat b.lo b.hi (knOf b))) (V:Nat) (hVe:b.V=V) (hloV:lo≤V) (hhiV:hi≤V) (h1:0 < Za6 b.V.toNat b.lo b.hi (knOf b) lo) (h2:∀ j,j < lo→Za6 b.V.toNat b.lo b.hi (knOf b) j=0) (h3:0 < Za6 b.V.toNat b.lo b.hi (knOf b) hi) (h4:∀ j,hi < j→j≤V→Za6 b.V.toNat b.lo b.hi (knOf b) j=0) :
  Calls prog 31 #[bv b ga gc pa pc] w (Zat (.agg #[lo,hi]) ↑() w):=by
 have hmf:=hmf_ prog
 have HO:=hd_ (fun w' (hb:Below w.heap.size w w')=>Zbo b ga gc pa pc 84 #[] w' (hg.below hb) (hp.below hb) hv (fun args W=>call84 args W) (fun w2 v _ _=>Zcd _ _))
 have HC:=hd_ Zf4
 have HS:=hd_ hs
 have HT:=hd_ (fun w1 v ka kc (hvt:Vt w1 v b b.V.toNat (knOf b) ga gc pa pc ka kc)=>Zd4 hvt HS.out)
 have hle:=Zb7 b.V.toNat (by have:=Zb4 hv;omega) b.lo b.hi (knOf b)
 have q1:=Zf1 (Za6 b.V.toNat b.lo b.hi (knOf b))
 have q2:=Zf2 (Za6 b.V.toNat b.lo b.hi (knOf b))
 have hcv:Hid (cv (Za6 b.V.toNat b.lo b.hi (knOf b))=.agg (Zay (Za6 b.V.toNat b.lo b.hi (knOf b)))):=rfl
 have hV:=Zb4 hv
 have hV8:V≤8:=by omega
 have HM:Hid (∀ k:Nat,k≤8→∀ W,Calls prog 86 #[cv (Za6 b.V.toNat b.lo b.hi (knOf b)),.int .i64 (k:Int)] W (Zal (.bool (decide (0 < Za6 b.V.toNat b.lo b.hi (knOf b) k))) W)):=fun k hk W=>Zwu (Za6 b.V.toNat b.lo b.hi (knOf b)) (k:Int) k rfl om_ W
 have HL0:Hid (∀ k,k < lo→decide (0 < Za6 b.V.toNat b.lo b.hi (knOf b) k)=false):=fun k hk=>by simpa using h2 k hk
 have HL1:Hid (decide (0 < Za6 b.V.toNat b.lo b.hi (knOf b) lo)=true):=by show _=_;simpa using h1
 have HH0:Hid (∀ k,hi < k→k≤V→decide (0 < Za6 b.V.toNat b.lo b.hi (knOf b) k)=false):=fun k hk hk2=>by simpa using h4 k hk hk2
 have HH1:Hid (decide (0 < Za6 b.V.toNat b.lo b.hi (knOf b) hi)=true):=by show _=_;simpa using h3
 clear h1 h2 h3 h4 hs hle hV
 generalize Za6 b.V.toNat b.lo b.hi (knOf b)=c at *
 have HVE:=hd_ hVe
 have hcv2:=hcv
 generalize hCV:cv c=CV at *
 have HCV:=hd_ hCV
 clear hCV
 generalize Zay c=OC at *
 obtain rfl:=hcv.out
 clear hcv hcv2 hVe
 unfold bv at *
 go_enter_defers func31,ntmps31
 refine Zd0 ?_
 go_wp2_with fail
 with_reducible refine (HO.out _ bel_).mono ?_
 rintro e w1 ⟨v,ka,kc,rfl,hvt,hb1,hle⟩
 go_wp2_with fail
 with_reducible refine (HT.out _ _ _ _ hvt).mono ?_
 rintro e w2 ⟨rfl,hb2⟩
 go_wp2_with (first
  | (refine Za1 142 (.tmp 4) (.tmp 11) Zan rfl rfl rfl rfl (Blk.new _ _ _) rfl q1 q2 ?_;intro w3 h3;refine Za2 ?_))
 unfold Stop
 have z1:=hb1.size
 have z2:=hb2.size
 simp only [World.size_alloc] at z1
 have b1:Blk w3 w.heap.size #[b.V,b.nd,b.lo,b.hi,.slice ga b.gs.length gc,.slice pa b.ps.length pc] 54 :=
  h3.other ((((((Blk.new w _ _).alloc _).alloc _).below hb1 ar_).below hb2 om_).alloc _) om_
 have b2:Blk w3 (w.heap.size+1) #[(),()] 23 :=
  h3.other (((((Blk.new' _ _ _ _ sp_).alloc _).below hb1 ar_).below hb2 om_).alloc _) om_
 have b3:Blk w3 (w.heap.size+2) #[()] 31 :=
  h3.other ((((Blk.new' _ _ _ _ sp_).below hb1 ar_).below hb2 om_).alloc _) om_
 have b4:=h3.blk
 have hB3:Below w.heap.size w w3:=h3.below ((((((br_.alloc nl_ _).alloc ar_ _).alloc ar_ _).trans (hb1.mono ar_)).trans (hb2.mono om_)).alloc om_ _) om_
 have z3:=hB3.size
 clear hb1 hb2 h3 hvt
 rw [HVE.out] at *
 have r1:=b1.cell 0
 go_wp2_with (first
  | (refine Za0 142 (.tmp 4) Zan rfl rfl rfl b4 q1 ?_))
 refine Ord.wp_region [(0,0),(1,0),(2,0),(3,0)] (fun _=>True) kr_ kr_ (fun c a d v w h=>by cases d <;> exact h) trivial ?_
 go_wp2_with (first
  | (refine o_ ?_;intro K hK)|(with_reducible first|refine Zxn ?_ ?_|refine Zxi ?_|refine Zxe bn_ (fun _=>?_)))
 go_loopw [6] (fun i wr=>∃ k:Nat,k≤lo∧i=.int .i64 k∧Below w3.heap.size w3 wr) (fun i _=>lo - (intOf i).toNat)
 case atStart=>exact ⟨0,om_,rfl,br_.drew⟩
 case round =>
  obtain ⟨k,hk,rfl,hbw⟩:=hrel
  by_cases hlt:k < lo
  ·have HMk:=HM.out k om_
   rw [HL0.out k hlt] at HMk
   have HMK:=hd_ HMk
   clear HMk
   go_wp2_with (go_at_call 86;refine (HMK.out _).mono ?_;rintro e w5 ⟨rfl,hb5⟩)
   exact ⟨⟨k+1,om_,by go_num,hbw.trans (hb5.mono hbw.size)⟩,by simp [intOf];omega⟩
  ·have hkl:k=lo:=by omega
   subst hkl
   have HMk:=HM.out k om_
   rw [HL1.out] at HMk
   have HMK:=hd_ HMk
   clear HMk
   go_wp2_with (go_at_call 86;refine (HMK.out _).mono ?_;rintro e w5 ⟨rfl,hb5⟩)
   have hbw5:=hbw.trans (hb5.mono hbw.size)
   clear hbw hb5
   go_loopw [7] (fun i wr=>∃ m:Nat,hi≤m∧m≤V∧i=↑m∧Below w3.heap.size w3 wr) (fun i _=>(intOf i).toNat)
   case atStart=>exact ⟨V,hhiV,Nat.le_refl _,rfl,hbw5⟩
   case round =>
    obtain ⟨m,hm,hmV,rfl,hbx⟩:=hrel
    by_cases hlt2:hi < m
    ·have HMk:=HM.out m om_
     rw [HH0.out m hlt2 hmV] at HMk
     have HMK:=hd_ HMk
     clear HMk
     go_wp2_with (go_at_call 86;refine (HMK.out _).mono ?_;rintro e w6 ⟨rfl,hb6⟩)
     exact ⟨⟨m - 1,om_,om_,by rw [Int.natCast_sub om_];rfl,hbx.trans (hb6.mono hbx.size)⟩,by simp [intOf];omega⟩
    ·have hml:m=hi:=by omega
     subst hml
     have HMk:=HM.out m om_
     rw [HH1.out] at HMk
     have HMK:=hd_ HMk
     clear HMk
     go_wp2_with (go_at_call 86;refine (HMK.out _).mono ?_;rintro e w6 ⟨rfl,hb6⟩;have hbw6:=hbx.trans (hb6.mono hbx.size);have b26:=b2.below hbw6 b2.lt;have b36:=b3.below hbw6 b3.lt;have r26:=b26.cell;have f26:=b26.free;have r36:=b36.cell;have f36:=b36.free)
     have hB6:Below w.heap.size w w6:=hB3.trans (hbw6.mono z3)
     have c1:=((b26.set 0 (.int .i64 k)).set 1 ↑m).other (p:=⟨w.heap.size+2,0,none⟩) (by show _≠_;simp) ↑()
     have c2:=((b36.other (p:=⟨w.heap.size+1,0,none⟩) (by show _≠_;simp) (.int .i64 k)).other (p:=⟨w.heap.size+1,1,none⟩) (by show _≠_;simp) ↑m).set 0 ↑()
     refine Zdc ?_
     refine leaves_cons (f:=81) (args:=#[.pointer (some ⟨w.heap.size+2,0,none⟩)]) sp_ (by simp [go_sem]) ?_
     refine ((HC.out).2 (w.heap.size+2) _).mono ?_
     rintro e u' w7 ⟨rfl,rfl,rfl⟩
     have r7:=c1.cell
     have r8:=c2.cell
     simp only [settle,Leaves]
     simp [Leaves,settle,results,results31,go_sem,r7,r8]
     exact ⟨rfl,((hB6.setCell ar_ _).setCell ar_ _).setCell ar_ _⟩
def Zc2 (b:Bn):Int × Int × Int:=if Zdv b true=0 then ((loL (TL b):Nat),(hiL (TL b):Nat),0) else (0,0,Zdv b true)
def Zen (b:Bn) (n:Int):Int × Int:=if Zdv b (Znu b n)=0 then (Zhn (cntH (TL b) n.toNat) (TL b).length,0) else (0,Zdv b (Znu b n))
def Zde (b:Bn):Int × Int × Int:=if Zdv b true=0 then ((Zkh (TL b) b.V.toNat:Nat),(Zm4 (TL b) b.V.toNat:Nat),0) else (0,0,Zdv b true)
def Zd9 (b:Bn):Int × Int:=if Zdv b true=0 then (Zhn (passN (TL b) b.nd) (TL b).length,0) else (0,Zdv b true)
def Zh1 (b:Bn):Int × Int:=if chkE b true=0 then ((TL b).length,0) else (0,chkE b true)
def Zg7 (b:Bn) (n:Int):Int × Int × Int:=if Zdv b (inB n 0 b.V)=0 then (if Zh8 (TL b) n=[] then (0,0,4) else ((Zkh (Zh8 (TL b) n) b.V.toNat:Nat),(Zm4 (Zh8 (TL b) n) b.V.toNat:Nat),0)) else (0,0,Zdv b (inB n 0 b.V))
theorem toldE_no {b:Bn}{vb:Bool}(h:chkE b vb≠0):Zdv b vb=chkE b vb:=by
 unfold chkE Zdv at *
 cases hv:valid b <;> cases vb <;> simp [hv] at h ⊢
theorem Zdu (b:Bn) (vb:Bool):(chkE b vb≠0∧Zdv b vb≠0∧Zdv b vb=chkE b vb)∨(valid b=true∧vb=true∧TL b=[]∧Zdv b vb=10)∨(valid b=true∧vb=true∧TL b≠[]∧Zdv b vb=0):=by
 by_cases h:chkE b vb=0
 ·obtain ⟨hv,hb⟩:=Zp0 h
  by_cases ht:TL b=[]
  ·right;left;exact ⟨hv,hb,ht,by unfold Zdv;simp [hv,hb,ht]⟩
  ·right;right;exact ⟨hv,hb,ht,by unfold Zdv;simp [hv,hb,ht]⟩
 ·left;rw [toldE_no h];exact ⟨h,h,rfl⟩
theorem Zw5 {b:Bn}(hv:valid b=true) (ht:TL b=[]):csum (Za6 b.V.toNat b.lo b.hi (knOf b))=0:=by rw [Zht hv,ht];rfl
theorem Ztg {b:Bn}(hv:valid b=true) (ht:TL b≠[]):0 < csum (Za6 b.V.toNat b.lo b.hi (knOf b)):=by rw [Zht hv];exact List.length_pos_iff.2 ht
section
variable (b:Bn) (ga:Option Addr) (gc:Nat) (pa:Option Addr) (pc:Nat) (w:World) (hg:GsAt w ga b.gs) (hp:PsAt w pa b.ps) (hgl:b.gs.length≤40) (hpl:b.ps.length≤40)
include hg hp hgl hpl
theorem Zws:Calls prog 31 #[bv b ga gc pa pc] w (Zat (.agg #[.int .i64 (Zc2 b).1,.int .i64 (Zc2 b).2.1]) (.int .i64 (Zc2 b).2.2) w):=by
 unfold Zc2
 rcases Zdu b true with ⟨h,h1,h2⟩ | ⟨hv,_,ht,h2⟩ | ⟨hv,_,ht,h2⟩
 ·rw [if_neg h1,h2]
  exact Znj b ga gc pa pc w hg hp om_ om_ h
 ·rw [h2,if_neg om_]
  exact Zkb b ga gc pa pc w hg hp hv (Zw5 hv ht)
 ·rw [if_pos h2]
  have hV:=Zb4 hv
  obtain ⟨l1,x,hx,l2⟩:=loL_prop ht
  obtain ⟨u1,y,hy,u2⟩:=hiL_prop ht
  exact Zr3 b ga gc pa pc (loL (TL b)) (hiL (TL b)) w hg hp hv (Ztg hv ht) b.V.toNat om_ (by rw [l2];exact sz_V hv hx) (by rw [u2];exact sz_V hv hy)
   ((Zhv hv _).2 ⟨x,hx,l2.symm⟩) (fun j hj=>Zjo hv j fun z hz e=>by have:=l1 z hz;omega) ((Zhv hv _).2 ⟨y,hy,u2.symm⟩) (fun j hj _=>Zjo hv j fun z hz e=>by have:=u1 z hz;omega)
theorem bb_White (n:Int):Calls prog 32 #[bv b ga gc pa pc,n] w (Zat (.int .i64 (Zen b n).1) (.int .i64 (Zen b n).2) w):=by
 unfold Zen
 rcases Zdu b (Znu b n) with ⟨h,h1,h2⟩ | ⟨hv,hb,ht,h2⟩ | ⟨hv,hb,ht,h2⟩
 ·rw [if_neg h1,h2]
  exact Zpf b ga gc pa pc n w hg hp om_ om_ h
 ·rw [h2,if_neg om_]
  exact Znk b ga gc pa pc n w hg hp hv hb (Zw5 hv ht)
 ·rw [if_pos h2]
  have hV:=Zb4 hv
  have hn:=Zdo ((Zu4 hv n).symm.trans hb)
  obtain ⟨k,rfl⟩:∃ k:Nat,n=k:=⟨n.toNat,om_⟩
  have:=Ztt b ga gc pa pc k w hg hp hv hb (Ztg hv ht)
  rw [show csum (Za6 b.V.toNat b.lo b.hi (knOf b ++ [Kn.g (2 ^ k) 1 1]))=cntH (TL b) k from Zs5 hv k om_,Zht hv,gr_eq] at this
  exact this
theorem bb_Known:Calls prog 33 #[bv b ga gc pa pc] w (Zfg (.int .i64 (Zde b).1) (.int .i64 (Zde b).2.1) (.int .i64 (Zde b).2.2) w):=by
 unfold Zde
 rcases Zdu b true with ⟨h,h1,h2⟩ | ⟨hv,_,ht,h2⟩ | ⟨hv,_,ht,h2⟩
 ·rw [if_neg h1,h2]
  exact Zph b ga gc pa pc w hg hp om_ om_ h
 ·rw [h2,if_neg om_]
  exact Znm b ga gc pa pc w hg hp hv (Zw5 hv ht)
 ·rw [if_pos h2]
  have:=Ztu b ga gc pa pc w hg hp hv (Ztg hv ht)
  rw [sure_all hv (List.length_pos_iff.2 ht)] at this
  exact this
theorem Zwt:Calls prog 34 #[bv b ga gc pa pc] w (Zat (.int .i64 (Zd9 b).1) (.int .i64 (Zd9 b).2) w):=by
 unfold Zd9
 rcases Zdu b true with ⟨h,h1,h2⟩ | ⟨hv,_,ht,h2⟩ | ⟨hv,_,ht,h2⟩
 ·rw [if_neg h1,h2]
  exact Znl b ga gc pa pc w hg hp om_ om_ h
 ·rw [h2,if_neg om_]
  exact Zkc b ga gc pa pc w hg hp hv (Zw5 hv ht)
 ·rw [if_pos h2]
  have:=Zr6 b ga gc pa pc w hg hp hv (Ztg hv ht)
  rw [Zuz hv,Zht hv,gr_eq] at this
  exact this
theorem bb_Count:Calls prog 368 #[bv b ga gc pa pc] w (Zat (.int .i64 (Zh1 b).1) (.int .i64 (Zh1 b).2) w):=by
 unfold Zh1
 by_cases h:chkE b true=0
 ·rw [if_pos h]
  obtain ⟨hv,_⟩:=Zp0 h
  have:=Zr7 b ga gc pa pc w hg hp hv
  rw [Zht hv] at this
  exact this
 ·rw [if_neg h]
  exact Zpi b ga gc pa pc w hg hp om_ om_ h
theorem bb_Tell (n:Int):Calls prog 35 #[bv b ga gc pa pc,n] w (Zfg (.int .i64 (Zg7 b n).1) (.int .i64 (Zg7 b n).2.1) (.int .i64 (Zg7 b n).2.2) w):=by
 unfold Zg7
 rcases Zdu b (inB n 0 b.V) with ⟨h,h1,h2⟩ | ⟨hv,hb,ht,h2⟩ | ⟨hv,hb,ht,h2⟩
 ·rw [if_neg h1,h2]
  exact Zr4 b ga gc pa pc n w hg hp om_ om_ h
 ·rw [h2,if_neg om_]
  exact Zpg b ga gc pa pc n w hg hp hv hb (Zw5 hv ht)
 ·rw [if_pos h2]
  have hV:=Zb4 hv
  have hn:=Zdo hb
  obtain ⟨k,rfl⟩:∃ k:Nat,n=k:=⟨n.toNat,om_⟩
  by_cases hw:Zh8 (TL b) k=[]
  ·rw [if_pos hw]
   exact Zr5 b ga gc pa pc k w hg hp hv hb (Ztg hv ht) (by rw [Zma hv,hw];rfl)
  ·rw [if_neg hw]
   have hl:0 < (Zh8 (TL b) k).length:=List.length_pos_iff.2 hw
   have:=Zwy b ga gc pa pc k w hg hp hv hb (Ztg hv ht) (by rw [Zma hv];exact hl)
   rw [sure_at hv k hl] at this
   exact this
end
end Go.Proofs.YtbapgefodmmikaaGreatDoor
namespace Go.Proofs.YtbapgefodmmikaaGreatDoor
open Go.RowKit Go.Proofs Go.Ord Tryz
abbrev Bs:=List UInt8
structure Ov where
 V:Int
 nd:Int
 lo:Int
 hi:Int
 sh:Int
 most:Int
 strays:List (Int × Int)
 fl:List Int
 may:Int
 drift:Int
 mist:Int
abbrev Nt:=Int × Int × Int × Int
def ofO (l:List Nt) (f la:Int):List Nt:=l.filter fun n=>decide (f≤n.1∧n.1≤la)
def grpO (n:Nt):Int × Int × Int:=(n.2.1,n.2.2.1,n.2.2.2)
def Zk9 (n:Nt):Int × Int × Bool:=(n.2.1,n.2.2.1,decide (n.2.2.2=1))
def Zjs (n:Nt):Int × Int × Int × Int:=(n.1 - 2,n.2.1,n.2.2.1,n.2.2.2)
def bnO (b:Ov) (l:List Nt):Bn:=⟨b.V,b.nd,b.lo,b.hi,(ofO l 0 0).map grpO,(ofO l 1 1).map Zk9⟩
def tyO (b:Ov) (l:List Nt):Ty:=⟨b.sh,b.most,b.strays,(ofO l 2 4).map Zjs⟩
def Zn1 (bs:List (Int × Int × Int)) (n:Nt):List (Int × Int × Int) :=
 if 0≤n.2.1 then bs.modify n.2.1.toNat fun b=>(b.1,b.2.1+1,b.2.2+n.2.2.1) else bs
def Zjy (b:Ov) (l:List Nt):List (Int × Int × Int):=(ofO l 5 5).foldl Zn1 (b.fl.map fun n=>(n,0,0))
def clO (b:Ov) (l:List Nt):Cl:=⟨Zjy b l,b.may,b.drift,b.mist⟩
def Zfa (n:Int):Bool:=decide (n=0∨n=1)
def Zs3 (b:Ov) (n:Nt):Bool:=Zfa n.2.2.1 && decide (0≤n.2.1) && decide (n.2.1 < (b.fl.length:Int))
def Zra (b:Ov) (l:List Nt):Bool:=(ofO l 1 1).all (fun n=>Zfa n.2.2.2) && valid (bnO b l)
def Zrc (b:Ov) (l:List Nt):Bool:=tyOk (tyO b l)
def Zrb (b:Ov) (l:List Nt):Bool:=(ofO l 5 5).all (Zs3 b) && clOk (clO b l)
def Zdj (b:Ov) (l:List Nt):Bool:=Zra b l && Zrc b l && Zrb b l
def digF:Nat→Nat→Bs
 | 0,_=>[]
 | f+1,u=>if u < 10 then [UInt8.ofNat (48+u)] else digF f (u / 10) ++ [UInt8.ofNat (48+u % 10)]
def Zgx (n:Int):Bs:=if n < 0 then 45 :: digF 20 n.natAbs else digF 20 n.toNat
theorem Zqq:∀ (f u:Nat),u < 10 ^ (f+1)→digF (f+1) u=Lib.decDigits u
 | 0,u,h=>by
  have h2:u < 10:=by simpa using h
  rw [Lib.decDigits]
  simp [digF,h2]
 | f+1,u,h=>by
  rw [Lib.decDigits,digF]
  by_cases h2:u < 10
  ·simp [h2]
  ·simp only [h2,if_false,dite_false]
   rw [Zqq f (u / 10) (by rw [Nat.pow_succ] at h;omega)]
theorem itoaP_eq (n:Int) (h : -9223372036854775808≤n∧n≤9223372036854775807):Lib.itoa n=Zgx n:=by
 unfold Lib.itoa Zgx
 rw [Zqq 19 _ om_,Zqq 19 _ om_]
def Zad:Bs→List Bs
 | []=>[[]]
 | c :: r=>if c=32 then [] :: Zad r else (c :: (Zad r).headD []) :: (Zad r).tail
def magO (s:Bs):Bs:=if s.head? = some 45 then s.tail else s
def numO (s:Bs):Option Int :=
 match Lib.atoiAll s with
 | .ok n=>if Zgx n=s∧(magO s).length≤4 then some n else none
 | _=>none
def Zcq (word:Bs) (l:List Int):Bs:=word ++ l.flatMap fun n=>32 :: Zgx n
inductive Wd where
 | note (k f la m:Int)
 | strike
 | ask (k:Nat)
def wordsO:List (Bs × Int × Wd):=[
 ([103,114,111,117,112],3,Wd.note 0 0 0 4),
 ([112,97,105,114],3,Wd.note 1 1 1 4),
 ([112,111,114,116],3,Wd.note 2 2 4 8),
 ([112,101,110],3,Wd.note 3 2 4 8),
 ([102,108,101,101,99,101],2,Wd.note 4 2 4 8),
 ([102,101,108,116],2,Wd.note 5 5 5 30),
 ([115,116,114,105,107,101],0,Wd.strike),
 ([119,104,105,116,101,115],0,Wd.ask 0),
 ([119,104,105,116,101],1,Wd.ask 1),
 ([107,110,111,119,110],0,Wd.ask 2),
 ([112,97,115,115,101,100],0,Wd.ask 3),
 ([116,101,108,108],1,Wd.ask 4),
 ([115,104,111,114,110],1,Wd.ask 5),
 ([105,110,115,105,100,101],1,Wd.ask 6),
 ([102,97,108,115,101],0,Wd.ask 7),
 ([119,114,111,110,103],1,Wd.ask 8),
 ([107,101,101,112,115],1,Wd.ask 9),
 ([109,111,114,101],1,Wd.ask 10)]
def Zqb:Bs:=[110,111,116,101]
def Zga:Bs:=[115,116,114,105,107,101]
def askW (k:Nat):Bs:=(wordsO.getD (k+7) ([],0,Wd.strike)).1
def askO (b:Ov) (l:List Nt) (k:Nat) (a:List Int):List Int × Int :=
 match k with
 | 0=>let r:=Zc2 (bnO b l);([r.1,r.2.1],r.2.2)
 | 1=>let r:=Zen (bnO b l) (a.getD 0 0);([r.1],r.2)
 | 2=>let r:=Zde (bnO b l);([r.1,r.2.1],r.2.2)
 | 3=>let r:=Zd9 (bnO b l);([r.1],r.2)
 | 4=>let r:=Zg7 (bnO b l) (a.getD 0 0);([r.1,r.2.1],r.2.2)
 | 5=>let r:=ofR false (tyO b l) (a.getD 0 0);([r.1.1,r.1.2],r.2)
 | 6=>let r:=ofR true (tyO b l) (a.getD 0 0);([r.1.1,r.1.2],r.2)
 | 7=>let r:=Zbw (tyO b l);([r.1.1,r.1.2],r.2)
 | 8=>let r:=Zc5 (clO b l) (a.getD 0 0);([r.1.1,r.1.2],r.2)
 | 9=>let r:=Zdx (clO b l) (a.getD 0 0);([r.1],r.2)
 | _=>let r:=Zhj (clO b l) (a.getD 0 0);([r.1],r.2)
def argO (k:Int) (a:List Int):Nt :=
 if k=4 then (4,0,a.getD 0 0,a.getD 1 0) else if k=5 then (5,a.getD 0 0,a.getD 1 0,0) else (k,a.getD 0 0,a.getD 1 0,a.getD 2 0)
def doO (b:Ov) (l:List Nt) (a:List Int):Wd→Bs × Int × List Nt
 | .note k f la m =>
  if (l.length:Int) < 30∧((ofO l f la).length:Int) < m then
   if Zdj b (l ++ [argO k a]) then (Zcq Zqb [(l.length:Int)],0,l ++ [argO k a]) else ([],2,l)
  else ([],9,l)
 | .strike=>if l.length=0 then ([],4,l) else (Zcq Zga [(l.length:Int) - 1],0,l.take (l.length - 1))
 | .ask k=>if (askO b l k a).2=0 then (Zcq (askW k) (askO b l k a).1,0,l) else ([],(askO b l k a).2,l)
def Zhi:List Bs→Option (List Int)
 | []=>some []
 | s :: r=>match numO s with
  | none=>none
  | some n=>match Zhi r with
   | none=>none
   | some l=>some (n :: l)
def Zc3 (b:Ov) (l:List Nt) (s:Bs):Bs × Int × List Nt :=
 if 40 < s.length then ([],3,l)
 else match wordsO.find? (fun x=>x.1 == (Zad s).headD []) with
  | none=>([],8,l)
  | some x=>if ((Zad s).length:Int)=x.2.1+1 then
    match Zhi (Zad s).tail with
    | none=>([],8,l)
    | some a=>doO b l a x.2.2
   else ([],8,l)
def Zb0 (b:Ov):List Nt→List Bs→List Bs × Int × List Nt
 | l,[]=>([],0,l)
 | l,s :: r =>
  let x:=Zc3 b l s
  let y:=Zb0 b x.2.2 r
  (x.1 :: y.1,(if x.2.1=0 then 0 else 1)+y.2.1,y.2.2)
def sampleO:Ov:=⟨5,3,2,3,3,10,[(0,1),(-1,0)],[10,10,8],2,2,1⟩
def bsOf (s:String):Bs:=s.toList.map fun c=>UInt8.ofNat c.toNat
def Zjz : List Bs := ["whites", "group 7 2 3", "pair 0 1 1", "group 28 0 1", "known", "tell 4", "strike", "port 0 6 6", "shorn 0", "felt 0 1", "felt 0 1", "wrong 0", "more 1", "felt 0 01"].map bsOf
def Zh5 : List Bs := ["whites 2 3", "note 0", "note 1", "note 2", "known 3 0", "", "strike 2", "note 2", "shorn 6 6", "note 3", "note 4", "wrong 1 10", "more 9", ""].map bsOf
theorem Zi9:Zdj sampleO []=true:=by decide +kernel
theorem alive_lines:(Zb0 sampleO [] Zjz).1=Zh5∧(Zb0 sampleO [] Zjz).2.1=2:=by decide +kernel
end Go.Proofs.YtbapgefodmmikaaGreatDoor
namespace Go.Proofs.YtbapgefodmmikaaGreatDoor
open Go.RowKit Go.Proofs Go.Ord Tryz
attribute [local irreducible] Ord.walk
def Zop (g:Int × Int × Int):List Value:=[.int .i64 g.1,.int .i64 g.2.1,.int .i64 g.2.2]
def Zuy (p:Int × Int × Bool):List Value:=[.int .i64 p.1,.int .i64 p.2.1,.bool p.2.2]
theorem Zsg:Zds prog 23 2:=⟨_,underlying23,rfl,by kernel_rfl⟩
theorem Zc0 {w w':World}{base base':Nat}{e:TypeId}{size:Nat}{v:Value}{n:Nat}{xs:List Value}(h:w.ownsRow base e size v n xs) (hb:base'≤base) (hk:∀ g,v.ownBlock=some g→w'.heap[g]? = w.heap[g]?):w'.ownsRow base' e size v n xs:=by
 obtain ⟨hl,h | ⟨g,cap,cur,rfl,hg,hh,r⟩⟩:=h
 ·exact ⟨hl,.inl h⟩
 ·exact ⟨hl,.inr ⟨g,cap,cur,rfl,om_,(hk g rfl).trans hh,r⟩⟩
end Go.Proofs.YtbapgefodmmikaaGreatDoor
namespace Go.Ord
theorem Zxx {P:Program}{lo:List Oper}{Q:Exit→Act→World→Prop}{H:World→Prop}{k:Nat}{l:List (Nat × Nat)}{a:Act}{w:World}{d:Option Tmp}{ty t1 t2:TypeId}{pos:String}{af:Array Edge}{g:Option (Nat × Bool)}{bo:BinOp}{x y:Operand}
  (v:Value) (ho:lo[k]? = some ⟨d,.binOp bo t1 x y t2,ty,pos,af,g⟩) (hr:∀ W,(execOp a.eval ⟨d,.binOp bo t1 x y t2,ty,pos,af,g⟩).run P W=.ok (.value v) W)
  (h:∀ K:Act→World→Prop,(∀ a,walk P lo.toArray H Q l a w→K a w)→wpList P lo.toArray (Exit.then K (fun _ _ _=>False)) [⟨d,.move (.const v),ty,pos,af,g⟩] a w):walk P lo.toArray H Q ((k,1) :: l) a w :=
 Zxs ho v (fun W _=>by unfold Zxq;rw [hr W];exact ⟨rfl,rfl⟩) h
end Go.Ord
namespace Go.Proofs.YtbapgefodmmikaaGreatDoor
open Go.RowKit Go.Proofs Go.Ord Tryz
def SrcAt (w:World) (sv:Value) (m size:Nat) (news:List Value):Prop :=
 news.length=m * size∧((∃ c,sv=.slice none m c∧m=0)∨∃ ad c,sv=.slice (some ad) m c∧∀ j u,news[j]? = some u→w.cell? (ad.add j)=some u)
end Go.Proofs.YtbapgefodmmikaaGreatDoor
namespace Go.Ord
def Zn8 (F:Nat) (ops:Array Oper) (eff:Nat→Bool) (i:Nat) (listed:Array Bool):Bool :=
 let L:=Zpz ops i F listed
 (Region.ready .any ops L).all (· == i) && (List.range ops.size).all fun j=>(!listed.getD j false || L.getD j false) && (listed.getD j true || !eff j || j == i || !L.getD j false)
theorem Zfo {F:Nat}{ops:Array Oper}{eff:Nat→Bool}{i:Nat}{listed:Array Bool}(hs:listed.size=ops.size) (h:Zn8 F ops eff i listed=true):∃ L,Calm ops eff i L listed:=by
 unfold Zn8 at h
 simp only [Bool.and_eq_true,List.all_eq_true,List.mem_range,beq_iff_eq,Bool.or_eq_true,Bool.not_eq_true'] at h
 obtain ⟨h1,h2⟩:=h
 refine ⟨Zpz ops i F listed,h1,fun j hj hl=>?_,fun j hj hl hne hL=>?_,by rw [Zhe,hs],hs⟩
 ·have:=(h2 j hj).1
  rw [hl] at this
  simpa using this
 ·have:=(h2 j hj).2
  rw [hl,hL] at this
  simpa [hne] using this
variable {P:Program}{ops:Array Oper}{Q:Exit→Act→World→Prop}{H:World→Prop}{eff:Nat→Bool}
def Zuv (F:Nat) (ops:Array Oper) (eff:Nat→Bool):List (Nat × Nat)→Array Bool→Bool
 | [],listed=>(Region.ready .any ops listed).isEmpty
 | (k,c) :: l,listed =>
  (if eff k then c == 2 && decide (Region.ready .any ops listed=[k])
   else decide (c < 2) && (decide (Region.ready .any ops listed=[k]) || ((Region.ready .any ops listed).contains k && Region.free .any ops listed k && (c == 1 || Zn8 F ops eff k listed)))) &&
  Zuv F ops eff l (listed.setIfInBounds k true)
def planOkG (F:Nat) (ops:Array Oper) (l:List (Nat × Nat)):Bool :=
 Region.noSelect ops && l.length == ops.size && Zuv F ops (fun i=>l.any fun (k,c)=>k == i && c == 2) l (Array.replicate ops.size false)
theorem _root_.Q4 {p:Prop}(h:p:=by
 refine ⟨fun h0=>(by rw [h0] at hone;cases hone),fun j hj=>?_⟩
 rw [hone] at hj
 have hjk:j=k:=by simpa using hj
 subst hjk
 unfold op
 simp only [ho,he,Bool.false_eq_true,if_false]
 split
 ·rename_i hwt
  simp only [hwt,if_true] at h
  match c,hc2,h with
  | 0,_,h =>
   obtain ⟨v,h1,h2⟩:=h
   exact ⟨v,h1,ih _ _ hw h2⟩
  | 1,_,h =>
   obtain ⟨v,h1,h2⟩:=h
   exact ⟨v,h1 w hw,ih _ _ hw h2⟩
  | (n+2),hc2,_=>exact absurd hc2 om_
 ·rename_i hwt
  simp only [hwt] at h
  exact ih _ _ hw h):p:=h
theorem Zic (F:Nat) (hs:Region.noSelect ops=true) (hQ:∀ c a d v w,Q (.panic c) (a.put d v) w→Q (.panic c) a w):∀ (l:List (Nat × Nat)) (listed:Array Bool) (a:Act) (w:World),listed.size=ops.size→H w →
  Zuv F ops eff l listed=true→walk P ops H Q l a w→any P ops eff H Q l.length listed a w
 | [],_,_,_,_,_,hB,h=>⟨by simpa [Zuv] using hB,h⟩
 | (k,c) :: l,listed,a,w,hsz,hw,hB,h=>by
  rw [Zuv,Bool.and_eq_true] at hB
  obtain ⟨hB,hB'⟩:=hB
  rw [walk] at h
  cases ho:ops[k]? with
  | none=>simp only [ho] at h
  | some o =>
   simp only [ho] at h
   have hsz':(listed.setIfInBounds k true).size=ops.size:=by simp [hsz]
   have ih:∀ a w,H w→walk P ops H Q l a w→any P ops eff H Q l.length (listed.setIfInBounds k true) a w:=fun a w h1 h2=>Zic F hs hQ l _ a w hsz' h1 hB' h2
   cases he:eff k with
   | true =>exact Qr
   | false =>
    simp only [he,Bool.false_eq_true,if_false,Bool.and_eq_true,Bool.or_eq_true,beq_iff_eq,decide_eq_true_eq] at hB
    obtain ⟨hc2,hone | ⟨⟨hr,hf⟩,hcc⟩⟩:=hB
    ·exact Q4
    have hr':k∈Region.ready .any ops listed:=by simpa using hr
    by_cases hwt:Region.wanted o (yielded ops a.tmps)=true
    ·simp only [hwt,if_true] at h
     match c,hc2,h with
     | 0,_,h =>
      obtain ⟨v,h1,h2⟩:=h
      have hcalm:Zn8 F ops eff k listed=true:=hcc.resolve_left sp_
      obtain ⟨L,hL⟩:=Zfo hsz hcalm
      exact any_calm ho he (Region.noSelect_spec hs) (fun c a w=>hQ c a _ _ w) l.length listed a hL (Region.free_spec ho hf) hr' (.inl ⟨hwt,fun w' e=>by subst e;exact h1⟩) (ih _ _ hw h2)
     | 1,_,h =>
      obtain ⟨v,h1,h2⟩:=h
      exact any_first ho he (Region.noSelect_spec hs) (fun c a w=>hQ c a _ _ w) l.length listed a w hw (Region.free_spec ho hf) hr' (.inl ⟨hwt,h1⟩) (ih _ _ hw h2)
     | (n+2),hc2,_=>exact absurd hc2 om_
    ·have hwt':Region.wanted o (yielded ops a.tmps)=false:=by simpa using hwt
     simp only [hwt',Bool.false_eq_true,if_false] at h
     exact any_first ho he (Region.noSelect_spec hs) (fun c a w=>hQ c a _ _ w) l.length listed a w hw (Region.free_spec ho hf) hr' (.inr ⟨hwt',rfl⟩) (ih _ _ hw h)
theorem wp_regionG {id:Nat}{a:Act}{w:World}{lo:List Oper}(F:Nat) (l:List (Nat × Nat)) (H:World→Prop) (hm:P.follows .mixedOrders=true) (hp:planOkG F lo.toArray l=true)
  (hQ:∀ c a d v w,Q (.panic c) (a.put d v) w→Q (.panic c) a w) (hH:H w.drew) (h:walk P lo.toArray H Q l a w.drew):(Code.region id lo.toArray true).wp P Q a w:=by
 simp only [planOkG,Bool.and_eq_true,beq_iff_eq] at hp
 obtain ⟨⟨hs,hl⟩,hp⟩:=hp
 refine wp_region_any hm (wpAny_of_any (H:=H) (eff:=fun i=>l.any fun (k,c)=>k == i && c == 2) _ _ _ _ ?_)
 have h2:=Zic F (H:=H) (eff:=fun i=>l.any fun (k,c)=>k == i && c == 2) hs hQ l (Array.replicate lo.toArray.size false) a _ sp_ hH hp h
 rw [hl] at h2
 exact h2
end Go.Ord
namespace Go.Ord
inductive Pl where
 | leaf (l:List (Nat × Nat))
 | fork2 (l:List (Nat × Nat)) (k1:Nat) (t1:Pl) (k2:Nat) (t2:Pl)
 | fork3 (l:List (Nat × Nat)) (k1:Nat) (t1:Pl) (k2:Nat) (t2:Pl) (k3:Nat) (t3:Pl)
namespace Pl
def len:Pl→Nat
 | leaf l=>l.length
 | fork2 l _ t1 _ _=>l.length+(t1.len+1)
 | fork3 l _ t1 _ _ _ _=>l.length+(t1.len+1)
def effs:Pl→List Nat
 | leaf l=>(l.filter (·.2 == 2)).map (·.1)
 | fork2 l k1 t1 _ _=>(l.filter (·.2 == 2)).map (·.1) ++ k1 :: t1.effs
 | fork3 l k1 t1 _ _ _ _=>(l.filter (·.2 == 2)).map (·.1) ++ k1 :: t1.effs
end Pl
variable {P:Program}{ops:Array Oper}{Q:Exit→Act→World→Prop}{H:World→Prop}{eff:Nat→Bool}
def okP (F:Nat) (ops:Array Oper) (eff:Nat→Bool) (k c:Nat) (listed:Array Bool):Bool :=
 if eff k then c == 2 && decide (Region.ready .any ops listed=[k])
 else decide (c < 2) && (decide (Region.ready .any ops listed=[k]) || ((Region.ready .any ops listed).contains k && Region.free .any ops listed k && (c == 1 || Zn8 F ops eff k listed)))
def Zcz (F:Nat) (ops:Array Oper) (eff:Nat→Bool):List (Nat × Nat)→Array Bool→Option (Array Bool)
 | [],listed=>some listed
 | (k,c) :: l,listed=>if okP F ops eff k c listed=true then Zcz F ops eff l (listed.setIfInBounds k true) else none
def Zjb (F:Nat) (ops:Array Oper) (eff:Nat→Bool):Pl→Array Bool→Bool
 | .leaf l,listed=>match Zcz F ops eff l listed with
  | some L=>(Region.ready .any ops L).isEmpty
  | none=>false
 | .fork2 l k1 t1 k2 t2,listed=>match Zcz F ops eff l listed with
  | some L=>decide (Region.ready .any ops L=[k1,k2]) && (eff k1 && (eff k2 && (t2.len == t1.len && (Zjb F ops eff t1 (L.setIfInBounds k1 true) && Zjb F ops eff t2 (L.setIfInBounds k2 true)))))
  | none=>false
 | .fork3 l k1 t1 k2 t2 k3 t3,listed=>match Zcz F ops eff l listed with
  | some L=>decide (Region.ready .any ops L=[k1,k2,k3]) && (eff k1 && (eff k2 && (eff k3 && (t2.len == t1.len && (t3.len == t1.len && (Zjb F ops eff t1 (L.setIfInBounds k1 true) && (Zjb F ops eff t2 (L.setIfInBounds k2 true) && Zjb F ops eff t3 (L.setIfInBounds k3 true))))))))
  | none=>false
def Owed (p:Act→World→Prop):Act→World→Prop:=p
def Ze4 (P:Program) (ops:Array Oper) (H:World→Prop) (Q:Exit→Act→World→Prop):Pl→Act→World→Prop
 | .leaf l,a,w=>walk P ops H Q l a w
 | .fork2 l k1 t1 k2 t2,a,w=>walk P ops H (Qn Q (Owed fun a w=>walk P ops H (Qn Q (Ze4 P ops H Q t1)) [(k1,2)] a w∧walk P ops H (Qn Q (Ze4 P ops H Q t2)) [(k2,2)] a w)) l a w
 | .fork3 l k1 t1 k2 t2 k3 t3,a,w=>walk P ops H (Qn Q (Owed fun a w=>walk P ops H (Qn Q (Ze4 P ops H Q t1)) [(k1,2)] a w∧walk P ops H (Qn Q (Ze4 P ops H Q t2)) [(k2,2)] a w∧walk P ops H (Qn Q (Ze4 P ops H Q t3)) [(k3,2)] a w)) l a w
theorem Zfl {R:Act→World→Prop}(h:LetsOut (Qn Q R)):LetsOut Q:=h
theorem Zfi {F:Nat}:∀ (l:List (Nat × Nat)) (listed L:Array Bool),Zcz F ops eff l listed=some L→L.size=listed.size
 | [],listed,L,h=>by simp only [Zcz,Option.some.injEq] at h;subst h;rfl
 | (k,c) :: l,listed,L,h=>by
  rw [Zcz] at h
  split at h
  ·have:=Zfi l _ _ h;simpa using this
  ·cases h
theorem _root_.Qo {p:Prop}(h:p:=by
 simp only [he,if_true,Bool.and_eq_true,beq_iff_eq,decide_eq_true_eq] at hb
 obtain ⟨rfl,hr⟩:=hb
 refine ⟨fun h0=>(by rw [h0] at hr;cases hr),fun j hj=>?_⟩
 rw [hr] at hj
 have hjk:j=k:=by simpa using hj
 subst hjk
 unfold op
 simp only [ho,he,if_true]
 split
 ·rename_i hwt
  simp only [hwt,if_true] at h
  exact h.imp (fun h=>Two.wp_qn (Oper.wp_mono (fun a w hk=>⟨hk.1,ih a w hk.1 hk.2⟩) h)) (fun h=>⟨h.1,Zfl h.2⟩)
 ·rename_i hwt
  simp only [hwt] at h
  exact ih _ _ hw h):p:=h
theorem _root_.Q1f {p:Prop}(h:p:=by
 simp only [Zcz,Option.some.injEq] at hB
 subst hB
 simp only [List.length_nil,Nat.zero_add]
 exact hR a w hw h):p:=h
theorem any_of_part (F:Nat) {R:Act→World→Prop}{m:Nat}{L:Array Bool}(hs:Region.noSelect ops=true) (hQ:∀ c a d v w,Q (.panic c) (a.put d v) w→Q (.panic c) a w)
  (hR:∀ a w,H w→R a w→any P ops eff H Q m L a w):∀ (l:List (Nat × Nat)) (listed:Array Bool) (a:Act) (w:World),listed.size=ops.size→H w →
  Zcz F ops eff l listed=some L→walk P ops H (Qn Q R) l a w→any P ops eff H Q (l.length+m) listed a w
 | [],listed,a,w,_,hw,hB,h=>by exact Q1f
 | (k,c) :: l,listed,a,w,hsz,hw,hB,h=>by
  rw [Zcz] at hB
  split at hB
  ·rename_i hb
   unfold okP at hb
   rw [walk] at h
   cases ho:ops[k]? with
   | none=>simp only [ho] at h
   | some o =>
    simp only [ho] at h
    have hsz':(listed.setIfInBounds k true).size=ops.size:=by simp [hsz]
    have ih:∀ a w,H w→walk P ops H (Qn Q R) l a w→any P ops eff H Q (l.length+m) (listed.setIfInBounds k true) a w:=fun a w h1 h2=>any_of_part F hs hQ hR l _ a w hsz' h1 hB h2
    have hlen:((k,c) :: l).length+m=l.length+m+1:=by simp;omega
    rw [hlen]
    cases he:eff k with
    | true =>exact Qo
    | false =>
     simp only [he,Bool.false_eq_true,if_false,Bool.and_eq_true,Bool.or_eq_true,beq_iff_eq,decide_eq_true_eq] at hb
     obtain ⟨hc2,hone | ⟨⟨hr,hf⟩,hcc⟩⟩:=hb
     ·exact Q4
     have hr':k∈Region.ready .any ops listed:=by simpa using hr
     by_cases hwt:Region.wanted o (yielded ops a.tmps)=true
     ·simp only [hwt,if_true] at h
      match c,hc2,h with
      | 0,_,h =>
       obtain ⟨v,h1,h2⟩:=h
       have hcalm:Zn8 F ops eff k listed=true:=hcc.resolve_left sp_
       obtain ⟨L',hL⟩:=Zfo hsz hcalm
       exact Q13
      | 1,_,h =>exact Q1l
      | (n+2),hc2,_=>exact absurd hc2 om_
     ·exact Q15
  ·cases hB
theorem Zeu {R:Act→World→Prop}{n k:Nat}{listed:Array Bool}{a:Act}{w:World}(hw:H w) (he:eff k=true) (hR:∀ a w,H w→R a w→any P ops eff H Q n (listed.setIfInBounds k true) a w)
  (h:walk P ops H (Qn Q R) [(k,2)] a w):op P ops eff H Q k (any P ops eff H Q n (listed.setIfInBounds k true)) a w:=by
 rw [walk] at h
 cases ho:ops[k]? with
 | none=>simp only [ho] at h
 | some o =>
  simp only [ho] at h
  unfold op
  simp only [ho,he,if_true]
  split
  ·rename_i hwt
   simp only [hwt,if_true] at h
   exact h.imp (fun h=>Two.wp_qn (Oper.wp_mono (fun a w hk=>⟨hk.1,hR a w hk.1 hk.2⟩) h)) (fun h=>⟨h.1,Zfl h.2⟩)
  ·rename_i hwt
   simp only [hwt] at h
   exact hR _ _ hw h
theorem Zpr:∀ (l:List (Nat × Nat)) {a:Act}{w:World},walk P ops H Q l a w→walk P ops H (Qn Q (fun a w=>Q .normal a w)) l a w:=by
 intro l a w h
 have:Qn Q (fun a w=>Q .normal a w)=Q:=by funext e a w;cases e <;> rfl
 rw [this];exact h
theorem Zc4 (F:Nat) (hs:Region.noSelect ops=true) (hQ:∀ c a d v w,Q (.panic c) (a.put d v) w→Q (.panic c) a w):∀ (t:Pl) (listed:Array Bool) (a:Act) (w:World),listed.size=ops.size→H w →
  Zjb F ops eff t listed=true→Ze4 P ops H Q t a w→any P ops eff H Q t.len listed a w
 | .leaf l,listed,a,w,hsz,hw,hB,h=>by
  rw [Zjb] at hB
  cases hp:Zcz F ops eff l listed with
  | none=>simp only [hp] at hB;cases hB
  | some L =>
   simp only [hp] at hB
   have:=any_of_part (m:=0) F hs hQ (fun a w _ h=>⟨by simpa using hB,h⟩) l listed a w hsz hw hp (Zpr l h)
   exact this
 | .fork2 l k1 t1 k2 t2,listed,a,w,hsz,hw,hB,h=>by
  rw [Zjb] at hB
  cases hp:Zcz F ops eff l listed with
  | none=>simp only [hp] at hB;cases hB
  | some L =>
   simp only [hp,Bool.and_eq_true,decide_eq_true_eq,beq_iff_eq] at hB
   obtain ⟨hr,he1,he2,hl,h1,h2⟩:=hB
   have hLs:L.size=ops.size:=(Zfi l _ _ hp).trans hsz
   refine any_of_part (m:=t1.len+1) F hs hQ (fun a w hw ho=>?_) l listed a w hsz hw hp h
   obtain ⟨o1,o2⟩:=ho
   refine ⟨fun h0=>(by rw [h0] at hr;cases hr),fun j hj=>?_⟩
   rw [hr] at hj
   simp only [List.mem_cons,List.not_mem_nil,or_false] at hj
   rcases hj with rfl|rfl
   ·exact Zeu hw he1 (fun a w hw ht=>Zc4 F hs hQ t1 _ a w (by simp [hLs]) hw h1 ht) o1
   ·exact Zeu hw he2 (fun a w hw ht=>hl ▸ Zc4 F hs hQ t2 _ a w (by simp [hLs]) hw h2 ht) o2
 | .fork3 l k1 t1 k2 t2 k3 t3,listed,a,w,hsz,hw,hB,h=>by
  rw [Zjb] at hB
  cases hp:Zcz F ops eff l listed with
  | none=>simp only [hp] at hB;cases hB
  | some L =>
   simp only [hp,Bool.and_eq_true,decide_eq_true_eq,beq_iff_eq] at hB
   obtain ⟨hr,he1,he2,he3,hl2,hl3,h1,h2,h3⟩:=hB
   have hLs:L.size=ops.size:=(Zfi l _ _ hp).trans hsz
   refine any_of_part (m:=t1.len+1) F hs hQ (fun a w hw ho=>?_) l listed a w hsz hw hp h
   obtain ⟨o1,o2,o3⟩:=ho
   refine ⟨fun h0=>(by rw [h0] at hr;cases hr),fun j hj=>?_⟩
   rw [hr] at hj
   simp only [List.mem_cons,List.not_mem_nil,or_false] at hj
   rcases hj with rfl|rfl|rfl
   ·exact Zeu hw he1 (fun a w hw ht=>Zc4 F hs hQ t1 _ a w (by simp [hLs]) hw h1 ht) o1
   ·exact Zeu hw he2 (fun a w hw ht=>hl2 ▸ Zc4 F hs hQ t2 _ a w (by simp [hLs]) hw h2 ht) o2
   ·exact Zeu hw he3 (fun a w hw ht=>hl3 ▸ Zc4 F hs hQ t3 _ a w (by simp [hLs]) hw h3 ht) o3
def Zjc (F:Nat) (ops:Array Oper) (t:Pl):Bool:=Region.noSelect ops && t.len == ops.size && Zjb F ops (fun i=>t.effs.contains i) t (Array.replicate ops.size false)
theorem Zsk {id:Nat}{a:Act}{w:World}{lo:List Oper}(F:Nat) (t:Pl) (H:World→Prop) (hm:P.follows .mixedOrders=true) (hp:Zjc F lo.toArray t=true)
  (hQ:∀ c a d v w,Q (.panic c) (a.put d v) w→Q (.panic c) a w) (hH:H w.drew) (h:Ze4 P lo.toArray H Q t a w.drew):(Code.region id lo.toArray true).wp P Q a w:=by
 simp only [Zjc,Bool.and_eq_true,beq_iff_eq] at hp
 obtain ⟨⟨hs,hl⟩,hp⟩:=hp
 refine wp_region_any hm (wpAny_of_any (H:=H) (eff:=fun i=>t.effs.contains i) _ _ _ _ ?_)
 have h2:=Zc4 F (H:=H) (eff:=fun i=>t.effs.contains i) hs hQ t (Array.replicate lo.toArray.size false) a _ sp_ hH hp h
 rw [hl] at h2
 exact h2
theorem at_two {lo:List Oper}{a:Act}{w:World}{k1 k2:Nat}{t1 t2:Pl}(h1:walk P lo.toArray H (Qn Q (Ze4 P lo.toArray H Q t1)) [(k1,2)] a w) (h2:walk P lo.toArray H (Qn Q (Ze4 P lo.toArray H Q t2)) [(k2,2)] a w) :
  walk P lo.toArray H (Qn Q (Owed fun a w=>walk P lo.toArray H (Qn Q (Ze4 P lo.toArray H Q t1)) [(k1,2)] a w∧walk P lo.toArray H (Qn Q (Ze4 P lo.toArray H Q t2)) [(k2,2)] a w)) [] a w:=⟨h1,h2⟩
theorem tree_leaf {lo:List Oper}{a:Act}{w:World}{l:List (Nat × Nat)}(h:walk P lo.toArray H Q l a w):walk P lo.toArray H (Qn Q (Ze4 P lo.toArray H Q (.leaf l))) [] a w:=h
theorem tree_two {lo:List Oper}{a:Act}{w:World}{l:List (Nat × Nat)}{k1 k2:Nat}{t1 t2:Pl}(h:walk P lo.toArray H (Qn Q (Owed fun a w=>walk P lo.toArray H (Qn Q (Ze4 P lo.toArray H Q t1)) [(k1,2)] a w∧walk P lo.toArray H (Qn Q (Ze4 P lo.toArray H Q t2)) [(k2,2)] a w)) l a w):walk P lo.toArray H (Qn Q (Ze4 P lo.toArray H Q (.fork2 l k1 t1 k2 t2))) [] a w:=h
theorem top_two {lo:List Oper}{a:Act}{w:World}{l:List (Nat × Nat)}{k1 k2:Nat}{t1 t2:Pl}(h:walk P lo.toArray H (Qn Q (Owed fun a w=>walk P lo.toArray H (Qn Q (Ze4 P lo.toArray H Q t1)) [(k1,2)] a w∧walk P lo.toArray H (Qn Q (Ze4 P lo.toArray H Q t2)) [(k2,2)] a w)) l a w):Ze4 P lo.toArray H Q (.fork2 l k1 t1 k2 t2) a w:=h
end Go.Ord
namespace Go.Ord.Two
variable {P:Program}{Q:Exit→Act→World→Prop}
theorem wpIn_region {l n:Nat}{id:Nat}{a:Act}{w:World}{lo:List Oper}(hO:¬ LetsOut Q) (l1 l2:List (Nat × Nat)) (H:World→Prop) (hm:P.follows .mixedOrders=true) (hp:planOk lo.toArray l1 l2=true) (hd:lo.all Zew=true)
  (hQ:∀ c a d v w,Q (.panic c) (a.put d v) w→Q (.panic c) a w) (hH:H w.drew) (h:walk P lo.toArray H (Qn Q (walk P lo.toArray (fun _=>True) Q l2)) l1 a w.drew):(Code.region id lo.toArray true).wpIn (Fence.wide.inRound l) n P Q a w:=by
 simp only [planOk,Bool.and_eq_true,beq_iff_eq] at hp
 obtain ⟨⟨hs,hl⟩,hp⟩:=hp
 split at hp
 ·cases hp
 ·rename_i L hL
  refine wpIn_region_any hm (Zdt hO (fun i o ho=>List.all_eq_true.1 hd o (List.mem_of_getElem? (by simpa using ho))) _ _ _ _ (wpAny_of_any (H:=H) (eff:=Zfy (l1 ++ l2)) (hold:=Zfy l1) _ _ _ _ ?_))
  exact Ql
end Go.Ord.Two
namespace Go.Ord
variable {P:Program}{ops:Array Oper}{Q:Exit→Act→World→Prop}{H:World→Prop}{eff:Nat→Bool}
end Go.Ord
namespace Go.Ord
variable {P:Program}{ops:Array Oper}{Q:Exit→Act→World→Prop}
end Go.Ord
namespace Go.Ord
variable {P:Program}{Q:Exit→Act→World→Prop}
end Go.Ord
namespace Go.Ord
end Go.Ord
