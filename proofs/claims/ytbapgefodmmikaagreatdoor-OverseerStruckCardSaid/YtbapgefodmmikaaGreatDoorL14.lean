/- Parts of a proof. -/
import Derived.Test.YtbapgefodmmikaaGreatDoorLMin
import Derived.Test.YtbapgefodmmikaaGreatDoorL13
import Derived.Lib.AtoiAll
import Derived.Lib.ItoaNum
set_option linter.unusedVariables false
set_option linter.unusedSimpArgs false
set_option maxHeartbeats 40000000
set_option maxRecDepth 100000
namespace Go.Proofs.YtbapgefodmmikaaGreatDoor
open Go.RowKit Go.Proofs Go.Ord Tryz
attribute [local irreducible] Ord.walk
def Zc4 (b:Bn):Int × Int × Int:=if Zdm b true=0 then ((loL (TL b):Nat),(hiL (TL b):Nat),0) else (0,0,Zdm b true)
def Zei (b:Bn) (n:Int):Int × Int:=if Zdm b (Zoc b n)=0 then (Zhy (cntH (TL b) n.toNat) (TL b).length,0) else (0,Zdm b (Zoc b n))
def Zd0 (b:Bn):Int × Int × Int:=if Zdm b true=0 then ((Zkv (TL b) b.V.toNat:Nat),(Zmj (TL b) b.V.toNat:Nat),0) else (0,0,Zdm b true)
def Zcx (b:Bn):Int × Int:=if Zdm b true=0 then (Zhy (passN (TL b) b.nd) (TL b).length,0) else (0,Zdm b true)
def Zhb (b:Bn):Int × Int:=if chkE b true=0 then ((TL b).length,0) else (0,chkE b true)
def Zfx (b:Bn) (n:Int):Int × Int × Int:=if Zdm b (inB n 0 b.V)=0 then (if Zhj (TL b) n=[] then (0,0,4) else ((Zkv (Zhj (TL b) n) b.V.toNat:Nat),(Zmj (Zhj (TL b) n) b.V.toNat:Nat),0)) else (0,0,Zdm b (inB n 0 b.V))
theorem toldE_no {b:Bn}{vb:Bool}(h:chkE b vb≠0):Zdm b vb=chkE b vb:=by
 unfold chkE Zdm at *
 cases hv:valid b <;> cases vb <;> simp [hv] at h ⊢
theorem Zdy (b:Bn) (vb:Bool):(chkE b vb≠0∧Zdm b vb≠0∧Zdm b vb=chkE b vb)∨(valid b=true∧vb=true∧TL b=[]∧Zdm b vb=10)∨(valid b=true∧vb=true∧TL b≠[]∧Zdm b vb=0):=by
 by_cases h:chkE b vb=0
 ·obtain ⟨hv,hb⟩:=Zpn h
  by_cases ht:TL b=[]
  ·right;left;exact ⟨hv,hb,ht,by unfold Zdm;simp [hv,hb,ht]⟩
  ·right;right;exact ⟨hv,hb,ht,by unfold Zdm;simp [hv,hb,ht]⟩
 ·left;rw [toldE_no h];exact ⟨h,h,rfl⟩
theorem Zx1 {b:Bn}(hv:valid b=true) (ht:TL b=[]):csum (Za6 b.V.toNat b.lo b.hi (knOf b))=0:=by rw [Zi4 hv,ht];rfl
theorem Zu8 {b:Bn}(hv:valid b=true) (ht:TL b≠[]):0 < csum (Za6 b.V.toNat b.lo b.hi (knOf b)):=by rw [Zi4 hv];exact List.length_pos_iff.2 ht
section
variable (b:Bn) (ga:Option Addr) (gc:Nat) (pa:Option Addr) (pc:Nat) (w:World) (hg:GsAt w ga b.gs) (hp:PsAt w pa b.ps) (hgl:b.gs.length≤40) (hpl:b.ps.length≤40)
include hg hp hgl hpl
theorem Zxo:Calls prog 31 #[bv b ga gc pa pc] w (Zat (.agg #[.int .i64 (Zc4 b).1,.int .i64 (Zc4 b).2.1]) (.int .i64 (Zc4 b).2.2) w):=by
 unfold Zc4
 rcases Zdy b true with ⟨h,h1,h2⟩ | ⟨hv,_,ht,h2⟩ | ⟨hv,_,ht,h2⟩
 ·rw [if_neg h1,h2]
  exact Zo1 b ga gc pa pc w hg hp om_ om_ h
 ·rw [h2,if_neg om_]
  exact Zkp b ga gc pa pc w hg hp hv (Zx1 hv ht)
 ·rw [if_pos h2]
  have hV:=Zb6 hv
  obtain ⟨l1,x,hx,l2⟩:=loL_prop ht
  obtain ⟨u1,y,hy,u2⟩:=hiL_prop ht
  exact Zrs b ga gc pa pc (loL (TL b)) (hiL (TL b)) w hg hp hv (Zu8 hv ht) b.V.toNat om_ (by rw [l2];exact sz_V hv hx) (by rw [u2];exact sz_V hv hy)
   ((Zi6 hv _).2 ⟨x,hx,l2.symm⟩) (fun j hj=>Zk3 hv j fun z hz e=>by have:=l1 z hz;omega) ((Zi6 hv _).2 ⟨y,hy,u2.symm⟩) (fun j hj _=>Zk3 hv j fun z hz e=>by have:=u1 z hz;omega)
theorem bb_White (n:Int):Calls prog 32 #[bv b ga gc pa pc,n] w (Zat (.int .i64 (Zei b n).1) (.int .i64 (Zei b n).2) w):=by
 unfold Zei
 rcases Zdy b (Zoc b n) with ⟨h,h1,h2⟩ | ⟨hv,hb,ht,h2⟩ | ⟨hv,hb,ht,h2⟩
 ·rw [if_neg h1,h2]
  exact Zq2 b ga gc pa pc n w hg hp om_ om_ h
 ·rw [h2,if_neg om_]
  exact Zo2 b ga gc pa pc n w hg hp hv hb (Zx1 hv ht)
 ·rw [if_pos h2]
  have hV:=Zb6 hv
  have hn:=Zds ((Zux hv n).symm.trans hb)
  obtain ⟨k,rfl⟩:∃ k:Nat,n=k:=⟨n.toNat,om_⟩
  have:=Zul b ga gc pa pc k w hg hp hv hb (Zu8 hv ht)
  rw [show csum (Za6 b.V.toNat b.lo b.hi (knOf b ++ [Kn.g (2 ^ k) 1 1]))=cntH (TL b) k from Zsv hv k om_,Zi4 hv,gr_eq] at this
  exact this
theorem bb_Known:Calls prog 33 #[bv b ga gc pa pc] w (Zfm (.int .i64 (Zd0 b).1) (.int .i64 (Zd0 b).2.1) (.int .i64 (Zd0 b).2.2) w):=by
 unfold Zd0
 rcases Zdy b true with ⟨h,h1,h2⟩ | ⟨hv,_,ht,h2⟩ | ⟨hv,_,ht,h2⟩
 ·rw [if_neg h1,h2]
  exact Zq4 b ga gc pa pc w hg hp om_ om_ h
 ·rw [h2,if_neg om_]
  exact Zo4 b ga gc pa pc w hg hp hv (Zx1 hv ht)
 ·rw [if_pos h2]
  have:=Zum b ga gc pa pc w hg hp hv (Zu8 hv ht)
  rw [sure_all hv (List.length_pos_iff.2 ht)] at this
  exact this
theorem Zxp:Calls prog 34 #[bv b ga gc pa pc] w (Zat (.int .i64 (Zcx b).1) (.int .i64 (Zcx b).2) w):=by
 unfold Zcx
 rcases Zdy b true with ⟨h,h1,h2⟩ | ⟨hv,_,ht,h2⟩ | ⟨hv,_,ht,h2⟩
 ·rw [if_neg h1,h2]
  exact Zo3 b ga gc pa pc w hg hp om_ om_ h
 ·rw [h2,if_neg om_]
  exact Zkq b ga gc pa pc w hg hp hv (Zx1 hv ht)
 ·rw [if_pos h2]
  have:=Zrv b ga gc pa pc w hg hp hv (Zu8 hv ht)
  rw [Zvu hv,Zi4 hv,gr_eq] at this
  exact this
theorem bb_Count:Calls prog 368 #[bv b ga gc pa pc] w (Zat (.int .i64 (Zhb b).1) (.int .i64 (Zhb b).2) w):=by
 unfold Zhb
 by_cases h:chkE b true=0
 ·rw [if_pos h]
  obtain ⟨hv,_⟩:=Zpn h
  have:=Zrw b ga gc pa pc w hg hp hv
  rw [Zi4 hv] at this
  exact this
 ·rw [if_neg h]
  exact Zq5 b ga gc pa pc w hg hp om_ om_ h
theorem bb_Tell (n:Int):Calls prog 35 #[bv b ga gc pa pc,n] w (Zfm (.int .i64 (Zfx b n).1) (.int .i64 (Zfx b n).2.1) (.int .i64 (Zfx b n).2.2) w):=by
 unfold Zfx
 rcases Zdy b (inB n 0 b.V) with ⟨h,h1,h2⟩ | ⟨hv,hb,ht,h2⟩ | ⟨hv,hb,ht,h2⟩
 ·rw [if_neg h1,h2]
  exact Zrt b ga gc pa pc n w hg hp om_ om_ h
 ·rw [h2,if_neg om_]
  exact Zq3 b ga gc pa pc n w hg hp hv hb (Zx1 hv ht)
 ·rw [if_pos h2]
  have hV:=Zb6 hv
  have hn:=Zds hb
  obtain ⟨k,rfl⟩:∃ k:Nat,n=k:=⟨n.toNat,om_⟩
  by_cases hw:Zhj (TL b) k=[]
  ·rw [if_pos hw]
   exact Zru b ga gc pa pc k w hg hp hv hb (Zu8 hv ht) (by rw [Zmq hv,hw];rfl)
  ·rw [if_neg hw]
   have hl:0 < (Zhj (TL b) k).length:=List.length_pos_iff.2 hw
   have:=Zxu b ga gc pa pc k w hg hp hv hb (Zu8 hv ht) (by rw [Zmq hv];exact hl)
   rw [sure_at hv k hl] at this
   exact this
end
end Go.Proofs.YtbapgefodmmikaaGreatDoor
namespace Go.Proofs.YtbapgefodmmikaaGreatDoor
open Go.RowKit Go.Proofs Go.Ord Tryz
abbrev Bs:=List UInt8
structure Ov where
 V:Int
 nd:Int
 lo:Int
 hi:Int
 sh:Int
 most:Int
 strays:List (Int × Int)
 fl:List Int
 may:Int
 drift:Int
 mist:Int
abbrev Nt:=Int × Int × Int × Int
def ofO (l:List Nt) (f la:Int):List Nt:=l.filter fun n=>decide (f≤n.1∧n.1≤la)
def grpO (n:Nt):Int × Int × Int:=(n.2.1,n.2.2.1,n.2.2.2)
def Zkn (n:Nt):Int × Int × Bool:=(n.2.1,n.2.2.1,decide (n.2.2.2=1))
def Zk7 (n:Nt):Int × Int × Int × Int:=(n.1 - 2,n.2.1,n.2.2.1,n.2.2.2)
def bnO (b:Ov) (l:List Nt):Bn:=⟨b.V,b.nd,b.lo,b.hi,(ofO l 0 0).map grpO,(ofO l 1 1).map Zkn⟩
def tyO (b:Ov) (l:List Nt):Ty:=⟨b.sh,b.most,b.strays,(ofO l 2 4).map Zk7⟩
def Znj (bs:List (Int × Int × Int)) (n:Nt):List (Int × Int × Int) :=
 if 0≤n.2.1 then bs.modify n.2.1.toNat fun b=>(b.1,b.2.1+1,b.2.2+n.2.2.1) else bs
def Zkd (b:Ov) (l:List Nt):List (Int × Int × Int):=(ofO l 5 5).foldl Znj (b.fl.map fun n=>(n,0,0))
def clO (b:Ov) (l:List Nt):Cl:=⟨Zkd b l,b.may,b.drift,b.mist⟩
def Zfg (n:Int):Bool:=decide (n=0∨n=1)
def Zst (b:Ov) (n:Nt):Bool:=Zfg n.2.2.1 && decide (0≤n.2.1) && decide (n.2.1 < (b.fl.length:Int))
def Zrz (b:Ov) (l:List Nt):Bool:=(ofO l 1 1).all (fun n=>Zfg n.2.2.2) && valid (bnO b l)
def Zs1 (b:Ov) (l:List Nt):Bool:=tyOk (tyO b l)
def Zs0 (b:Ov) (l:List Nt):Bool:=(ofO l 5 5).all (Zst b) && clOk (clO b l)
def Zbq (b:Ov) (l:List Nt):Bool:=Zrz b l && Zs1 b l && Zs0 b l
def digF:Nat→Nat→Bs
 | 0,_=>[]
 | f+1,u=>if u < 10 then [UInt8.ofNat (48+u)] else digF f (u / 10) ++ [UInt8.ofNat (48+u % 10)]
def Zct (n:Int):Bs:=if n < 0 then 45 :: digF 20 n.natAbs else digF 20 n.toNat
theorem Zrf:∀ (f u:Nat),u < 10 ^ (f+1)→digF (f+1) u=Lib.decDigits u
 | 0,u,h=>by
  have h2:u < 10:=by simpa using h
  rw [Lib.decDigits]
  simp [digF,h2]
 | f+1,u,h=>by
  rw [Lib.decDigits,digF]
  by_cases h2:u < 10
  ·simp [h2]
  ·simp only [h2,if_false,dite_false]
   rw [Zrf f (u / 10) (by rw [Nat.pow_succ] at h;omega)]
theorem itoaP_eq (n:Int) (h : -9223372036854775808≤n∧n≤9223372036854775807):Lib.itoa n=Zct n:=by
 unfold Lib.itoa Zct
 rw [Zrf 19 _ om_,Zrf 19 _ om_]
def Zab:Bs→List Bs
 | []=>[[]]
 | c :: r=>if c=32 then [] :: Zab r else (c :: (Zab r).headD []) :: (Zab r).tail
def magO (s:Bs):Bs:=if s.head? = some 45 then s.tail else s
def numO (s:Bs):Option Int :=
 match Lib.atoiAll s with
 | .ok n=>if Zct n=s∧(magO s).length≤4 then some n else none
 | _=>none
def Zam (word:Bs) (l:List Int):Bs:=word ++ l.flatMap fun n=>32 :: Zct n
inductive Wd where
 | note (k f la m:Int)
 | strike
 | ask (k:Nat)
def wordsO:List (Bs × Int × Wd):=[
 ([103,114,111,117,112],3,Wd.note 0 0 0 4),
 ([112,97,105,114],3,Wd.note 1 1 1 4),
 ([112,111,114,116],3,Wd.note 2 2 4 8),
 ([112,101,110],3,Wd.note 3 2 4 8),
 ([102,108,101,101,99,101],2,Wd.note 4 2 4 8),
 ([102,101,108,116],2,Wd.note 5 5 5 30),
 ([115,116,114,105,107,101],0,Wd.strike),
 ([119,104,105,116,101,115],0,Wd.ask 0),
 ([119,104,105,116,101],1,Wd.ask 1),
 ([107,110,111,119,110],0,Wd.ask 2),
 ([112,97,115,115,101,100],0,Wd.ask 3),
 ([116,101,108,108],1,Wd.ask 4),
 ([115,104,111,114,110],1,Wd.ask 5),
 ([105,110,115,105,100,101],1,Wd.ask 6),
 ([102,97,108,115,101],0,Wd.ask 7),
 ([119,114,111,110,103],1,Wd.ask 8),
 ([107,101,101,112,115],1,Wd.ask 9),
 ([109,111,114,101],1,Wd.ask 10)]
def Zhu:Bs:=[110,111,116,101]
def Zb3:Bs:=[115,116,114,105,107,101]
def askW (k:Nat):Bs:=(wordsO.getD (k+7) ([],0,Wd.strike)).1
def askO (b:Ov) (l:List Nt) (k:Nat) (a:List Int):List Int × Int :=
 match k with
 | 0=>let r:=Zc4 (bnO b l);([r.1,r.2.1],r.2.2)
 | 1=>let r:=Zei (bnO b l) (a.getD 0 0);([r.1],r.2)
 | 2=>let r:=Zd0 (bnO b l);([r.1,r.2.1],r.2.2)
 | 3=>let r:=Zcx (bnO b l);([r.1],r.2)
 | 4=>let r:=Zfx (bnO b l) (a.getD 0 0);([r.1,r.2.1],r.2.2)
 | 5=>let r:=ofR false (tyO b l) (a.getD 0 0);([r.1.1,r.1.2],r.2)
 | 6=>let r:=ofR true (tyO b l) (a.getD 0 0);([r.1.1,r.1.2],r.2)
 | 7=>let r:=Zbs (tyO b l);([r.1.1,r.1.2],r.2)
 | 8=>let r:=Zc6 (clO b l) (a.getD 0 0);([r.1.1,r.1.2],r.2)
 | 9=>let r:=Zdi (clO b l) (a.getD 0 0);([r.1],r.2)
 | _=>let r:=Zgn (clO b l) (a.getD 0 0);([r.1],r.2)
def argO (k:Int) (a:List Int):Nt :=
 if k=4 then (4,0,a.getD 0 0,a.getD 1 0) else if k=5 then (5,a.getD 0 0,a.getD 1 0,0) else (k,a.getD 0 0,a.getD 1 0,a.getD 2 0)
def doO (b:Ov) (l:List Nt) (a:List Int):Wd→Bs × Int × List Nt
 | .note k f la m =>
  if (l.length:Int) < 30∧((ofO l f la).length:Int) < m then
   if Zbq b (l ++ [argO k a]) then (Zam Zhu [(l.length:Int)],0,l ++ [argO k a]) else ([],2,l)
  else ([],9,l)
 | .strike=>if l.length=0 then ([],4,l) else (Zam Zb3 [(l.length:Int) - 1],0,l.take (l.length - 1))
 | .ask k=>if (askO b l k a).2=0 then (Zam (askW k) (askO b l k a).1,0,l) else ([],(askO b l k a).2,l)
def Zg2:List Bs→Option (List Int)
 | []=>some []
 | s :: r=>match numO s with
  | none=>none
  | some n=>match Zg2 r with
   | none=>none
   | some l=>some (n :: l)
def Zb8 (b:Ov) (l:List Nt) (s:Bs):Bs × Int × List Nt :=
 if 40 < s.length then ([],3,l)
 else match wordsO.find? (fun x=>x.1 == (Zab s).headD []) with
  | none=>([],8,l)
  | some x=>if ((Zab s).length:Int)=x.2.1+1 then
    match Zg2 (Zab s).tail with
    | none=>([],8,l)
    | some a=>doO b l a x.2.2
   else ([],8,l)
def Zao (b:Ov):List Nt→List Bs→List Bs × Int × List Nt
 | l,[]=>([],0,l)
 | l,s :: r =>
  let x:=Zb8 b l s
  let y:=Zao b x.2.2 r
  (x.1 :: y.1,(if x.2.1=0 then 0 else 1)+y.2.1,y.2.2)
def sampleO:Ov:=⟨5,3,2,3,3,10,[(0,1),(-1,0)],[10,10,8],2,2,1⟩
def bsOf (s:String):Bs:=s.toList.map fun c=>UInt8.ofNat c.toNat
def Zke : List Bs := ["whites", "group 7 2 3", "pair 0 1 1", "group 28 0 1", "known", "tell 4", "strike", "port 0 6 6", "shorn 0", "felt 0 1", "felt 0 1", "wrong 0", "more 1", "felt 0 01"].map bsOf
def Zhf : List Bs := ["whites 2 3", "note 0", "note 1", "note 2", "known 3 0", "", "strike 2", "note 2", "shorn 6 6", "note 3", "note 4", "wrong 1 10", "more 9", ""].map bsOf
theorem Zot:Zbq sampleO []=true:=by decide +kernel
theorem alive_lines:(Zao sampleO [] Zke).1=Zhf∧(Zao sampleO [] Zke).2.1=2:=by decide +kernel
end Go.Proofs.YtbapgefodmmikaaGreatDoor
namespace Go.Proofs.YtbapgefodmmikaaGreatDoor
open Go.RowKit Go.Proofs Go.Ord Tryz
attribute [local irreducible] Ord.walk
def Zpc (g:Int × Int × Int):List Value:=[.int .i64 g.1,.int .i64 g.2.1,.int .i64 g.2.2]
def Zvt (p:Int × Int × Bool):List Value:=[.int .i64 p.1,.int .i64 p.2.1,.bool p.2.2]
theorem Zt5:Zdw prog 23 2:=⟨_,underlying23,rfl,by kernel_rfl⟩
theorem Zbn {w w':World}{base base':Nat}{e:TypeId}{size:Nat}{v:Value}{n:Nat}{xs:List Value}(h:w.ownsRow base e size v n xs) (hb:base'≤base) (hk:∀ g,v.ownBlock=some g→w'.heap[g]? = w.heap[g]?):w'.ownsRow base' e size v n xs:=by
 obtain ⟨hl,h | ⟨g,cap,cur,rfl,hg,hh,r⟩⟩:=h
 ·exact ⟨hl,.inl h⟩
 ·exact ⟨hl,.inr ⟨g,cap,cur,rfl,om_,(hk g rfl).trans hh,r⟩⟩
end Go.Proofs.YtbapgefodmmikaaGreatDoor
namespace Go.Ord
theorem Zyy {P:Program}{lo:List Oper}{Q:Exit→Act→World→Prop}{H:World→Prop}{k:Nat}{l:List (Nat × Nat)}{a:Act}{w:World}{d:Option Tmp}{ty t1 t2:TypeId}{pos:String}{af:Array Edge}{g:Option (Nat × Bool)}{bo:BinOp}{x y:Operand}
  (v:Value) (ho:lo[k]? = some ⟨d,.binOp bo t1 x y t2,ty,pos,af,g⟩) (hr:∀ W,(execOp a.eval ⟨d,.binOp bo t1 x y t2,ty,pos,af,g⟩).run P W=.ok (.value v) W)
  (h:∀ K:Act→World→Prop,(∀ a,walk P lo.toArray H Q l a w→K a w)→wpList P lo.toArray (Exit.then K (fun _ _ _=>False)) [⟨d,.move (.const v),ty,pos,af,g⟩] a w):walk P lo.toArray H Q ((k,1) :: l) a w :=
 Zyt ho v (fun W _=>by unfold Zyr;rw [hr W];exact ⟨rfl,rfl⟩) h
end Go.Ord
namespace Go.Proofs.YtbapgefodmmikaaGreatDoor
open Go.RowKit Go.Proofs Go.Ord Tryz
def Zy9 (w:World) (sv:Value) (m size:Nat) (news:List Value):Prop :=
 news.length=m * size∧((∃ c,sv=.slice none m c∧m=0)∨∃ ad c,sv=.slice (some ad) m c∧∀ j u,news[j]? = some u→w.cell? (ad.add j)=some u)
section
variable {P:Program}{w:World}
theorem Zjm (base:Nat) (t ty e:TypeId) (i:TypeInfo) (ht:P.underlying t=some (.slice e)) (hi:P.info? e=some i)
  (v:Value) (n:Nat) (size:Nat) (xs:List Value) (hown:w.ownsRow base e size v n xs) (c:Nat) :
  (Builtin.append_ #[t,t] ty #[v,.slice none 0 c]).run P w=.ok v w:=by
 rcases hown.2 with ⟨rfl,rfl⟩ | ⟨g,cap,cur,rfl,hbg,hg,hnc,hcm,hcs,htake⟩
 ·simp [Builtin.append_,run_underlying ht,sizeOf,typeInfo,hi,Builtin.lenOf,Builtin.firstCells]
 ·simp [Builtin.append_,run_underlying ht,sizeOf,typeInfo,hi,Builtin.lenOf,Builtin.firstCells,storeCells,hnc]
theorem Zhi {ops:Array Oper}{rest:List Oper}{o:Oper}{a:Act}{Q:Exit→Act→World→Prop}(hgd:o.guard=none) (s x:Operand) (t:TypeId)
  (ho:o.op=.call { callee:=.builtin .append,args:=#[s,x],argTypes:=#[t,t] })
  (base:Nat) (e:TypeId) (i:TypeInfo) (z:Value) (size bytes:Nat) (ht:P.underlying t=some (.slice e)) (hi:P.info? e=some i) (hz:i.zero=some z)
  (hsize:i.size=size) (hby:i.bytes=bytes) (hzs:z.cells.size=size) (hsz:0 < size)
  (v:Value) (n:Nat) (xs:List Value) (hs:a.eval s=v) (hown:w.ownsRow base e size v n xs)
  (sv:Value) (m:Nat) (news:List Value) (hx:a.eval x=sv) (hsrc:Zy9 w sv m size news) (h1:∀ u∈news,u.oneCell'=true)
  (h63:n+m≤maxLen) (hbytes:(n+m) * bytes≤140737488355328) (hbase:base≤w.heap.size)
  (h:∀ v' w',w'.ownsRow base e size v' (n+m) (xs ++ news)→w.grownBy w' v.ownBlock→wpList P ops Q rest (a.put o.dst v') w'):wpList P ops Q (o :: rest) a w:=by
 obtain ⟨hl,⟨c,rfl,rfl⟩ | ⟨ad,c,rfl,hnews⟩⟩:=hsrc
 ·have hn:news=[]:=List.eq_nil_of_length_eq_zero (by simpa using hl)
  subst hn
  refine wpList_plain hgd fun K hK=>?_
  have hr:=Zjm (P:=P) (w:=w) base t o.type e i ht hi v n size xs hown c
  unfold Oper.wp execOp
  simp only [ho,resolve,invoke,builtin,Sem.run_bind,Sem.run_pure,Result.andThen_ok,List.map_toArray,List.map_cons,List.map_nil,hs,hx,hr]
  refine hK _ _ (h v w (by simpa using hown) ⟨rfl,rfl,rfl,Nat.le_refl _,fun _ _ _=>rfl⟩)
 ·exact wpList_append_own w hgd s x t ho base e i z size bytes ht hi hz hsize hby hzs hsz v n xs hs hown ad m c news hx hl hnews h1 h63 hbytes hbase (fun v' w' h2 h3 _=>h v' w' h2 h3)
end
end Go.Proofs.YtbapgefodmmikaaGreatDoor
namespace Go.Ord
def Znq (F:Nat) (ops:Array Oper) (eff:Nat→Bool) (i:Nat) (listed:Array Bool):Bool :=
 let L:=Zqq ops i F listed
 (Region.ready .any ops L).all (· == i) && (List.range ops.size).all fun j=>(!listed.getD j false || L.getD j false) && (listed.getD j true || !eff j || j == i || !L.getD j false)
theorem Zfu {F:Nat}{ops:Array Oper}{eff:Nat→Bool}{i:Nat}{listed:Array Bool}(hs:listed.size=ops.size) (h:Znq F ops eff i listed=true):∃ L,Calm ops eff i L listed:=by
 unfold Znq at h
 simp only [Bool.and_eq_true,List.all_eq_true,List.mem_range,beq_iff_eq,Bool.or_eq_true,Bool.not_eq_true'] at h
 obtain ⟨h1,h2⟩:=h
 refine ⟨Zqq ops i F listed,h1,fun j hj hl=>?_,fun j hj hl hne hL=>?_,by rw [Zhq,hs],hs⟩
 ·have:=(h2 j hj).1
  rw [hl] at this
  simpa using this
 ·have:=(h2 j hj).2
  rw [hl,hL] at this
  simpa [hne] using this
variable {P:Program}{ops:Array Oper}{Q:Exit→Act→World→Prop}{H:World→Prop}{eff:Nat→Bool}
def Zvq (F:Nat) (ops:Array Oper) (eff:Nat→Bool):List (Nat × Nat)→Array Bool→Bool
 | [],listed=>(Region.ready .any ops listed).isEmpty
 | (k,c) :: l,listed =>
  (if eff k then c == 2 && decide (Region.ready .any ops listed=[k])
   else decide (c < 2) && (decide (Region.ready .any ops listed=[k]) || ((Region.ready .any ops listed).contains k && Region.free .any ops listed k && (c == 1 || Znq F ops eff k listed)))) &&
  Zvq F ops eff l (listed.setIfInBounds k true)
def planOkG (F:Nat) (ops:Array Oper) (l:List (Nat × Nat)):Bool :=
 Region.noSelect ops && l.length == ops.size && Zvq F ops (fun i=>l.any fun (k,c)=>k == i && c == 2) l (Array.replicate ops.size false)
theorem _root_.Q5 {p:Prop}(h:p:=by
 refine ⟨fun h0=>(by rw [h0] at hone;cases hone),fun j hj=>?_⟩
 rw [hone] at hj
 have hjk:j=k:=by simpa using hj
 subst hjk
 unfold op
 simp only [ho,he,Bool.false_eq_true,if_false]
 split
 ·rename_i hwt
  simp only [hwt,if_true] at h
  match c,hc2,h with
  | 0,_,h =>
   obtain ⟨v,h1,h2⟩:=h
   exact ⟨v,h1,ih _ _ hw h2⟩
  | 1,_,h =>
   obtain ⟨v,h1,h2⟩:=h
   exact ⟨v,h1 w hw,ih _ _ hw h2⟩
  | (n+2),hc2,_=>exact absurd hc2 om_
 ·rename_i hwt
  simp only [hwt] at h
  exact ih _ _ hw h):p:=h
theorem Zin (F:Nat) (hs:Region.noSelect ops=true) (hQ:∀ c a d v w,Q (.panic c) (a.put d v) w→Q (.panic c) a w):∀ (l:List (Nat × Nat)) (listed:Array Bool) (a:Act) (w:World),listed.size=ops.size→H w →
  Zvq F ops eff l listed=true→walk P ops H Q l a w→any P ops eff H Q l.length listed a w
 | [],_,_,_,_,_,hB,h=>⟨by simpa [Zvq] using hB,h⟩
 | (k,c) :: l,listed,a,w,hsz,hw,hB,h=>by
  rw [Zvq,Bool.and_eq_true] at hB
  obtain ⟨hB,hB'⟩:=hB
  rw [walk] at h
  cases ho:ops[k]? with
  | none=>simp only [ho] at h
  | some o =>
   simp only [ho] at h
   have hsz':(listed.setIfInBounds k true).size=ops.size:=by simp [hsz]
   have ih:∀ a w,H w→walk P ops H Q l a w→any P ops eff H Q l.length (listed.setIfInBounds k true) a w:=fun a w h1 h2=>Zin F hs hQ l _ a w hsz' h1 hB' h2
   cases he:eff k with
   | true =>exact Qs
   | false =>
    simp only [he,Bool.false_eq_true,if_false,Bool.and_eq_true,Bool.or_eq_true,beq_iff_eq,decide_eq_true_eq] at hB
    obtain ⟨hc2,hone | ⟨⟨hr,hf⟩,hcc⟩⟩:=hB
    ·exact Q5
    have hr':k∈Region.ready .any ops listed:=by simpa using hr
    by_cases hwt:Region.wanted o (yielded ops a.tmps)=true
    ·simp only [hwt,if_true] at h
     match c,hc2,h with
     | 0,_,h =>
      obtain ⟨v,h1,h2⟩:=h
      have hcalm:Znq F ops eff k listed=true:=hcc.resolve_left sp_
      obtain ⟨L,hL⟩:=Zfu hsz hcalm
      exact any_calm ho he (Region.noSelect_spec hs) (fun c a w=>hQ c a _ _ w) l.length listed a hL (Region.free_spec ho hf) hr' (.inl ⟨hwt,fun w' e=>by subst e;exact h1⟩) (ih _ _ hw h2)
     | 1,_,h =>
      obtain ⟨v,h1,h2⟩:=h
      exact any_first ho he (Region.noSelect_spec hs) (fun c a w=>hQ c a _ _ w) l.length listed a w hw (Region.free_spec ho hf) hr' (.inl ⟨hwt,h1⟩) (ih _ _ hw h2)
     | (n+2),hc2,_=>exact absurd hc2 om_
    ·have hwt':Region.wanted o (yielded ops a.tmps)=false:=by simpa using hwt
     simp only [hwt',Bool.false_eq_true,if_false] at h
     exact any_first ho he (Region.noSelect_spec hs) (fun c a w=>hQ c a _ _ w) l.length listed a w hw (Region.free_spec ho hf) hr' (.inr ⟨hwt',rfl⟩) (ih _ _ hw h)
theorem wp_regionG {id:Nat}{a:Act}{w:World}{lo:List Oper}(F:Nat) (l:List (Nat × Nat)) (H:World→Prop) (hm:P.follows .mixedOrders=true) (hp:planOkG F lo.toArray l=true)
  (hQ:∀ c a d v w,Q (.panic c) (a.put d v) w→Q (.panic c) a w) (hH:H w.drew) (h:walk P lo.toArray H Q l a w.drew):(Code.region id lo.toArray true).wp P Q a w:=by
 simp only [planOkG,Bool.and_eq_true,beq_iff_eq] at hp
 obtain ⟨⟨hs,hl⟩,hp⟩:=hp
 refine wp_region_any hm (wpAny_of_any (H:=H) (eff:=fun i=>l.any fun (k,c)=>k == i && c == 2) _ _ _ _ ?_)
 have h2:=Zin F (H:=H) (eff:=fun i=>l.any fun (k,c)=>k == i && c == 2) hs hQ l (Array.replicate lo.toArray.size false) a _ sp_ hH hp h
 rw [hl] at h2
 exact h2
end Go.Ord
namespace Go.Ord
inductive Pl where
 | leaf (l:List (Nat × Nat))
 | fork2 (l:List (Nat × Nat)) (k1:Nat) (t1:Pl) (k2:Nat) (t2:Pl)
 | fork3 (l:List (Nat × Nat)) (k1:Nat) (t1:Pl) (k2:Nat) (t2:Pl) (k3:Nat) (t3:Pl)
namespace Pl
def len:Pl→Nat
 | leaf l=>l.length
 | fork2 l _ t1 _ _=>l.length+(t1.len+1)
 | fork3 l _ t1 _ _ _ _=>l.length+(t1.len+1)
def effs:Pl→List Nat
 | leaf l=>(l.filter (·.2 == 2)).map (·.1)
 | fork2 l k1 t1 _ _=>(l.filter (·.2 == 2)).map (·.1) ++ k1 :: t1.effs
 | fork3 l k1 t1 _ _ _ _=>(l.filter (·.2 == 2)).map (·.1) ++ k1 :: t1.effs
end Pl
variable {P:Program}{ops:Array Oper}{Q:Exit→Act→World→Prop}{H:World→Prop}{eff:Nat→Bool}
def okP (F:Nat) (ops:Array Oper) (eff:Nat→Bool) (k c:Nat) (listed:Array Bool):Bool :=
 if eff k then c == 2 && decide (Region.ready .any ops listed=[k])
 else decide (c < 2) && (decide (Region.ready .any ops listed=[k]) || ((Region.ready .any ops listed).contains k && Region.free .any ops listed k && (c == 1 || Znq F ops eff k listed)))
def Zd4 (F:Nat) (ops:Array Oper) (eff:Nat→Bool):List (Nat × Nat)→Array Bool→Option (Array Bool)
 | [],listed=>some listed
 | (k,c) :: l,listed=>if okP F ops eff k c listed=true then Zd4 F ops eff l (listed.setIfInBounds k true) else none
def Zjo (F:Nat) (ops:Array Oper) (eff:Nat→Bool):Pl→Array Bool→Bool
 | .leaf l,listed=>match Zd4 F ops eff l listed with
  | some L=>(Region.ready .any ops L).isEmpty
  | none=>false
 | .fork2 l k1 t1 k2 t2,listed=>match Zd4 F ops eff l listed with
  | some L=>decide (Region.ready .any ops L=[k1,k2]) && (eff k1 && (eff k2 && (t2.len == t1.len && (Zjo F ops eff t1 (L.setIfInBounds k1 true) && Zjo F ops eff t2 (L.setIfInBounds k2 true)))))
  | none=>false
 | .fork3 l k1 t1 k2 t2 k3 t3,listed=>match Zd4 F ops eff l listed with
  | some L=>decide (Region.ready .any ops L=[k1,k2,k3]) && (eff k1 && (eff k2 && (eff k3 && (t2.len == t1.len && (t3.len == t1.len && (Zjo F ops eff t1 (L.setIfInBounds k1 true) && (Zjo F ops eff t2 (L.setIfInBounds k2 true) && Zjo F ops eff t3 (L.setIfInBounds k3 true))))))))
  | none=>false
def Owed (p:Act→World→Prop):Act→World→Prop:=p
def Ze6 (P:Program) (ops:Array Oper) (H:World→Prop) (Q:Exit→Act→World→Prop):Pl→Act→World→Prop
 | .leaf l,a,w=>walk P ops H Q l a w
 | .fork2 l k1 t1 k2 t2,a,w=>walk P ops H (Qn Q (Owed fun a w=>walk P ops H (Qn Q (Ze6 P ops H Q t1)) [(k1,2)] a w∧walk P ops H (Qn Q (Ze6 P ops H Q t2)) [(k2,2)] a w)) l a w
 | .fork3 l k1 t1 k2 t2 k3 t3,a,w=>walk P ops H (Qn Q (Owed fun a w=>walk P ops H (Qn Q (Ze6 P ops H Q t1)) [(k1,2)] a w∧walk P ops H (Qn Q (Ze6 P ops H Q t2)) [(k2,2)] a w∧walk P ops H (Qn Q (Ze6 P ops H Q t3)) [(k3,2)] a w)) l a w
theorem Zfr {R:Act→World→Prop}(h:LetsOut (Qn Q R)):LetsOut Q:=h
theorem Zfo {F:Nat}:∀ (l:List (Nat × Nat)) (listed L:Array Bool),Zd4 F ops eff l listed=some L→L.size=listed.size
 | [],listed,L,h=>by simp only [Zd4,Option.some.injEq] at h;subst h;rfl
 | (k,c) :: l,listed,L,h=>by
  rw [Zd4] at h
  split at h
  ·have:=Zfo l _ _ h;simpa using this
  ·cases h
theorem _root_.Qp {p:Prop}(h:p:=by
 simp only [he,if_true,Bool.and_eq_true,beq_iff_eq,decide_eq_true_eq] at hb
 obtain ⟨rfl,hr⟩:=hb
 refine ⟨fun h0=>(by rw [h0] at hr;cases hr),fun j hj=>?_⟩
 rw [hr] at hj
 have hjk:j=k:=by simpa using hj
 subst hjk
 unfold op
 simp only [ho,he,if_true]
 split
 ·rename_i hwt
  simp only [hwt,if_true] at h
  exact h.imp (fun h=>Two.wp_qn (Oper.wp_mono (fun a w hk=>⟨hk.1,ih a w hk.1 hk.2⟩) h)) (fun h=>⟨h.1,Zfr h.2⟩)
 ·rename_i hwt
  simp only [hwt] at h
  exact ih _ _ hw h):p:=h
theorem _root_.Q1i {p:Prop}(h:p:=by
 simp only [Zd4,Option.some.injEq] at hB
 subst hB
 simp only [List.length_nil,Nat.zero_add]
 exact hR a w hw h):p:=h
theorem any_of_part (F:Nat) {R:Act→World→Prop}{m:Nat}{L:Array Bool}(hs:Region.noSelect ops=true) (hQ:∀ c a d v w,Q (.panic c) (a.put d v) w→Q (.panic c) a w)
  (hR:∀ a w,H w→R a w→any P ops eff H Q m L a w):∀ (l:List (Nat × Nat)) (listed:Array Bool) (a:Act) (w:World),listed.size=ops.size→H w →
  Zd4 F ops eff l listed=some L→walk P ops H (Qn Q R) l a w→any P ops eff H Q (l.length+m) listed a w
 | [],listed,a,w,_,hw,hB,h=>by exact Q1i
 | (k,c) :: l,listed,a,w,hsz,hw,hB,h=>by
  rw [Zd4] at hB
  split at hB
  ·rename_i hb
   unfold okP at hb
   rw [walk] at h
   cases ho:ops[k]? with
   | none=>simp only [ho] at h
   | some o =>
    simp only [ho] at h
    have hsz':(listed.setIfInBounds k true).size=ops.size:=by simp [hsz]
    have ih:∀ a w,H w→walk P ops H (Qn Q R) l a w→any P ops eff H Q (l.length+m) (listed.setIfInBounds k true) a w:=fun a w h1 h2=>any_of_part F hs hQ hR l _ a w hsz' h1 hB h2
    have hlen:((k,c) :: l).length+m=l.length+m+1:=by simp;omega
    rw [hlen]
    cases he:eff k with
    | true =>exact Qp
    | false =>
     simp only [he,Bool.false_eq_true,if_false,Bool.and_eq_true,Bool.or_eq_true,beq_iff_eq,decide_eq_true_eq] at hb
     obtain ⟨hc2,hone | ⟨⟨hr,hf⟩,hcc⟩⟩:=hb
     ·exact Q5
     have hr':k∈Region.ready .any ops listed:=by simpa using hr
     by_cases hwt:Region.wanted o (yielded ops a.tmps)=true
     ·simp only [hwt,if_true] at h
      match c,hc2,h with
      | 0,_,h =>
       obtain ⟨v,h1,h2⟩:=h
       have hcalm:Znq F ops eff k listed=true:=hcc.resolve_left sp_
       obtain ⟨L',hL⟩:=Zfu hsz hcalm
       exact Q16
      | 1,_,h =>exact Q1o
      | (n+2),hc2,_=>exact absurd hc2 om_
     ·exact Q18
  ·cases hB
theorem Zf0 {R:Act→World→Prop}{n k:Nat}{listed:Array Bool}{a:Act}{w:World}(hw:H w) (he:eff k=true) (hR:∀ a w,H w→R a w→any P ops eff H Q n (listed.setIfInBounds k true) a w)
  (h:walk P ops H (Qn Q R) [(k,2)] a w):op P ops eff H Q k (any P ops eff H Q n (listed.setIfInBounds k true)) a w:=by
 rw [walk] at h
 cases ho:ops[k]? with
 | none=>simp only [ho] at h
 | some o =>
  simp only [ho] at h
  unfold op
  simp only [ho,he,if_true]
  split
  ·rename_i hwt
   simp only [hwt,if_true] at h
   exact h.imp (fun h=>Two.wp_qn (Oper.wp_mono (fun a w hk=>⟨hk.1,hR a w hk.1 hk.2⟩) h)) (fun h=>⟨h.1,Zfr h.2⟩)
  ·rename_i hwt
   simp only [hwt] at h
   exact hR _ _ hw h
theorem Zqg:∀ (l:List (Nat × Nat)) {a:Act}{w:World},walk P ops H Q l a w→walk P ops H (Qn Q (fun a w=>Q .normal a w)) l a w:=by
 intro l a w h
 have:Qn Q (fun a w=>Q .normal a w)=Q:=by funext e a w;cases e <;> rfl
 rw [this];exact h
theorem Zc9 (F:Nat) (hs:Region.noSelect ops=true) (hQ:∀ c a d v w,Q (.panic c) (a.put d v) w→Q (.panic c) a w):∀ (t:Pl) (listed:Array Bool) (a:Act) (w:World),listed.size=ops.size→H w →
  Zjo F ops eff t listed=true→Ze6 P ops H Q t a w→any P ops eff H Q t.len listed a w
 | .leaf l,listed,a,w,hsz,hw,hB,h=>by
  rw [Zjo] at hB
  cases hp:Zd4 F ops eff l listed with
  | none=>simp only [hp] at hB;cases hB
  | some L =>
   simp only [hp] at hB
   have:=any_of_part (m:=0) F hs hQ (fun a w _ h=>⟨by simpa using hB,h⟩) l listed a w hsz hw hp (Zqg l h)
   exact this
 | .fork2 l k1 t1 k2 t2,listed,a,w,hsz,hw,hB,h=>by
  rw [Zjo] at hB
  cases hp:Zd4 F ops eff l listed with
  | none=>simp only [hp] at hB;cases hB
  | some L =>
   simp only [hp,Bool.and_eq_true,decide_eq_true_eq,beq_iff_eq] at hB
   obtain ⟨hr,he1,he2,hl,h1,h2⟩:=hB
   have hLs:L.size=ops.size:=(Zfo l _ _ hp).trans hsz
   refine any_of_part (m:=t1.len+1) F hs hQ (fun a w hw ho=>?_) l listed a w hsz hw hp h
   obtain ⟨o1,o2⟩:=ho
   refine ⟨fun h0=>(by rw [h0] at hr;cases hr),fun j hj=>?_⟩
   rw [hr] at hj
   simp only [List.mem_cons,List.not_mem_nil,or_false] at hj
   rcases hj with rfl|rfl
   ·exact Zf0 hw he1 (fun a w hw ht=>Zc9 F hs hQ t1 _ a w (by simp [hLs]) hw h1 ht) o1
   ·exact Zf0 hw he2 (fun a w hw ht=>hl ▸ Zc9 F hs hQ t2 _ a w (by simp [hLs]) hw h2 ht) o2
 | .fork3 l k1 t1 k2 t2 k3 t3,listed,a,w,hsz,hw,hB,h=>by
  rw [Zjo] at hB
  cases hp:Zd4 F ops eff l listed with
  | none=>simp only [hp] at hB;cases hB
  | some L =>
   simp only [hp,Bool.and_eq_true,decide_eq_true_eq,beq_iff_eq] at hB
   obtain ⟨hr,he1,he2,he3,hl2,hl3,h1,h2,h3⟩:=hB
   have hLs:L.size=ops.size:=(Zfo l _ _ hp).trans hsz
   refine any_of_part (m:=t1.len+1) F hs hQ (fun a w hw ho=>?_) l listed a w hsz hw hp h
   obtain ⟨o1,o2,o3⟩:=ho
   refine ⟨fun h0=>(by rw [h0] at hr;cases hr),fun j hj=>?_⟩
   rw [hr] at hj
   simp only [List.mem_cons,List.not_mem_nil,or_false] at hj
   rcases hj with rfl|rfl|rfl
   ·exact Zf0 hw he1 (fun a w hw ht=>Zc9 F hs hQ t1 _ a w (by simp [hLs]) hw h1 ht) o1
   ·exact Zf0 hw he2 (fun a w hw ht=>hl2 ▸ Zc9 F hs hQ t2 _ a w (by simp [hLs]) hw h2 ht) o2
   ·exact Zf0 hw he3 (fun a w hw ht=>hl3 ▸ Zc9 F hs hQ t3 _ a w (by simp [hLs]) hw h3 ht) o3
def Zjp (F:Nat) (ops:Array Oper) (t:Pl):Bool:=Region.noSelect ops && t.len == ops.size && Zjo F ops (fun i=>t.effs.contains i) t (Array.replicate ops.size false)
theorem Zt9 {id:Nat}{a:Act}{w:World}{lo:List Oper}(F:Nat) (t:Pl) (H:World→Prop) (hm:P.follows .mixedOrders=true) (hp:Zjp F lo.toArray t=true)
  (hQ:∀ c a d v w,Q (.panic c) (a.put d v) w→Q (.panic c) a w) (hH:H w.drew) (h:Ze6 P lo.toArray H Q t a w.drew):(Code.region id lo.toArray true).wp P Q a w:=by
 simp only [Zjp,Bool.and_eq_true,beq_iff_eq] at hp
 obtain ⟨⟨hs,hl⟩,hp⟩:=hp
 refine wp_region_any hm (wpAny_of_any (H:=H) (eff:=fun i=>t.effs.contains i) _ _ _ _ ?_)
 have h2:=Zc9 F (H:=H) (eff:=fun i=>t.effs.contains i) hs hQ t (Array.replicate lo.toArray.size false) a _ sp_ hH hp h
 rw [hl] at h2
 exact h2
theorem at_two {lo:List Oper}{a:Act}{w:World}{k1 k2:Nat}{t1 t2:Pl}(h1:walk P lo.toArray H (Qn Q (Ze6 P lo.toArray H Q t1)) [(k1,2)] a w) (h2:walk P lo.toArray H (Qn Q (Ze6 P lo.toArray H Q t2)) [(k2,2)] a w) :
  walk P lo.toArray H (Qn Q (Owed fun a w=>walk P lo.toArray H (Qn Q (Ze6 P lo.toArray H Q t1)) [(k1,2)] a w∧walk P lo.toArray H (Qn Q (Ze6 P lo.toArray H Q t2)) [(k2,2)] a w)) [] a w:=⟨h1,h2⟩
theorem tree_leaf {lo:List Oper}{a:Act}{w:World}{l:List (Nat × Nat)}(h:walk P lo.toArray H Q l a w):walk P lo.toArray H (Qn Q (Ze6 P lo.toArray H Q (.leaf l))) [] a w:=h
theorem tree_two {lo:List Oper}{a:Act}{w:World}{l:List (Nat × Nat)}{k1 k2:Nat}{t1 t2:Pl}(h:walk P lo.toArray H (Qn Q (Owed fun a w=>walk P lo.toArray H (Qn Q (Ze6 P lo.toArray H Q t1)) [(k1,2)] a w∧walk P lo.toArray H (Qn Q (Ze6 P lo.toArray H Q t2)) [(k2,2)] a w)) l a w):walk P lo.toArray H (Qn Q (Ze6 P lo.toArray H Q (.fork2 l k1 t1 k2 t2))) [] a w:=h
theorem top_two {lo:List Oper}{a:Act}{w:World}{l:List (Nat × Nat)}{k1 k2:Nat}{t1 t2:Pl}(h:walk P lo.toArray H (Qn Q (Owed fun a w=>walk P lo.toArray H (Qn Q (Ze6 P lo.toArray H Q t1)) [(k1,2)] a w∧walk P lo.toArray H (Qn Q (Ze6 P lo.toArray H Q t2)) [(k2,2)] a w)) l a w):Ze6 P lo.toArray H Q (.fork2 l k1 t1 k2 t2) a w:=h
end Go.Ord
namespace Go.Ord.Two
variable {P:Program}{Q:Exit→Act→World→Prop}
theorem wpIn_region {l n:Nat}{id:Nat}{a:Act}{w:World}{lo:List Oper}(hO:¬ LetsOut Q) (l1 l2:List (Nat × Nat)) (H:World→Prop) (hm:P.follows .mixedOrders=true) (hp:planOk lo.toArray l1 l2=true) (hd:lo.all Zf2=true)
  (hQ:∀ c a d v w,Q (.panic c) (a.put d v) w→Q (.panic c) a w) (hH:H w.drew) (h:walk P lo.toArray H (Qn Q (walk P lo.toArray (fun _=>True) Q l2)) l1 a w.drew):(Code.region id lo.toArray true).wpIn (Fence.wide.inRound l) n P Q a w:=by
 simp only [planOk,Bool.and_eq_true,beq_iff_eq] at hp
 obtain ⟨⟨hs,hl⟩,hp⟩:=hp
 split at hp
 ·cases hp
 ·rename_i L hL
  refine wpIn_region_any hm (Zdx hO (fun i o ho=>List.all_eq_true.1 hd o (List.mem_of_getElem? (by simpa using ho))) _ _ _ _ (wpAny_of_any (H:=H) (eff:=Zg5 (l1 ++ l2)) (hold:=Zg5 l1) _ _ _ _ ?_))
  exact Qm
end Go.Ord.Two
namespace Go.Ord
variable {P:Program}{ops:Array Oper}{Q:Exit→Act→World→Prop}{H:World→Prop}{eff:Nat→Bool}
end Go.Ord
namespace Go.Ord
variable {P:Program}{ops:Array Oper}{Q:Exit→Act→World→Prop}
end Go.Ord
namespace Go.Ord
variable {P:Program}{Q:Exit→Act→World→Prop}
end Go.Ord
namespace Go.Ord
end Go.Ord
namespace Go.Proofs.YtbapgefodmmikaaGreatDoor
open Go.RowKit Go.Proofs Go.Ord Tryz
attribute [local irreducible] Ord.walk
def RowsAt {α:Type}(w:World) (a:Option Addr) (n:Nat) (f:α→List Value) (l:List α):Prop :=
 ∀ i,(h:i < l.length)→∃ gb go,a=some ⟨gb,go,none⟩∧∀ j u,(f l[i])[j]? = some u→w.cell? ⟨gb,go+i * n+j,none⟩=some u
theorem RowsAt.below {α:Type}{w w':World}{a:Option Addr}{n:Nat}{f:α→List Value}{l:List α}(h:RowsAt w a n f l) (hb:w w'):RowsAt w' a n f l:=fun i hi =>
 let ⟨gb,go,h0,h1⟩:=h i hi
 ⟨gb,go,h0,fun j u hj=>Za4 hb (h1 j u hj)⟩
theorem Zse {α:Type}{n:Nat}{f:α→List Value}{w:World}(a:Option Addr):RowsAt w a n f ([]:List α):=fun i hi=>absurd hi sp_
theorem Zbp {P:Program}{t:TypeId}{z:Value}{s b:Nat}(h:(P.info? t).map (fun i=>(i.zero,i.size,i.bytes))=some (some z,s,b)):∃ i,P.info? t=some i∧i.zero=some z∧i.size=s∧i.bytes=b:=by
 cases hi:P.info? t with
 | none=>rw [hi] at h;cases h
 | some i =>
  rw [hi] at h
  simp only [Option.map_some,Option.some.injEq,Prod.mk.injEq] at h
  exact ⟨i,rfl,h.1,h.2.1,h.2.2⟩
theorem Zha {α:Type}{n:Nat}(f:α→List Value) (hf:∀ a,(f a).length=n):∀ (l:List α) (i:Nat) (h:i < l.length) (j:Nat),j < n→(l.flatMap f)[i * n+j]? = (f l[i])[j]?
 | [],i,h,j,hj=>absurd h sp_
 | a :: l,0,h,j,hj=>by
  rw [List.flatMap_cons,List.getElem?_append_left (by rw [hf];omega)];simp
 | a :: l,i+1,h,j,hj=>by
  rw [List.flatMap_cons,List.getElem?_append_right (by rw [hf,Nat.add_mul];omega),hf,show (i+1) * n+j - n=i * n+j by rw [Nat.add_mul];omega]
  exact Zha f hf l i (by simpa using h) j hj
theorem _root_.Q2s {p:Prop}(h:p:=by
 rw [List.getElem?_eq_none (by rw [hf];omega)] at hj;cases hj):p:=h
theorem Zbm {α:Type}{n:Nat}{f:α→List Value}(hf:∀ a,(f a).length=n) {w:World}{base:Nat}{e:TypeId}{v:Value}{l:List α}(h:w.ownsRow base e n v l.length (l.flatMap f)):∃ a c,v=.slice a l.length c∧RowsAt w a n f l:=by
 obtain ⟨hl,⟨rfl,h0⟩ | ⟨g,cap,cur,rfl,hg,hh,hn,hc,hs,ht⟩⟩:=h
 ·have:l=[]:=List.length_eq_zero_iff.1 h0
  subst this
  exact ⟨none,0,rfl,Zse none⟩
 ·refine ⟨_,cap,rfl,fun i hi=>⟨g,0,rfl,fun j u hj=>?_⟩⟩
  have hjn:j < n:=by
   by_cases hlt:j < n
   ·exact hlt
   ·exact Q2s
  have hlt:i * n+j < l.length * n:=by
   have:=Nat.mul_le_mul_right n (show i+1≤l.length from hi)
   rw [Nat.add_mul] at this
   omega
  rw [Nat.zero_add,cell_of_row w g _ cur e (0,0) hh]
  have h3:=Zha f hf l i hi j hjn
  rw [← ht,List.getElem?_take,if_pos hlt] at h3
  rw [← Array.getElem?_toList,h3]
  exact hj
section
variable {α:Type}{n:Nat}{f:α→List Value}
theorem Zau (hf:∀ a,(f a).length=n):∀ l:List α,(l.flatMap f).length=l.length * n
 | []=>by simp
 | a :: l=>by rw [List.flatMap_cons,List.length_append,Zau hf l,hf,List.length_cons,Nat.add_mul];omega
theorem Znh (hf:∀ a,(f a).length=n):∀ (l:List α) (i j:Nat) (x:α) (v:Value),(h:i < l.length)→j < n→f x=(f l[i]).set j v→(l.flatMap f).set (i * n+j) v=(l.set i x).flatMap f
 | [],i,j,x,v,h,_,_=>absurd h sp_
 | a :: l,0,j,x,v,h,hj,e=>by
  simp only [List.getElem_cons_zero] at e
  rw [List.set_cons_zero,List.flatMap_cons,List.flatMap_cons,Nat.zero_mul,Nat.zero_add,List.set_append_left _ _ (by rw [hf];exact hj),e]
 | a :: l,i+1,j,x,v,h,hj,e=>by
  rw [List.set_cons_succ,List.flatMap_cons,List.flatMap_cons,List.set_append_right _ _ (by rw [hf,Nat.add_mul];omega),hf,show (i+1) * n+j - n=i * n+j by rw [Nat.add_mul];omega]
  rw [Znh hf l i j x v (by simpa using h) hj (by simpa using e)]
def RB (w:World) (g:Nat) (t:TypeId) (n:Nat) (f:α→List Value) (l:List α):Prop:=∃ cur,Blk w g cur t∧cur.toList.take (l.length * n)=l.flatMap f
theorem RB.lt {w:World}{g:Nat}{t:TypeId}{l:List α}(h:RB w g t n f l):g < w.heap.size:=let ⟨_,h1,_⟩:=h;h1.lt
theorem RB.rows (hf:∀ a,(f a).length=n) {w:World}{g:Nat}{t:TypeId}{l:List α}(h:RB w g t n f l):RowsAt w g n f l:=by
 obtain ⟨cur,hb,ht⟩:=h
 refine fun i hi=>⟨g,0,rfl,fun j u hj=>?_⟩
 have hjn:j < n:=by
  by_cases hlt:j < n
  ·exact hlt
  ·exact Q2s
 have hlt:i * n+j < l.length * n:=by
  have:=Nat.mul_le_mul_right n (show i+1≤l.length from hi)
  rw [Nat.add_mul] at this
  omega
 have h3:=Zha f hf l i hi j hjn
 rw [Nat.zero_add,hb.cell,← Array.getElem?_toList]
 rw [← ht,List.getElem?_take,if_pos hlt] at h3
 rw [h3]
 exact hj
theorem RB.set (hf:∀ a,(f a).length=n) {w:World}{g:Nat}{t:TypeId}{l:List α}(h:RB w g t n f l) {i j:Nat}{x:α}{v:Value}(hi:i < l.length) (hj:j < n) (e:f x=(f l[i]).set j v) {q:Nat}(hq:q=i * n+j):RB (w.setCell ⟨g,q,none⟩ v) g t n f (l.set i x):=by
 obtain ⟨cur,hb,ht⟩:=h
 subst hq
 refine ⟨_,hb.set _ _,?_⟩
 rw [Array.toList_setIfInBounds,List.length_set,List.take_set,ht]
 exact Znh hf l i j x v hi hj e
theorem RB.free {w:World}{g:Nat}{t:TypeId}{l:List α}(h:RB w g t n f l) (i:Nat):w.frozen? ⟨g,i,none⟩=false:=let ⟨_,h1,_⟩:=h;h1.free i
theorem RowsAt.src (hf:∀ a,(f a).length=n) (hn:0 < n) {w:World}{a:Option Addr}{l:List α}(h:RowsAt w a n f l) (c:Nat):Zy9 w (.slice a l.length c) l.length n (l.flatMap f):=by
 refine ⟨Zau hf l,?_⟩
 cases a with
 | none =>
  left
  refine ⟨c,rfl,?_⟩
  cases l with
  | nil=>rfl
  | cons x l=>obtain ⟨gb,go,e,_⟩:=h 0 sp_;cases e
 | some ad =>
  right
  refine ⟨ad,c,rfl,fun j u hj=>?_⟩
  have hjl:j < (l.flatMap f).length:=(List.getElem?_eq_some_iff.1 hj).1
  rw [Zau hf] at hjl
  have hi:j / n < l.length:=Nat.div_lt_of_lt_mul (by rw [Nat.mul_comm];exact hjl)
  obtain ⟨gb,go,e,hc⟩:=h (j / n) hi
  obtain rfl:ad=⟨gb,go,none⟩:=by injection e
  have hr:j % n < n:=Nat.mod_lt _ hn
  have h1:=Zha f hf l (j / n) hi (j % n) hr
  have hdm:j / n * n+j % n=j:=Nat.div_add_mod' j n
  rw [hdm] at h1
  have h2:=hc (j % n) u (by rw [← h1];exact hj)
  rw [Addr.add_lit]
  rw [show go+j=go+j / n * n+j % n by omega]
  exact h2
end
end Go.Proofs.YtbapgefodmmikaaGreatDoor
namespace Go.Ord
theorem at_qn {Q:Exit→Act→World→Prop}{R:Act→World→Prop}{a:Act}{w:World}(h:R a w):Qn Q R .normal a w:=h
def Nm (Q:Exit→Act→World→Prop):Exit→Act→World→Prop
 | .normal,a,w=>Q .normal a w
 | _,_,_=>False
theorem Zyp {Q:Exit→Act→World→Prop}{a:Act}{w:World}(h:Q .normal a w):Nm Q .normal a w:=h
theorem Zyu {P:Program}{Q:Exit→Act→World→Prop}{id:Nat}{a:Act}{w:World}{lo:List Oper}(l:List (Nat × Nat)) (H:World→Prop) (hm:P.follows .mixedOrders=true) (hp:planOk lo.toArray l=true)
  (hH:H w.drew) (h:walk P lo.toArray H (Nm Q) l a w.drew):(Code.region id lo.toArray true).wp P Q a w:=by
 refine wp_mono (wp_region (Q:=Nm Q) l H hm hp (fun c a d v w h=>h.elim) hH h) ?_
 intro e a w h
 cases e <;> first|exact h|exact h.elim
theorem Zyz {P:Program}{Q:Exit→Act→World→Prop}{id:Nat}{a:Act}{w:World}{lo:List Oper}(F:Nat) (t:Pl) (H:World→Prop) (hm:P.follows .mixedOrders=true) (hp:Zjp F lo.toArray t=true)
  (hH:H w.drew) (h:Ze6 P lo.toArray H (Nm Q) t a w.drew):(Code.region id lo.toArray true).wp P Q a w:=by
 refine wp_mono (Zt9 (Q:=Nm Q) F t H hm hp (fun c a d v w h=>h.elim) hH h) ?_
 intro e a w h
 cases e <;> first|exact h|exact h.elim
end Go.Ord
namespace Go.Ord.Two
end Go.Ord.Two
namespace Go.Ord
end Go.Ord
namespace Go.Proofs.YtbapgefodmmikaaGreatDoor
open Go.RowKit Go.Proofs Go.Ord Tryz
attribute [local irreducible] Ord.walk
end Go.Proofs.YtbapgefodmmikaaGreatDoor
