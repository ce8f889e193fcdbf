/- Parts of a proof. -/
import Derived.Test.YtbapgefodmmikaaGreatDoorLMin
import Derived.WalkKit
import Derived.ProofKit
import Derived.Orders
import Derived.Tactics
import Derived.Laws.World
import Derived.KernelRfl
import Derived.Test.YtbapgefodmmikaaGreatDoorProg
import Derived.WalkLawsBesides
import Derived.Lib.Hide
import Derived.Deep.DeepMust
set_option linter.unusedVariables false
set_option linter.unusedSimpArgs false
set_option maxHeartbeats 40000000
set_option maxRecDepth 100000
namespace Go.Proofs.YtbapgefodmmikaaGreatDoor
open Go.RowKit Go.Proofs Go.Ord Tryz
structure Cl where
 bs:List (Int × Int × Int)
 may:Int
 drift:Int
 mist:Int
def cs (f:Nat→Int):Array Value:=((List.range 31).map fun i=>Value.int .i64 (f i)).toArray
theorem Za9 (f:Nat→Int):(cs f).size=31:=by simp [cs]
theorem Zgc (f:Nat→Int) {i:Nat}(h:i < 31):(cs f)[i]? = some (.int .i64 (f i)):=by simp [cs,h]
theorem cs_congr {f g:Nat→Int}(h:∀ i,i < 31→f i=g i):cs f=cs g:=by
 unfold cs
 congr 1
 exact List.map_congr_left fun i hi=>by rw [h i (List.mem_range.1 hi)]
def updC (f:Nat→Int) (i:Nat) (v:Int):Nat→Int:=fun j=>if j=i then v else f j
theorem Zsw (f:Nat→Int) {i:Nat}(_:i < 31) (v:Int):(cs f).setIfInBounds i ↑v=cs (updC f i v):=by
 apply Array.ext
 ·simp [cs]
 ·intro j h1 h2
  have hj:j < 31:=by simpa [cs] using h2
  rw [Array.getElem_setIfInBounds (by rw [Za9];exact hj)]
  by_cases e:i=j
  ·subst e;simp [cs,updC]
  ·have:¬ j=i:=fun e'=>e e'.symm
   simp [cs,updC,e,this]
def mixC (g f:Nat→Int) (k:Nat):Nat→Int:=fun j=>if j < k then g j else f j
theorem Ziz (g f:Nat→Int):mixC g f 0=f:=by funext j;simp [mixC]
theorem _root_.Q2j {p:Prop}(h:p:=by
 by_cases h:j=k
 ·subst h;simp
 ·by_cases h2:j < k
  ·simp [h,h2,show j < k+1 by omega]
  ·simp [h,h2,show ¬ j < k+1 by omega]):p:=h
theorem Zh2 (g f:Nat→Int) (k:Nat):updC (mixC g f k) k (g k)=mixC g f (k+1):=by
 funext j
 unfold updC mixC
 exact Q2j
theorem Zj0 (g f:Nat→Int):cs (mixC g f 31)=cs g:=cs_congr fun i hi=>by simp [mixC,hi]
def sum2 (a b:Int):Int:=min 65536 (min 65536 a+b)
def Zn1 (c o:Nat→Int):Nat→Int:=fun i=>sum2 (c i) (o i)
def Zf3 (c:Nat→Int) (a:Nat):Nat→Int
 | 0=>c a
 | n+1=>min (Zf3 c a n) (c (a+n+1))
theorem Zmd (c:Nat→Int) (a:Nat):∀ n,∃ j,j≤n∧Zf3 c a n=c (a+j)
 | 0=>⟨0,Nat.le_refl _,rfl⟩
 | n+1=>by
  obtain ⟨j,hj,e⟩:=Zmd c a n
  unfold Zf3
  by_cases h:Zf3 c a n≤c (a+n+1)
  ·exact ⟨j,om_,by rw [Int.min_eq_left h,e]⟩
  ·exact ⟨n+1,Nat.le_refl _,by rw [Int.min_eq_right om_];rfl⟩
def Zwd (c:Nat→Int):Int:=Zf3 c 0 30
def Zen (d:Nat) (c:Nat→Int):Nat→Int:=fun i=>Zf3 c (i - d) (min 30 (i+d) - (i - d))
def ownC (b:Int × Int × Int) (taken:Bool):Nat→Int:=fun n =>
 if b.1 < (n:Int) then 65536
 else if taken then max (max 0 (max 0 ((n:Int) - (b.1 - b.2.1)) - b.2.2)) (b.2.2 - min (n:Int) b.2.1) else 0
def Zhg (d:Nat) (b:Int × Int × Int) (taken:Bool) (c:Nat→Int):Nat→Int:=Zn1 (Zen d c) (ownC b taken)
def Zcz (set n:Nat):Bool:=set.testBit n
def toF (d:Nat) (bs:List (Int × Int × Int)) (set:Nat):Nat→(Nat→Int)
 | 0=>ownC (bs.getD 0 (0,0,0)) (Zcz set 0)
 | n+1=>Zhg d (bs.getD (n+1) (0,0,0)) (Zcz set (n+1)) (toF d bs set n)
def toB (d:Nat) (bs:List (Int × Int × Int)) (set:Nat):Nat→(Nat→Int)
 | 0=>ownC (bs.getD (bs.length - 1) (0,0,0)) (Zcz set (bs.length - 1))
 | k+1=>Zhg d (bs.getD (bs.length - 1 - (k+1)) (0,0,0)) (Zcz set (bs.length - 1 - (k+1))) (toB d bs set k)
def toC (d:Nat) (bs:List (Int × Int × Int)) (set n:Nat) (back:Bool):Nat→Int:=if back then toB d bs set (bs.length - 1 - n) else toF d bs set n
def Zbg (d:Nat) (bs:List (Int × Int × Int)) (n set:Nat):Nat→Int:=fun i =>
 if 65536≤toC d bs set n false i∨65536≤toC d bs set n true i then 65536
 else toC d bs set n false i+(toC d bs set n true i - ownC (bs.getD n (0,0,0)) (Zcz set n) i)
def Zag (bs:List (Int × Int × Int)):Nat:=2 ^ bs.length - 1
def Zh4 (c:Cl) (set:Nat):Int:=Zwd (toC c.drift.toNat c.bs set (c.bs.length - 1) false)
def canC (c:Cl) (set:Nat):Bool:=decide (Zh4 c set≤c.mist)
def Zfz (f:Nat→Int) (m:Int):Nat→Int × Int
 | 0=>(30,0)
 | n+1=>if f n≤m then (min (Zfz f m n).1 (n:Int),max (Zfz f m n).2 (n:Int)) else Zfz f m n
def Zda (c:Cl) (n:Nat):Int × Int:=Zfz (Zbg c.drift.toNat c.bs n (Zag c.bs)) c.mist 31
def Ze3 (b:Int × Int × Int):Bool:=decide (1≤b.1∧b.1≤30∧0≤b.2.1∧b.2.1≤b.1∧0≤b.2.2∧b.2.2≤b.2.1)
def clOk (c:Cl):Bool:=decide (1≤c.bs.length∧c.bs.length≤6) && decide (0≤c.may∧c.may≤30) && decide (0≤c.drift∧c.drift≤30) && decide (0≤c.mist∧c.mist≤6) && c.bs.all Ze3
def Zc6 (c:Cl) (i:Int):(Int × Int) × Int :=
 if clOk c=false then ((0,0),1) else if i < 0∨(c.bs.length:Int)≤i then ((0,0),2)
 else if canC c (Zag c.bs)=false then ((0,0),10) else (Zda c i.toNat,0)
def Zmr (may:Int) (s:Int × Int):Int:=if s.2≤may then 2 else if s.1≤may then 1 else 0
def Zdi (c:Cl) (i:Int):Int × Int:=if (Zc6 c i).2=0 then (Zmr c.may (Zc6 c i).1,0) else (0,(Zc6 c i).2)
def Zel (c:Cl) (i n:Nat):List (Int × Int × Int):=c.bs.set i (let b:=c.bs.getD i (0,0,0);(b.1,b.2.1+(n:Int),b.2.2))
def Zc5 (c:Cl) (i n:Nat):Bool:=(List.range 31).all fun k=>decide (c.mist < Zbg c.drift.toNat (Zel c i n) i (Zag c.bs) k∨(k:Int)≤c.may)
def Zgn (c:Cl) (i:Int):Int × Int :=
 if clOk c=false then (0,1) else if i < 0∨(c.bs.length:Int)≤i then (0,2)
 else if canC c (Zag c.bs)=false then (0,10)
 else match (List.range ((c.bs.getD i.toNat (0,0,0)).1 - (c.bs.getD i.toNat (0,0,0)).2.1+1).toNat).find? (Zc5 c i.toNat) with
  | some n=>((n:Int),0)
  | none=>(0,4)
structure Ty where
 sh:Int
 most:Int
 strays:List (Int × Int)
 calls:List (Int × Int × Int × Int)
abbrev Tb:=Nat→Nat→Int
def Zcu:Tb:=fun i k=>if i=k then 0 else 65536
def Zgb (t:Tb) (a b:Nat) (most:Int):Tb:=if t a b≤most then t else fun i k=>min (t i k) (wrap64 (wrap64 (t i a+most)+t b k))
def putT (t:Tb) (x:Nat × Nat × Int × Int):Tb:=Zgb (Zgb t x.1 x.2.1 x.2.2.2) x.2.1 x.1 (-x.2.2.1)
def canT (t:Tb):Bool:=(List.range 11).all fun i=>decide (0≤t i i)
def Zgv (t:Tb) (a b:Nat):Int × Int:=(wrap64 (-t b a),t a b)
def Zbl (sh n:Nat):Nat:=if n=0∨n=sh then n else 5+n
def Zpp (sh:Nat) (c:Int × Int × Int × Int):Nat × Nat × Int × Int :=
 if c.1=0 then (c.2.1.toNat+1,c.2.1.toNat,c.2.2.1,c.2.2.2)
 else if c.1=1 then (Zbl sh (c.2.1.toNat+1),Zbl sh c.2.1.toNat,c.2.2.1,c.2.2.2)
 else (sh,0,c.2.2.1,c.2.2.2)
def Zb7 (t:Ty) (set:Nat):List (Nat × Nat × Int × Int) :=
 (List.range t.sh.toNat).flatMap (fun i=>[(i+1,i,0,t.most),(Zbl t.sh.toNat (i+1),Zbl t.sh.toNat i,0,65536)]) ++
 (t.strays.zipIdx.map fun s=>(s.2+1,Zbl t.sh.toNat (s.2+1),s.1.1,s.1.2)) ++
 ((t.calls.zipIdx.filter fun c=>set.testBit c.2).map fun c=>Zpp t.sh.toNat c.1)
def Zaa (t:Ty) (set:Nat):Tb:=(Zb7 t set).foldl putT Zcu
def Zae (t:Ty):Nat:=2 ^ t.calls.length - 1
def Zcv (sh:Int) (c:Int × Int × Int × Int):Bool:=(decide (c.1=2) || (decide (0≤c.1∧c.1≤1) && decide (0≤c.2.1∧c.2.1≤sh - 1))) && decide (0≤c.2.2.1∧c.2.2.1≤c.2.2.2∧c.2.2.2≤300)
def tyOk (t:Ty):Bool:=decide (1≤t.sh∧t.sh≤5) && decide (0≤t.most∧t.most≤60) && decide ((t.strays.length:Int)=t.sh - 1) && decide (t.calls.length≤8) &&
 (t.strays.all fun s=>decide (-3≤s.1∧s.1≤s.2∧s.2≤3)) && t.calls.all (Zcv t.sh)
def shornB (i:Nat):Nat × Nat:=(i+1,i)
def penB (sh i:Nat):Nat × Nat:=(Zbl sh (i+1),Zbl sh i)
def ofR (pen:Bool) (t:Ty) (i:Int):(Int × Int) × Int :=
 if tyOk t=false then ((0,0),1) else if i < 0∨t.sh≤i then ((0,0),2)
 else if canT (Zaa t (Zae t))=false then ((0,0),10)
 else (let x:=if pen then penB t.sh.toNat i.toNat else shornB i.toNat
  Zgv (Zaa t (Zae t)) x.1 x.2,0)
def popT (n:Nat):Nat:=((List.range 9).filter n.testBit).length
def setsT (n:Nat):List Nat:=(List.range 9).flatMap fun c=>(List.range (2 ^ n)).filter fun s=>popT s == c
def Zbs (t:Ty):(Int × Int) × Int :=
 if tyOk t=false then ((0,0),1)
 else match (setsT t.calls.length).find? fun s=>canT (Zaa t (Zae t - s)) with
  | some s=>(((popT s:Nat),(s:Int)),0)
  | none=>((0,0),10)
end Go.Proofs.YtbapgefodmmikaaGreatDoor
namespace Go.Ord
variable {P:Program}{ops:Array Oper}{Q:Exit→Act→World→Prop}{H:World→Prop}
def Zys (P:Program) (w:World) (v:Value):Result Next→Prop
 | .ok (.value u) w'=>w'=w∧u=v
 | .ok .skip w'=>w'=w∧v=undef
 | .ok (.enter f args) w'=>w'=w∧Calls P f args w (fun e w''=>e=.returned v∧w=w'')
 | _=>False
def Zyr (P:Program) (o:Oper) (a:Act) (w:World) (v:Value):Prop:=Zys P w v ((execOp a.eval o).run P w)
def op (P:Program) (ops:Array Oper) (eff:Nat→Bool) (H:World→Prop) (Q:Exit→Act→World→Prop) (i:Nat) (K:Act→World→Prop) (a:Act) (w:World):Prop :=
 match ops[i]? with
 | none=>K a w
 | some o=>if Region.wanted o (yielded ops a.tmps) then
   (if eff i then o.wp P a w (fun a' w'=>H w'∧K a' w') Q∨(o.asks P a w∧LetsOut Q)
    else ∃ v,Zyr P o a w v∧K (a.put o.dst v) w)
  else K (a.put o.dst undef) w
variable {eff:Nat→Bool}
theorem _root_.Q3n {p:Prop}(h:p:=by
 rename_i he
 simp only [he] at hh
 obtain ⟨v,h1,h2⟩:=hh
 exact ⟨v,h1,h _ _ h2⟩):p:=h
theorem _root_.Qw {p:Prop}(h:p:=by
 unfold op at *
 split
 ·rename_i ho;simp only [ho] at hh;exact h _ _ hh
 ·rename_i o ho
  simp only [ho] at hh
  split
  ·rename_i hw
   simp only [hw,if_true] at hh
   split
   ·rename_i he
    simp only [he,if_true] at hh
    exact hh.imp (Oper.wp_mono (fun a w ⟨h1,h2⟩=>⟨h1,h _ _ h2⟩)) id
   ·exact Q3n
  ·rename_i hw;simp only [hw] at hh;exact h _ _ hh):p:=h
theorem op_mono {i:Nat}{a:Act}{w:World}{K K':Act→World→Prop}(h:∀ a w,K a w→K' a w) (hh:op P ops eff H Q i K a w):op P ops eff H Q i K' a w:=Qw
def any (P:Program) (ops:Array Oper) (eff:Nat→Bool) (H:World→Prop) (Q:Exit→Act→World→Prop):Nat→Array Bool→Act→World→Prop
 | 0,listed,a,w=>Region.ready .any ops listed=[]∧Q .normal a w
 | fuel+1,listed,a,w =>
  (Region.ready .any ops listed=[]→Q .normal a w) ∧
  ∀ i∈Region.ready .any ops listed,op P ops eff H Q i (any P ops eff H Q fuel (listed.setIfInBounds i true)) a w
theorem _root_.Qe {p:Prop}(h:p:=by
 unfold Zyr at h1
 unfold Oper.wp
 generalize (execOp a.eval o).run P w=r at *
 cases r with
 | ok n w' =>
  cases n <;> simp only [Zys] at h1 <;> simp only [Oper.upon]
  case value u=>obtain ⟨rfl,rfl⟩:=h1;exact h _ _ h2
  case skip=>obtain ⟨rfl,rfl⟩:=h1;exact h _ _ h2
  case enter f args =>
   obtain ⟨rfl,h3⟩:=h1
   refine h3.mono fun e w'' hk=>?_
   obtain ⟨rfl,rfl⟩:=hk
   exact h _ _ h2
 | halt x w'=>simp only [Zys] at h1):p:=h
theorem _root_.Q3b {p:Prop}(h:p:=by
 unfold op at hh
 unfold wpOp
 split
 ·rename_i ho;simp only [ho] at hh;exact h _ _ hh
 ·rename_i o ho
  simp only [ho] at hh
  split
  ·rename_i hw
   simp only [hw,if_true] at hh
   split at hh
   ·exact hh.imp (Oper.wp_mono (fun a w hk=>h _ _ hk.2)) id
   ·left
    obtain ⟨v,h1,h2⟩:=hh
    exact Qe
  ·rename_i hw;simp only [hw] at hh;exact h _ _ hh):p:=h
theorem wpOp_of_op {i:Nat}{K K':Act→World→Prop}{a:Act}{w:World}(h:∀ a w,K a w→K' a w) (hh:op P ops eff H Q i K a w):wpOp P ops Q i K' a w:=Q3b
theorem wpAny_of_any:∀ (fuel:Nat) (listed:Array Bool) (a:Act) (w:World),any P ops eff H Q fuel listed a w→wpAny P .any ops Q fuel listed a w
 | 0,_,_,_,h=>h
 | fuel+1,_,_,_,h=>⟨h.1,fun i hi=>wpOp_of_op (fun a w=>wpAny_of_any fuel _ a w) (h.2 i hi)⟩
def Yl (P:Program) (ops:Array Oper) (C:World→Prop) (o:Oper) (v:Value) (a:Act):Prop :=
 (Region.wanted o (yielded ops a.tmps)=true∧∀ w,C w→Zyr P o a w v)∨(Region.wanted o (yielded ops a.tmps)=false∧v=undef)
variable {C:World→Prop}
theorem _root_.Q14 {p:Prop}(h:p:=by
 simp only [hi]
 rcases hy with ⟨h1,h2⟩ | ⟨h1,rfl⟩
 ·simp only [h1,if_true,he,Bool.false_eq_true,if_false];exact ⟨v,h2 w hw,h⟩
 ·simp only [h1,Bool.false_eq_true,if_false];exact h):p:=h
theorem Yl.op {i:Nat}{o:Oper}{v:Value}{a:Act}{w:World}(hi:ops[i]? = some o) (he:eff i=false) (hw:C w) (hy:Yl P ops C o v a) {K:Act→World→Prop}(h:K (a.put o.dst v) w) :
  Ord.op P ops eff H Q i K a w:=by
 unfold Ord.op
 exact Q14
theorem Yl.of_same {o:Oper}{v:Value}{a a':Act}(hy:Yl P ops C o v a) (he:execOp a'.eval o=execOp a.eval o)
  (hw:Region.wanted o (yielded ops a'.tmps)=Region.wanted o (yielded ops a.tmps)):Yl P ops C o v a':=by
 unfold Yl Zyr at *
 rw [he,hw]
 exact hy
theorem _root_.Q3c {p:Prop}(h:p:=by
 cases e with
 | returned u=>exact ⟨hk.1,keep a hy u,by rw [← Act.put_comm a v u h2];exact hk.2⟩
 | panicked c=>exact hQ _ _ _ hk
 | outgrown=>exact hk):p:=h
theorem _root_.Q3h {p:Prop}(h:p:=by
 refine ⟨h.1,?_,?_⟩
 ·have hd:Yl P ops C oi v { a with defers:=d :: a.defers }:=hy
  exact keep _ hd _
 ·have h4:=h.2
  rw [Act.put_defers,Act.put_comm _ v undef h2] at h4
  exact h4):p:=h
theorem _root_.Q3j {p:Prop}(h:p:=by
 rename_i he
 simp only [he] at h
 obtain ⟨u,hu,hn⟩:=h
 refine ⟨u,?_,keep a hy u,by rw [← Act.put_comm a v u h2];exact hn⟩
 unfold Zyr at *
 rwa [execOp_put oj hsj a oi.dst v h1] at hu):p:=h
theorem _root_.Q3m {p:Prop}(h:p:=by
 rename_i hw
 simp only [hw] at h
 exact ⟨keep a hy _,by rw [← Act.put_comm a v undef h2];exact h⟩):p:=h
theorem _root_.Q4 {p:Prop}(h:p:=by
 obtain ⟨h1,h2,h3⟩:=Oper.apart_spec hap
 have keep:∀ (a:Act),Yl P ops C oi v a→∀ u,Yl P ops C oi v (a.put oj.dst u):=fun a hy u =>
  hy.of_same (execOp_put oi hsi a oj.dst u h3) (wanted_put oi a oj.dst u h3)
 unfold op at *
 simp only [hj] at *
 rw [wanted_put oj a oi.dst v h1] at h
 split
 ·rename_i hw
  simp only [hw,if_true] at h
  split
  ·rename_i he
   simp only [he,if_true] at h
   refine h.imp (fun h=>?_) (fun h=>⟨by have:=h.1;unfold Oper.asks at *;rwa [execOp_put oj hsj a oi.dst v h1] at this,h.2⟩)
   unfold Oper.wp at *
   rw [execOp_put oj hsj a oi.dst v h1] at h
   generalize (execOp a.eval oj).run P w=r at *
   cases r with
   | ok n w' =>
    cases n <;> simp only [Oper.upon] at h ⊢
    case value u=>exact ⟨h.1,keep a hy u,by rw [← Act.put_comm a v u h2];exact h.2⟩
    case skip=>exact ⟨h.1,keep a hy _,by rw [← Act.put_comm a v undef h2];exact h.2⟩
    case defer d =>exact Q3h
    case enter f args =>
     refine Calls.mono h fun e w'' hk=>?_
     exact Q3c
    case row row args=>exact Rows.mono h fun u w'' hk=>⟨hk.1,keep a hy u,by rw [← Act.put_comm a v u h2];exact hk.2⟩
   | halt x w' =>
    cases x <;> simp only [Oper.upon] at h ⊢
    case panic u=>exact hQ _ _ _ h
  ·exact Q3j
 ·exact Q3m):p:=h
theorem op_put {j:Nat}{oi oj:Oper}{v:Value}(hj:ops[j]? = some oj) (hap:oi.apart ops oj=true)
  (hsi:∀ cs b,oi.op≠.select cs b) (hsj:∀ cs b,oj.op≠.select cs b) (hQ:∀ c a w,Q (.panic c) (a.put oi.dst v) w→Q (.panic c) a w) {K:Act→World→Prop}{a:Act}{w:World}
  (hy:Yl P ops C oi v a) (h:op P ops eff H Q j K (a.put oi.dst v) w) :
  op P ops eff H Q j (fun a' w'=>Yl P ops C oi v a'∧K (a'.put oi.dst v) w') a w:=Q4
theorem Ze8 {i j:Nat}{listed:Array Bool}{oj:Oper}(hr:i∈Region.ready .any ops listed) (hoj:ops[j]? = some oj) (hall:∀ e∈oj.after,Region.binds .any e=true→listed.getD e.on false=true) :
  ∀ e∈oj.after,Region.binds .any e=true→e.on≠i:=fun e he hb heq=>by
 have h1:=hall e he hb
 have h0:=(mem_ready.1 hr).1
 rw [heq] at h1
 rcases Nat.lt_or_ge i listed.size with h'|h'
 ·simp [h'] at h0 h1;rw [h0] at h1;cases h1
 ·simp [Array.getElem?_eq_none h'] at h1
theorem _root_.Q1n {p:Prop}(h:p:=by
 rename_i hef
 simp only [hef] at h2
 obtain ⟨u,h3,h4⟩:=h2
 exact ⟨u,h3,hw,h4⟩):p:=h
theorem _root_.Q1t {p:Prop}(h:p:=by
 refine op_mono (fun a' w' h3=>ih (listed.setIfInBounds j true) a' w' h3.1 hfree' (ready_mono hr (Ne.symm hji)) h3.2.1 ?_) hH
 rw [Array.setIfInBounds_comm _ _ hji]
 exact h3.2.2):p:=h
theorem _root_.Q39 {p:Prop}(h:p:=by
 refine hfree k ok hk hki ?_ hno
 by_cases hjk:j=k
 ·subst hjk;exact hjun
 ·rw [getD_set_ne true hjk] at hun;exact hun):p:=h
theorem any_first {i:Nat}{oi:Oper}{v:Value}(hi:ops[i]? = some oi) (he:eff i=false) (hsel:∀ (j:Nat) (o:Oper) cs b,ops[j]? = some o→o.op≠.select cs b)
  (hQ:∀ c a w,Q (.panic c) (a.put oi.dst v) w→Q (.panic c) a w) :
  ∀ (fuel:Nat) (listed:Array Bool) (a:Act) (w:World),H w →
   (∀ j oj,ops[j]? = some oj→j≠i→listed.getD j true=false→(∀ e∈oj.after,Region.binds .any e=true→e.on≠i)→oi.apart ops oj=true) →
   i∈Region.ready .any ops listed→Yl P ops H oi v a →
   any P ops eff H Q fuel (listed.setIfInBounds i true) (a.put oi.dst v) w→any P ops eff H Q (fuel+1) listed a w:=by
 intro fuel
 induction fuel with
 | zero =>
  intro listed a w hw _ hr hy h
  refine ⟨fun h0=>(by rw [h0] at hr;cases hr),fun j hj=>?_⟩
  by_cases hji:j=i
  ·subst hji;exact hy.op hi he hw h
  ·have:=ready_mono hj hji
   rw [h.1] at this
   cases this
 | succ fuel ih =>
  intro listed a w hw hfree hr hy h
  refine ⟨fun h0=>(by rw [h0] at hr;cases hr),fun j hj=>?_⟩
  by_cases hji:j=i
  ·subst hji;exact hy.op hi he hw h
  ·have h1:=h.2 j (ready_mono hj hji)
   obtain ⟨hjun,oj,hoj,hall⟩:=mem_ready.1 hj
   have hnot:=Ze8 hr hoj hall
   have h2:=op_put hoj (hfree j oj hoj hji hjun hnot) (fun cs b=>hsel i oi cs b hi) (fun cs b=>hsel j oj cs b hoj) hQ hy h1
   have hfree':∀ k ok,ops[k]? = some ok→k≠i→(listed.setIfInBounds j true).getD k true=false →
     (∀ e∈ok.after,Region.binds .any e=true→e.on≠i)→oi.apart ops ok=true:=fun k ok hk hki hun hno=>by exact Q39
   have hH:op P ops eff H Q j (fun a' w'=>H w'∧Yl P ops H oi v a'∧any P ops eff H Q fuel ((listed.setIfInBounds i true).setIfInBounds j true) (a'.put oi.dst v) w') a w:=by
    revert h2
    unfold op
    simp only [hoj]
    intro h2
    split
    ·rename_i hwt
     simp only [hwt,if_true] at h2
     split
     ·rename_i hef
      simp only [hef,if_true] at h2
      exact h2.imp (Oper.wp_mono (fun a w hk=>⟨hk.1,hk.1,hk.2⟩)) id
     ·exact Q1n
    ·rename_i hwt
     simp only [hwt] at h2
     exact ⟨hw,h2⟩
   exact Q1t
def Zqq (ops:Array Oper) (i:Nat):Nat→Array Bool→Array Bool
 | 0,l=>l
 | n+1,l=>Zqq ops i n ((Region.ready .any ops l).foldl (fun l j=>if j == i then l else l.setIfInBounds j true) l)
def calm (ops:Array Oper) (eff:Nat→Bool) (i:Nat) (listed:Array Bool):Bool :=
 let L:=Zqq ops i ops.size listed
 (Region.ready .any ops L).all (· == i) && (List.range ops.size).all fun j=>(!listed.getD j false || L.getD j false) && (listed.getD j true || !eff j || j == i || !L.getD j false)
structure Calm (ops:Array Oper) (eff:Nat→Bool) (i:Nat) (L listed:Array Bool):Prop where
 closed:∀ j∈Region.ready .any ops L,j=i
 sub:∀ j,j < ops.size→listed.getD j false=true→L.getD j false=true
 quiet:∀ j,j < ops.size→listed.getD j true=false→j≠i→L.getD j false=true→eff j=false
 size:L.size=ops.size
 lsize:listed.size=ops.size
theorem Zhq (i:Nat):∀ (n:Nat) (l:Array Bool),(Zqq ops i n l).size=l.size
 | 0,_=>rfl
 | n+1,l=>by
  rw [Zqq,Zhq i n]
  generalize Region.ready .any ops l=rs
  induction rs generalizing l with
  | nil=>rfl
  | cons r rs ih =>
   rw [List.foldl_cons,ih]
   split <;> simp
theorem Zdj {i:Nat}{listed:Array Bool}(hs:listed.size=ops.size) (h:calm ops eff i listed=true):∃ L,Calm ops eff i L listed:=by
 unfold calm at h
 simp only [Bool.and_eq_true,List.all_eq_true,List.mem_range,beq_iff_eq,Bool.or_eq_true,Bool.not_eq_true'] at h
 obtain ⟨h1,h2⟩:=h
 refine ⟨Zqq ops i ops.size listed,h1,fun j hj hl=>?_,fun j hj hl hne hL=>?_,by rw [Zhq,hs],hs⟩
 ·have:=(h2 j hj).1
  rw [hl] at this
  simpa using this
 ·have:=(h2 j hj).2
  rw [hl,hL] at this
  simpa [hne] using this
theorem getD_sw {L:Array Bool}{j:Nat}(hj:j < L.size):L.getD j true=L.getD j false:=by simp [hj]
theorem Calm.read {i j:Nat}{L listed:Array Bool}(c:Calm ops eff i L listed) (hj:j∈Region.ready .any ops listed) (hne:j≠i):eff j=false∧L.getD j false=true:=by
 obtain ⟨hun,o,ho,hall⟩:=mem_ready.1 hj
 have hlt:j < ops.size:=(Array.getElem?_eq_some_iff.1 ho).1
 have hL:L.getD j false=true:=by
  cases hx:L.getD j false with
  | true=>rfl
  | false =>
   refine absurd (c.closed j ?_) hne
   refine mem_ready.2 ⟨by rw [getD_sw (by rw [c.size];exact hlt)];exact hx,o,ho,fun e he hb=>?_⟩
   have h1:=hall e he hb
   refine c.sub _ ?_ h1
   rcases Nat.lt_or_ge e.on listed.size with h'|h'
   ·rw [← c.lsize];exact h'
   ·simp [Array.getElem?_eq_none h'] at h1
 exact ⟨c.quiet j hlt hun hne hL,hL⟩
theorem Calm.set {i j:Nat}{L listed:Array Bool}(c:Calm ops eff i L listed) (hj:L.getD j false=true):Calm ops eff i L (listed.setIfInBounds j true):=by
 refine ⟨c.closed,fun k hk hl=>?_,fun k hk hl hne hL=>?_,c.size,by simp [c.lsize]⟩
 ·by_cases h:j=k
  ·subst h;exact hj
  ·rw [getD_set_ne false h] at hl;exact c.sub k hk hl
 ·by_cases h:j=k
  ·subst h
   have:j < listed.size:=by rw [c.lsize];exact hk
   simp [this] at hl
  ·rw [getD_set_ne true h] at hl;exact c.quiet k hk hl hne hL
theorem _root_.Q3d {p:Prop}(h:p:=by
 revert h2
 unfold op
 simp only [hoj,hej,Bool.false_eq_true,if_false]
 intro h2
 split
 ·rename_i hwt
  simp only [hwt,if_true] at h2
  obtain ⟨u,h3,h4⟩:=h2
  exact ⟨u,h3,trivial,h4⟩
 ·rename_i hwt
  simp only [hwt] at h2
  exact ⟨trivial,h2⟩):p:=h
theorem _root_.Q3i {p:Prop}(h:p:=by
 refine op_mono (fun a' w' h3=>?_) hH
 obtain ⟨rfl,h4,h5⟩:=h3
 refine ih (listed.setIfInBounds j true) a' (hc.set hLj) hfree' (ready_mono hr (Ne.symm hji)) h4 ?_
 rw [Array.setIfInBounds_comm _ _ hji]
 exact h5):p:=h
theorem _root_.Q8 {p:Prop}(h:p:=by
 have h1:=h.2 j (ready_mono hj hji)
 obtain ⟨hej,hLj⟩:=hc.read hj hji
 obtain ⟨hjun,oj,hoj,hall⟩:=mem_ready.1 hj
 have hnot:=Ze8 hr hoj hall
 have h2:=op_put hoj (hfree j oj hoj hji hjun hnot) (fun cs b=>hsel i oi cs b hi) (fun cs b=>hsel j oj cs b hoj) hQ hy h1
 have hfree':∀ k ok,ops[k]? = some ok→k≠i→(listed.setIfInBounds j true).getD k true=false →
   (∀ e∈ok.after,Region.binds .any e=true→e.on≠i)→oi.apart ops ok=true:=fun k ok hk hki hun hno=>by exact Q39
 have hH:op P ops eff H Q j (fun a' w'=>w'=w∧Yl P ops (· = w) oi v a'∧any P ops eff H Q fuel ((listed.setIfInBounds i true).setIfInBounds j true) (a'.put oi.dst v) w') a w:=Q3d
 exact Q3i):p:=h
theorem any_calm {i:Nat}{oi:Oper}{v:Value}{w:World}{L:Array Bool}(hi:ops[i]? = some oi) (he:eff i=false) (hsel:∀ (j:Nat) (o:Oper) cs b,ops[j]? = some o→o.op≠.select cs b)
  (hQ:∀ c a w,Q (.panic c) (a.put oi.dst v) w→Q (.panic c) a w) :
  ∀ (fuel:Nat) (listed:Array Bool) (a:Act),Calm ops eff i L listed →
   (∀ j oj,ops[j]? = some oj→j≠i→listed.getD j true=false→(∀ e∈oj.after,Region.binds .any e=true→e.on≠i)→oi.apart ops oj=true) →
   i∈Region.ready .any ops listed→Yl P ops (· = w) oi v a →
   any P ops eff H Q fuel (listed.setIfInBounds i true) (a.put oi.dst v) w→any P ops eff H Q (fuel+1) listed a w:=by
 intro fuel
 induction fuel with
 | zero =>
  intro listed a _ _ hr hy h
  refine ⟨fun h0=>(by rw [h0] at hr;cases hr),fun j hj=>?_⟩
  by_cases hji:j=i
  ·subst hji;exact Yl.op (C:=(· = w)) hi he rfl hy h
  ·have:=ready_mono hj hji
   rw [h.1] at this
   cases this
 | succ fuel ih =>
  intro listed a hc hfree hr hy h
  refine ⟨fun h0=>(by rw [h0] at hr;cases hr),fun j hj=>?_⟩
  by_cases hji:j=i
  ·subst hji;exact Yl.op (C:=(· = w)) hi he rfl hy h
  ·exact Q8
def plan (ops:Array Oper) (eff:Nat→Bool):List (Nat × Nat)→Array Bool→Bool
 | [],listed=>(Region.ready .any ops listed).isEmpty
 | (k,c) :: l,listed =>
  (if eff k then c == 2 && decide (Region.ready .any ops listed=[k])
   else decide (c < 2) && (Region.ready .any ops listed).contains k && Region.free .any ops listed k && (c == 1 || calm ops eff k listed)) &&
  plan ops eff l (listed.setIfInBounds k true)
def planOk (ops:Array Oper) (l:List (Nat × Nat)):Bool :=
 Region.noSelect ops && l.length == ops.size && plan ops (fun i=>l.any fun (k,c)=>k == i && c == 2) l (Array.replicate ops.size false)
def walk (P:Program) (ops:Array Oper) (H:World→Prop) (Q:Exit→Act→World→Prop):List (Nat × Nat)→Act→World→Prop
 | [],a,w=>Q .normal a w
 | (k,c) :: l,a,w =>
  match ops[k]? with
  | none=>False
  | some o=>if Region.wanted o (yielded ops a.tmps) then
    (match c with
     | 0=>∃ v,Zyr P o a w v∧walk P ops H Q l (a.put o.dst v) w
     | 1=>∃ v,(∀ W,H W→Zyr P o a W v)∧walk P ops H Q l (a.put o.dst v) w
     | _=>o.wp P a w (fun a' w'=>H w'∧walk P ops H Q l a' w') Q∨(o.asks P a w∧LetsOut Q))
   else walk P ops H Q l (a.put o.dst undef) w
theorem _root_.Q3g {p:Prop}(h:p:=by
 unfold op
 simp only [ho,he,if_true]
 split
 ·rename_i hwt
  simp only [hwt,if_true] at h
  exact h.imp (Oper.wp_mono (fun a w hk=>⟨hk.1,ih a w hk.1 hk.2⟩)) id
 ·rename_i hwt
  simp only [hwt] at h
  exact ih _ _ hw h):p:=h
theorem _root_.Qs {p:Prop}(h:p:=by
 simp only [he,if_true,Bool.and_eq_true,beq_iff_eq,decide_eq_true_eq] at hB
 obtain ⟨rfl,hr⟩:=hB
 refine ⟨fun h0=>(by rw [h0] at hr;cases hr),fun j hj=>?_⟩
 rw [hr] at hj
 have hjk:j=k:=by simpa using hj
 subst hjk
 exact Q3g):p:=h
theorem Zfj (hs:Region.noSelect ops=true) (hQ:∀ c a d v w,(∃ o,o∈ops∧o.dst=d)→Q (.panic c) (a.put d v) w→Q (.panic c) a w):∀ (l:List (Nat × Nat)) (listed:Array Bool) (a:Act) (w:World),listed.size=ops.size→H w →
  plan ops eff l listed=true→walk P ops H Q l a w→any P ops eff H Q l.length listed a w
 | [],_,_,_,_,_,hB,h=>⟨by simpa [plan] using hB,h⟩
 | (k,c) :: l,listed,a,w,hsz,hw,hB,h=>by
  rw [plan,Bool.and_eq_true] at hB
  obtain ⟨hB,hB'⟩:=hB
  rw [walk] at h
  cases ho:ops[k]? with
  | none=>simp only [ho] at h
  | some o =>
   simp only [ho] at h
   have hsz':(listed.setIfInBounds k true).size=ops.size:=by simp [hsz]
   have ih:∀ a w,H w→walk P ops H Q l a w→any P ops eff H Q l.length (listed.setIfInBounds k true) a w:=fun a w h1 h2=>Zfj hs hQ l _ a w hsz' h1 hB' h2
   cases he:eff k with
   | true =>exact Qs
   | false =>
    simp only [he,Bool.false_eq_true,if_false,Bool.and_eq_true,Bool.or_eq_true,beq_iff_eq,decide_eq_true_eq] at hB
    obtain ⟨⟨⟨hc2,hr⟩,hf⟩,hcc⟩:=hB
    have hr':k∈Region.ready .any ops listed:=by simpa using hr
    by_cases hwt:Region.wanted o (yielded ops a.tmps)=true
    ·simp only [hwt,if_true] at h
     match c,hc2,h with
     | 0,_,h =>
      obtain ⟨v,h1,h2⟩:=h
      have hcalm:calm ops eff k listed=true:=hcc.resolve_left sp_
      obtain ⟨L,hL⟩:=Zdj hsz hcalm
      exact any_calm ho he (Region.noSelect_spec hs) (fun c a w=>hQ c a _ _ w ⟨_,Array.mem_of_getElem? ho,rfl⟩) l.length listed a hL (Region.free_spec ho hf) hr' (.inl ⟨hwt,fun w' e=>by subst e;exact h1⟩) (ih _ _ hw h2)
     | 1,_,h =>
      obtain ⟨v,h1,h2⟩:=h
      exact any_first ho he (Region.noSelect_spec hs) (fun c a w=>hQ c a _ _ w ⟨_,Array.mem_of_getElem? ho,rfl⟩) l.length listed a w hw (Region.free_spec ho hf) hr' (.inl ⟨hwt,h1⟩) (ih _ _ hw h2)
     | (n+2),hc2,_=>exact absurd hc2 om_
    ·have hwt':Region.wanted o (yielded ops a.tmps)=false:=by simpa using hwt
     simp only [hwt',Bool.false_eq_true,if_false] at h
     exact any_first ho he (Region.noSelect_spec hs) (fun c a w=>hQ c a _ _ w ⟨_,Array.mem_of_getElem? ho,rfl⟩) l.length listed a w hw (Region.free_spec ho hf) hr' (.inr ⟨hwt',rfl⟩) (ih _ _ hw h)
theorem any_of_walk (hs:Region.noSelect ops=true) (hQ:∀ c a d v w,Q (.panic c) (a.put d v) w→Q (.panic c) a w) (l:List (Nat × Nat)) (listed:Array Bool) (a:Act) (w:World) (hl:listed.size=ops.size) (hw:H w) (hp:plan ops eff l listed=true) (h:walk P ops H Q l a w):any P ops eff H Q l.length listed a w :=
 Zfj hs (fun c a d v w _=>hQ c a d v w) l listed a w hl hw hp h
theorem wp_region {id:Nat}{a:Act}{w:World}{lo:List Oper}(l:List (Nat × Nat)) (H:World→Prop) (hm:P.follows .mixedOrders=true) (hp:planOk lo.toArray l=true)
  (hQ:∀ c a d v w,Q (.panic c) (a.put d v) w→Q (.panic c) a w) (hH:H w.drew) (h:walk P lo.toArray H Q l a w.drew):(Code.region id lo.toArray true).wp P Q a w:=by
 simp only [planOk,Bool.and_eq_true,beq_iff_eq] at hp
 obtain ⟨⟨hs,hl⟩,hp⟩:=hp
 refine wp_region_any hm (wpAny_of_any (H:=H) (eff:=fun i=>l.any fun (k,c)=>k == i && c == 2) _ _ _ _ ?_)
 have h2:=any_of_walk (H:=H) (eff:=fun i=>l.any fun (k,c)=>k == i && c == 2) hs hQ l (Array.replicate lo.toArray.size false) a _ sp_ hH hp h
 rw [hl] at h2
 exact h2
theorem Zyx {id:Nat}{a:Act}{w:World}{lo:List Oper}(l:List (Nat × Nat)) (H:World→Prop) (hm:P.follows .mixedOrders=true) (hp:planOk lo.toArray l=true)
  (hQ:∀ c a d v w,(∃ o,o∈lo.toArray∧o.dst=d)→Q (.panic c) (a.put d v) w→Q (.panic c) a w) (hH:H w.drew) (h:walk P lo.toArray H Q l a w.drew):(Code.region id lo.toArray true).wp P Q a w:=by
 simp only [planOk,Bool.and_eq_true,beq_iff_eq] at hp
 obtain ⟨⟨hs,hl⟩,hp⟩:=hp
 refine wp_region_any hm (wpAny_of_any (H:=H) (eff:=fun i=>l.any fun (k,c)=>k == i && c == 2) _ _ _ _ ?_)
 have h2:=Zfj (H:=H) (eff:=fun i=>l.any fun (k,c)=>k == i && c == 2) hs hQ l (Array.replicate lo.toArray.size false) a _ sp_ hH hp h
 rw [hl] at h2
 exact h2
section
variable {k:Nat}{l:List (Nat × Nat)}{a:Act}{w:World}{o:Oper}{lo:List Oper}
theorem Zie (ho:lo[k]? = some o):lo.toArray[k]? = some o:=by simpa using ho
def Zwi:Op→Bool
 | .move _ | .assign _ | .pick .. | .build .. | .load .. | .nilCheck _ | .binOp .. | .unOp .. | .convert .. | .makeInterface ..
 | .makeFunc .. | .slice .. | .fieldAddr .. | .field .. | .indexAddr .. | .index .. | .lookup .. | .typeAssert .. | .extract ..=>true
 | .call { callee:=.builtin b,.. }=>match b with | .len | .cap | .min | .max=>true|_=>false
 | _=>false
theorem run_v {s:Sem Value}{n:Next}{w w':World}(h:(do pure (Next.value (← s)):Sem Next).run P w=.ok n w'):∃ v,n=.value v:=by
 rw [Sem.run_bind] at h
 cases hs:s.run P w with
 | ok v w1=>rw [hs] at h;simp only [Result.andThen] at h;exact ⟨v,by cases h;rfl⟩
 | halt x w1=>rw [hs] at h;simp only [Result.andThen] at h;cases h
theorem Zhp {α:Type}{s:Sem α}{f:α→Sem Next}(hf:∀ a w n w',(f a).run P w=.ok n w'→∃ v,n=.value v):∀ w n w',(s >>= f).run P w=.ok n w'→∃ v,n=.value v:=by
 intro w n w' h
 rw [Sem.run_bind] at h
 cases hs:s.run P w with
 | ok v w1=>rw [hs] at h;exact hf _ _ _ _ h
 | halt x w1=>rw [hs] at h;simp only [Result.andThen] at h;cases h
theorem Zto {ρ:Operand→Value}(hr:Zwi o.op=true) {n:Next}{w':World}(h:(execOp ρ o).run P w=.ok n w'):∃ v,n=.value v:=by
 obtain ⟨dst,op,type,pos,after,guard⟩:=o
 cases op <;> simp only [Zwi] at hr <;> simp only [execOp] at h <;> first
  | exact run_v h
  | (cases hr;done)
  | skip
 case move x=>exact ⟨_,by cases h;rfl⟩
 case assign x=>exact ⟨_,by cases h;rfl⟩
 case pick c a b =>
  rw [Sem.run_bind] at h
  cases hs:(asBool (ρ c)).run P w with
  | ok v w1=>rw [hs] at h;simp only [Result.andThen] at h;exact ⟨_,by cases h;rfl⟩
  | halt x w1=>rw [hs] at h;simp only [Result.andThen] at h;cases h
 case nilCheck x =>
  split at h
  ·cases h
  ·cases h
  ·cases h
  ·split at h
   ·cases h
   ·revert h
    refine Zhp (fun a w n w'=>?_) _ _ _
    refine Zhp (fun a w n w'=>?_) _ _ _
    split
    ·exact Zhp (fun a w n w' h=>⟨_,by cases h;rfl⟩) _ _ _
    ·exact fun h=>⟨_,by cases h;rfl⟩
   ·exact ⟨_,by cases h;rfl⟩
  ·exact ⟨_,by cases h;rfl⟩
 case call c =>
  obtain ⟨callee,args,argTypes⟩:=c
  cases callee with
  | builtin b =>
   cases b <;> simp only at hr <;> first
    | (cases hr;done)
    | (simp only [resolve,invoke,builtin] at h;exact run_v h)
  | _=>cases hr
theorem Zyi (ho:lo[k]? = some o) (hr:Zwi o.op=true)
  (h:∀ K:Act→World→Prop,(∀ a,walk P lo.toArray H Q l a w→K a w)→wpList P lo.toArray (Exit.then K (fun _ _ _=>False)) [o] a w):walk P lo.toArray H Q ((k,0) :: l) a w:=by
 have:=h (fun a' w'=>w'=w∧walk P lo.toArray H Q l a' w) (fun _ h=>⟨rfl,h⟩)
 rw [walk];simp only [Zie ho]
 simp only [wpList] at this
 split
 ·rename_i hw
  rw [if_pos hw] at this
  rcases this with h1 | ⟨_,_,_,h1⟩
  ·unfold Oper.wp at h1
   unfold Zyr
   generalize hrun:(execOp a.eval o).run P w=r at h1
   cases r with
   | ok n w' =>
    obtain ⟨v,rfl⟩:=Zto hr hrun
    simp only [Oper.upon,Exit.then] at h1
    obtain ⟨rfl,h2⟩:=h1
    exact ⟨v,⟨rfl,rfl⟩,h2⟩
   | halt x w'=>cases x <;> simp only [Oper.upon,Exit.then] at h1
  ·exact h1.elim
 ·rename_i hw
  rw [if_neg hw] at this
  exact this.2
def next (P:Program) (ops:Array Oper) (H:World→Prop) (Q:Exit→Act→World→Prop) (l:List (Nat × Nat)) (a:Act) (w:World):Prop:=H w∧walk P ops H Q l a w
theorem Zyf (h1:H w) (h2:H w→walk P ops H Q l a w):next P ops H Q l a w:=⟨h1,h2 h1⟩
theorem Zyh (ho:lo[k]? = some o) (hw:H w)
  (h:∀ K:Act→World→Prop,(∀ a w,next P lo.toArray H Q l a w→K a w)→wpList P lo.toArray (Exit.then K Q) [o] a w):walk P lo.toArray H Q ((k,2) :: l) a w:=by
 have:=h (fun a w=>H w∧walk P lo.toArray H Q l a w) (fun _ _ h1=>h1)
 rw [walk];simp only [Zie ho]
 simp only [wpList] at this
 split
 ·rename_i hh;rw [if_pos hh] at this
  refine this.imp (fun h=>?_) (fun h=>⟨h.1,h.2⟩)
  unfold Oper.wp at *
  generalize (execOp a.eval o).run P w=r at *
  cases r with
  | ok n w' =>
   cases n <;> simp only [Oper.upon,Exit.then] at h ⊢ <;> first
    | exact h
    | exact Calls.mono h (fun e w'' he=>by cases e <;> exact he)
  | halt x w'=>cases x <;> simp only [Oper.upon,Exit.then] at h ⊢ <;> exact h
 ·rename_i hh;rw [if_neg hh] at this;exact this.2
theorem Zyt (ho:lo[k]? = some o) (v:Value) (hv:∀ W,H W→Zyr P o a W v)
  (h:∀ K:Act→World→Prop,(∀ a,walk P lo.toArray H Q l a w→K a w)→wpList P lo.toArray (Exit.then K (fun _ _ _=>False)) [{ o with op:=.move (.const v) }] a w):walk P lo.toArray H Q ((k,1) :: l) a w:=by
 have:=h (fun a' w'=>w'=w∧walk P lo.toArray H Q l a' w) (fun _ h=>⟨rfl,h⟩)
 rw [walk];simp only [Zie ho]
 simp only [wpList] at this
 have hwt:Region.wanted { o with op:=.move (.const v) } (yielded lo.toArray a.tmps)=Region.wanted o (yielded lo.toArray a.tmps):=rfl
 rw [hwt] at this
 split
 ·rename_i hw
  rw [if_pos hw] at this
  rcases this with h1 | ⟨_,_,_,h1⟩
  ·exact ⟨v,hv,h1.2⟩
  ·exact h1.elim
 ·rename_i hw
  rw [if_neg hw] at this
  exact this.2
theorem Zkt {s:Sem Value}{o:Oper}{a:Act}{w:World}{v:Value}(he:execOp a.eval o=(do pure (Next.value (← s)):Sem Next)) (hr:s.run P w=.ok v w):Zyr P o a w v:=by
 unfold Zyr
 rw [he,Sem.run_bind,hr]
 exact ⟨rfl,rfl⟩
section
variable {d:Option Tmp}{ty:TypeId}{pos:String}{af:Array Edge}{g:Option (Nat × Bool)}{v:Value}{x y:Operand}{ad ad':Addr}{t:TypeId}{f:Nat}{vx vy:Value}
theorem Zym (ho:lo[k]? = some ⟨d,.move x,ty,pos,af,g⟩) (hx:a.eval x=v)
  (h:∀ K:Act→World→Prop,(∀ a,walk P lo.toArray H Q l a w→K a w)→wpList P lo.toArray (Exit.then K (fun _ _ _=>False)) [⟨d,.move (.const v),ty,pos,af,g⟩] a w):walk P lo.toArray H Q ((k,1) :: l) a w :=
 Zyt ho v (fun W _=>⟨rfl,hx⟩) h
theorem Zyl (ho:lo[k]? = some ⟨d,.fieldAddr t x f,ty,pos,af,g⟩) (hx:a.eval x=.pointer (some ad)) (hr:∀ W,(Instr.fieldAt t (.pointer (some ad)) f).run P W=.ok v W)
  (h:∀ K:Act→World→Prop,(∀ a,walk P lo.toArray H Q l a w→K a w)→wpList P lo.toArray (Exit.then K (fun _ _ _=>False)) [⟨d,.move (.const v),ty,pos,af,g⟩] a w):walk P lo.toArray H Q ((k,1) :: l) a w :=
 Zyt ho v (fun W _=>Zkt (s:=Instr.fieldAt t (.pointer (some ad)) f) (by rw [← hx];rfl) (hr W)) h
theorem Zrh {fn:FuncId}{args:List Operand}{ts:Array TypeId}{W:World}{v:Value}(hr:∀ W,(callFunc fn (args.map a.eval).toArray).run P W=.ok (.enter fn (args.map a.eval).toArray) W)
  (hc:Calls P fn (args.map a.eval).toArray W (fun e w''=>e=.returned v∧W=w'')):Zyr P ⟨d,.call { callee:=.value (.func fn),args:=args.toArray,argTypes:=ts },ty,pos,af,g⟩ a W v:=by
 unfold Zyr
 have:(execOp a.eval ⟨d,.call { callee:=.value (.func fn),args:=args.toArray,argTypes:=ts },ty,pos,af,g⟩).run P W=.ok (.enter fn (args.map a.eval).toArray) W:=by
  have hx:args.toArray.map a.eval=(args.map a.eval).toArray:=by simp
  simp only [execOp,resolve,hx,Act.eval,Deferred.ofValue]
  rw [Sem.run_bind]
  simp only [Sem.run_pure,Result.andThen,invoke]
  simpa using hr W
 rw [this]
 exact ⟨rfl,hc⟩
theorem Zyv {fn:FuncId}{args:List Operand}{ts:Array TypeId}{v:Value}(ho:lo[k]? = some ⟨d,.call { callee:=.value (.func fn),args:=args.toArray,argTypes:=ts },ty,pos,af,g⟩)
  (hr:∀ W,(callFunc fn (args.map a.eval).toArray).run P W=.ok (.enter fn (args.map a.eval).toArray) W) (hc:Calls P fn (args.map a.eval).toArray w (fun e w''=>e=.returned v∧w=w''))
  (h:∀ K:Act→World→Prop,(∀ a,walk P lo.toArray H Q l a w→K a w)→wpList P lo.toArray (Exit.then K (fun _ _ _=>False)) [⟨d,.move (.const v),ty,pos,af,g⟩] a w):walk P lo.toArray H Q ((k,0) :: l) a w:=by
 have:=h (fun a' w'=>w'=w∧walk P lo.toArray H Q l a' w) (fun _ h=>⟨rfl,h⟩)
 rw [walk];simp only [Zie ho]
 simp only [wpList] at this
 have hwt:Region.wanted ⟨d,.call { callee:=.value (.func fn),args:=args.toArray,argTypes:=ts },ty,pos,af,g⟩ (yielded lo.toArray a.tmps)=Region.wanted ⟨d,.move (.const v),ty,pos,af,g⟩ (yielded lo.toArray a.tmps):=rfl
 rw [hwt]
 split
 ·rename_i hw
  rw [if_pos hw] at this
  rcases this with h1 | ⟨_,_,_,h1⟩
  ·exact ⟨v,Zrh hr hc,h1.2⟩
  ·exact h1.elim
 ·rename_i hw
  rw [if_neg hw] at this
  exact this.2
theorem Zyk {o:Oper}(ho:lo[k]? = some o) (hw:Region.wanted o (yielded lo.toArray a.tmps)=false)
  (h:∀ K:Act→World→Prop,(∀ a,walk P lo.toArray H Q l a w→K a w)→wpList P lo.toArray (Exit.then K (fun _ _ _=>False)) [{ o with op:=.move (.const undef) }] a w):walk P lo.toArray H Q ((k,0) :: l) a w:=by
 have:=h (fun a' w'=>w'=w∧walk P lo.toArray H Q l a' w) (fun _ h=>⟨rfl,h⟩)
 rw [walk];simp only [Zie ho,hw,Bool.false_eq_true,if_false]
 simp only [wpList] at this
 have hwt:Region.wanted { o with op:=.move (.const undef) } (yielded lo.toArray a.tmps)=Region.wanted o (yielded lo.toArray a.tmps):=rfl
 rw [hwt,hw] at this
 exact this.2
theorem Zyn (ho:lo[k]? = some ⟨d,.nilCheck x,ty,pos,af,g⟩) (hx:a.eval x=.pointer (some ad))
  (h:∀ K:Act→World→Prop,(∀ a,walk P lo.toArray H Q l a w→K a w)→wpList P lo.toArray (Exit.then K (fun _ _ _=>False)) [⟨d,.move (.const (.pointer (some ad))),ty,pos,af,g⟩] a w):walk P lo.toArray H Q ((k,1) :: l) a w :=
 Zyt ho _ (fun W _=>by unfold Zyr;simp only [execOp,hx];exact ⟨rfl,rfl⟩) h
theorem Zyq (v:Value) (ho:lo[k]? = some ⟨d,.load t x,ty,pos,af,g⟩) (hx:a.eval x=.pointer (some ad)) (hr:∀ W,H W→(loadVar t ad).run P W=.ok v W)
  (h:∀ K:Act→World→Prop,(∀ a,walk P lo.toArray H Q l a w→K a w)→wpList P lo.toArray (Exit.then K (fun _ _ _=>False)) [⟨d,.move (.const v),ty,pos,af,g⟩] a w):walk P lo.toArray H Q ((k,1) :: l) a w :=
 Zyt ho v (fun W hW=>Zkt (s:=Instr.loadAt t (.pointer (some ad))) (by rw [← hx];rfl) (hr W hW)) h
end
theorem Zyg (h:walk P lo.toArray H Q ((k,0) :: l) a w):walk P lo.toArray H Q ((k,0) :: l) a w:=h
theorem Zye (h:walk P lo.toArray H Q ((k,1) :: l) a w):walk P lo.toArray H Q ((k,1) :: l) a w:=h
theorem Zyj (h:Q .normal a w):walk P lo.toArray H Q [] a w:=h
end
attribute [go_sem] Zyr Zys
end Go.Ord
namespace Go
@[go_sem low] theorem World.cell?_alloc_ite (w:World) (c:Array Value) (t:TypeId) (b i:Nat):(w.alloc (.cells c t)).cell? ⟨b,i,none⟩=if b=w.heap.size then c[i]? else w.cell? ⟨b,i,none⟩:=by
 split
 ·rename_i h;subst h;exact World.cell?_alloc_new w c t i
 ·rename_i h;exact World.cell?_alloc_old w _ ⟨b,i,none⟩ h
@[go_sem low] theorem World.frozen?_alloc_ite (w:World) (c:Array Value) (t:TypeId) (b i:Nat):(w.alloc (.cells c t)).frozen? ⟨b,i,none⟩=if b=w.heap.size then false else w.frozen? ⟨b,i,none⟩:=by
 split
 ·rename_i h;subst h;exact World.frozen?_alloc_new w c t i
 ·rename_i h;exact World.frozen?_alloc_old w _ ⟨b,i,none⟩ h
end Go
namespace Go.Proofs.YtbapgefodmmikaaGreatDoor
open Go.RowKit Go.Proofs Go.Ord Tryz
theorem Zd3 {a b:Bool}(h:a=b):Ending.returned (.bool a)=.returned (.bool b):=by rw [h]
theorem Zdv {k:IntKind}{a b:Int}(h:a=b):Ending.returned (.int k a)=.returned (.int k b):=by rw [h]
def Same (v:Value) (w:World) (e:Ending) (w':World):Prop:=e=.returned v∧w=w'
def Zak (v:Value) (w:World) (e:Ending) (w':World):Prop:=e=.returned v∧w w'
def cellX (w:World) (b o:Nat):Option Value:=w.cell? ⟨b,o,none⟩
def Zra (w:World) (b o:Nat):Bool:=w.frozen? ⟨b,o,none⟩
theorem _root_.Q1z {p:Prop}(h:p:=by
 subst hn
 refine ⟨fun b o=>?_,fun b o=>?_,hb.size⟩
 ·split
  ·exact hb.cell (p:=⟨b,o,none⟩) as_
  ·rfl
 ·split
  ·exact hb.frozen (p:=⟨b,o,none⟩) as_
  ·rfl):p:=h
theorem after {W w':World}{n:Nat}(hb:W w') (hn:W.heap.size=n) :
  (∀ b o,w'.cell? ⟨b,o,none⟩=if b < n then W.cell? ⟨b,o,none⟩ else cellX w' b o) ∧
  (∀ b o,w'.frozen? ⟨b,o,none⟩=if b < n then W.frozen? ⟨b,o,none⟩ else Zra w' b o)∧n≤w'.heap.size:=Q1z
theorem Zbe {W w':World}{n m:Nat}(hb:Below n W w') (hn:W.heap.size=m) :
  (∀ b o,w'.cell? ⟨b,o,none⟩=if b < n then W.cell? ⟨b,o,none⟩ else cellX w' b o) ∧
  (∀ b o,w'.frozen? ⟨b,o,none⟩=if b < n then W.frozen? ⟨b,o,none⟩ else Zra w' b o)∧m≤w'.heap.size:=Q1z
def inB (n lo hi:Int):Bool:=decide (lo≤n∧n≤hi)
def Zon (lo hi high:Int):Bool:=decide (0≤lo∧lo≤hi∧hi≤high)
def hasB (s n:Nat):Bool:=s / 2 ^ n % 2 == 1
def szN:Nat→Nat→Nat
 | 0,_=>0
 | f+1,s=>s % 2+szN f (s / 2)
def sz (s:Nat):Nat:=szN 62 s
theorem szN_le (f s:Nat):szN f s≤f:=by
 induction f generalizing s with
 | zero=>simp [szN]
 | succ f ih=>have:=ih (s / 2);simp only [szN];omega
structure Bn where
 V:Int
 nd:Int
 lo:Int
 hi:Int
 gs:List (Int × Int × Int)
 ps:List (Int × Int × Bool)
abbrev bv (b:Bn) (ga:Option Addr) (gc:Nat) (pa:Option Addr) (pc:Nat):Value :=
 .agg #[b.V,b.nd,b.lo,b.hi,.slice ga b.gs.length gc,.slice pa b.ps.length pc]
def GsAt (w:World) (ga:Option Addr) (gs:List (Int × Int × Int)):Prop :=
 ∀ i,(h:i < gs.length)→∃ gb go,ga=some ⟨gb,go,none⟩∧w.cell? ⟨gb,go+i * 3,none⟩=some (.int .i64 gs[i].1) ∧
  w.cell? ⟨gb,go+i * 3+1,none⟩=some (.int .i64 gs[i].2.1)∧w.cell? ⟨gb,go+i * 3+2,none⟩=some (.int .i64 gs[i].2.2)
def PsAt (w:World) (ga:Option Addr) (gs:List (Int × Int × Bool)):Prop :=
 ∀ i,(h:i < gs.length)→∃ gb go,ga=some ⟨gb,go,none⟩∧w.cell? ⟨gb,go+i * 3,none⟩=some (.int .i64 gs[i].1) ∧
  w.cell? ⟨gb,go+i * 3+1,none⟩=some (.int .i64 gs[i].2.1)∧w.cell? ⟨gb,go+i * 3+2,none⟩=some (.bool gs[i].2.2)
theorem Za4 {w w':World}{a:Addr}{v:Value}(hb:w w') (h:w.cell? a=some v):w'.cell? a=some v :=
 (hb.cell (bl_ w _ h)).trans h
theorem GsAt.below {w w':World}{ga:Option Addr}{gs:List (Int × Int × Int)}(h:GsAt w ga gs) (hb:w w'):GsAt w' ga gs:=fun i hi =>
 let ⟨gb,go,h0,h1,h2,h3⟩:=h i hi
 ⟨gb,go,h0,Za4 hb h1,Za4 hb h2,Za4 hb h3⟩
theorem PsAt.below {w w':World}{ga:Option Addr}{gs:List (Int × Int × Bool)}(h:PsAt w ga gs) (hb:w w'):PsAt w' ga gs:=fun i hi =>
 let ⟨gb,go,h0,h1,h2,h3⟩:=h i hi
 ⟨gb,go,h0,Za4 hb h1,Za4 hb h2,Za4 hb h3⟩
theorem Zcf (n lo hi:Int) (w:World) :
  Calls prog 190 #[n,lo,hi] w (Same (.bool (inB n lo hi)) w):=by
 go_enter func190,ntmps190
 go_wp2
 all_goals go_ret
 all_goals (refine ⟨Zd3 ?_,rfl⟩;simp [inB];try omega)
def Zfy (e:Int):Value:=.iface 228 (.agg #[e])
def Zy8 (e:Int) (w:World) (x:Ending) (w':World):Prop:=x=.panicked [{ v:=Zfy e,recovered:=false }]∧w w'
def StopsS (e:Int) (w:World) (x:Ending) (w':World):Prop:=x=.panicked [{ v:=Zfy e,recovered:=false }]∧w=w'
theorem Zib (e:Int) (w:World) :
  Calls prog 102 #[.bool true,e] w (Same (.tuple #[]) w):=by
 go_enter func102,ntmps102
 go_wp2
 go_end0
 exact ⟨rfl,rfl⟩
theorem Zcg (e:Int) (w:World) :
  Calls prog 102 #[.bool false,e] w (StopsS e w):=by
 go_enter func102,ntmps102
 go_wp2
 exact ⟨rfl,rfl,rfl⟩
theorem Zch (v:Value) (w:World) :
  Calls prog 84 #[v] w (Same (.bool true) w):=by
 go_enter func84,ntmps84
 go_wp2
 go_ret
 exact ⟨rfl,rfl⟩
def grI (n all:Int):Int:=if n=all then 2 else if n=0 then 0 else 1
theorem Zj6 (x y:Int) (w:World) :
  Calls prog 91 #[x,y] w (Same ↑(grI x y) w):=by
 have HG:Hid (grI x y=if x=y then 2 else if x=0 then 0 else 1):=rfl
 generalize grI x y=g at *
 go_enter func91,ntmps91
 go_wp2
 all_goals go_ret
 all_goals (refine ⟨Zdv ?_,rfl⟩;rw [HG.out];simp only [beq_iff_eq,Bool.not_eq_true,beq_eq_false_iff_ne] at *)
 all_goals (first|(rw [if_pos om_];done)|(rw [if_neg om_,if_pos om_];done)|(rw [if_neg om_,if_neg om_];done)|skip)
structure VoteAt (w:World) (v:Nat) (b:Bn) (ga:Option Addr) (gc:Nat) (pa:Option Addr) (pc:Nat) (ka:Option Addr) (kl kc:Nat):Prop where
 c0:w.cell? ⟨v,0,none⟩=some (.int .i64 b.V)
 c1:w.cell? ⟨v,1,none⟩=some (.int .i64 b.nd)
 c2:w.cell? ⟨v,2,none⟩=some (.int .i64 b.lo)
 c3:w.cell? ⟨v,3,none⟩=some (.int .i64 b.hi)
 c4:w.cell? ⟨v,4,none⟩=some (.slice ga b.gs.length gc)
 c5:w.cell? ⟨v,5,none⟩=some (.slice pa b.ps.length pc)
 c6:w.cell? ⟨v,6,none⟩=some (.slice ka kl kc)
theorem VoteAt.below {w w':World}{v:Nat}{b:Bn}{ga:Option Addr}{gc:Nat}{pa:Option Addr}{pc:Nat}{ka:Option Addr}{kl kc:Nat}(h:VoteAt w v b ga gc pa pc ka kl kc) (hb:w w'):VoteAt w' v b ga gc pa pc ka kl kc :=
 ⟨Za4 hb h.c0,Za4 hb h.c1,Za4 hb h.c2,Za4 hb h.c3,Za4 hb h.c4,Za4 hb h.c5,Za4 hb h.c6⟩
theorem _root_.Q2w {p:Prop}(h:p:=by
 go_wp2_with (go_at_call 190;refine (Zcf _ _ _ _).mono ?_;rintro e w' ⟨rfl,rfl⟩)
 go_ret
 exact ⟨rfl,rfl⟩):p:=h
theorem Zq1 (v:Nat) (V n:Int) (w:World) (h:w.cell? ⟨v,0,none⟩=some (.int .i64 V)) :
  Calls prog 89 #[.pointer v,n] w (Same (.bool (inB n 0 (wrap64 (V - 1)))) w):=by
 go_enter func89,ntmps89
 exact Q2w
theorem Zid (v:Nat) (V n:Int) (w:World) (h:w.cell? ⟨v,0,none⟩=some (.int .i64 V)) :
  Calls prog 101 #[.pointer v,n] w (Same (.bool (inB n 0 V)) w):=by
 go_enter func101,ntmps101
 exact Q2w
theorem b_every (v:Nat) (w:World) (ka:Option Addr) (kl kc:Nat) (hk:kl≤8) (h:w.cell? ⟨v,6,none⟩=some (.slice ka kl kc)) :
  Calls prog 93 #[.pointer v] w (Same (.int .u64 ((2 ^ kl - 1:Nat):Int)) w):=by
 go_enter func93,ntmps93
 go_wp2
 go_ret
 refine ⟨Zdv ?_,rfl⟩
 rcases (show kl=0∨kl=1∨kl=2∨kl=3∨kl=4∨kl=5∨kl=6∨kl=7∨kl=8 by omega) with rfl|rfl|rfl|rfl|rfl|rfl|rfl|rfl|rfl <;> rfl
theorem Zj5 (lo hi high:Int) (w:World) :
  Calls prog 189 #[.agg #[lo,hi],high] w (Zak (.bool (Zon lo hi high)) w):=by
 go_enter func189,ntmps189
 go_wp2
 all_goals go_ret
 all_goals (refine ⟨Zd3 ?_,br_.alloc nl_ _⟩;simp [Zon, *];try omega)
theorem b_gfits (vo lo hi n:Int) (w:World) :
  Calls prog 263 #[.agg #[.int .u64 vo,lo,hi],n] w (Zak (.bool (inB n lo hi)) w):=by
 go_enter func263,ntmps263
 go_wp2_with (go_at_call 190;refine (Zcf _ _ _ _).mono ?_;rintro e w' ⟨rfl,rfl⟩)
 go_ret
 exact ⟨rfl,br_.alloc nl_ _⟩
end Go.Proofs.YtbapgefodmmikaaGreatDoor
