/- Parts of a proof. -/
import Derived.Test.YtbapgefodmmikaaGreatDoorKMin
import Derived.Test.YtbapgefodmmikaaGreatDoorK14
import Derived.RangeFuncNested
set_option linter.unusedVariables false
set_option linter.unusedSimpArgs false
set_option maxHeartbeats 40000000
set_option maxRecDepth 100000
namespace Go.Proofs.YtbapgefodmmikaaGreatDoor
open Go.RowKit Go.Proofs Go.Ord Tryz
attribute [local irreducible] Ord.walk
def RowsAt {α:Type}(w:World) (a:Option Addr) (n:Nat) (f:α→List Value) (l:List α):Prop :=
 ∀ i,(h:i < l.length)→∃ gb go,a=some ⟨gb,go,none⟩∧∀ j u,(f l[i])[j]? = some u→w.cell? ⟨gb,go+i * n+j,none⟩=some u
theorem RowsAt.below {α:Type}{w w':World}{a:Option Addr}{n:Nat}{f:α→List Value}{l:List α}(h:RowsAt w a n f l) (hb:w w'):RowsAt w' a n f l:=fun i hi =>
 let ⟨gb,go,h0,h1⟩:=h i hi
 ⟨gb,go,h0,fun j u hj=>Za4 hb (h1 j u hj)⟩
theorem rows_nil {α:Type}{n:Nat}{f:α→List Value}{w:World}(a:Option Addr):RowsAt w a n f ([]:List α):=fun i hi=>absurd hi sp_
theorem Zbn {P:Program}{t:TypeId}{z:Value}{s b:Nat}(h:(P.info? t).map (fun i=>(i.zero,i.size,i.bytes))=some (some z,s,b)):∃ i,P.info? t=some i∧i.zero=some z∧i.size=s∧i.bytes=b:=by
 cases hi:P.info? t with
 | none=>rw [hi] at h;cases h
 | some i =>
  rw [hi] at h
  simp only [Option.map_some,Option.some.injEq,Prod.mk.injEq] at h
  exact ⟨i,rfl,h.1,h.2.1,h.2.2⟩
theorem Zh0 {α:Type}{n:Nat}(f:α→List Value) (hf:∀ a,(f a).length=n):∀ (l:List α) (i:Nat) (h:i < l.length) (j:Nat),j < n→(l.flatMap f)[i * n+j]? = (f l[i])[j]?
 | [],i,h,j,hj=>absurd h sp_
 | a :: l,0,h,j,hj=>by
  rw [List.flatMap_cons,List.getElem?_append_left (by rw [hf];omega)];simp
 | a :: l,i+1,h,j,hj=>by
  rw [List.flatMap_cons,List.getElem?_append_right (by rw [hf,Nat.add_mul];omega),hf,show (i+1) * n+j - n=i * n+j by rw [Nat.add_mul];omega]
  exact Zh0 f hf l i (by simpa using h) j hj
theorem Zc8 {α:Type}{n:Nat}{f:α→List Value}(hf:∀ a,(f a).length=n) {w:World}{base:Nat}{e:TypeId}{v:Value}{l:List α}(h:w.ownsRow base e n v l.length (l.flatMap f)):∃ a c,v=.slice a l.length c∧RowsAt w a n f l:=by
 obtain ⟨hl,⟨rfl,h0⟩ | ⟨g,cap,cur,rfl,hg,hh,hn,hc,hs,ht⟩⟩:=h
 ·have:l=[]:=List.length_eq_zero_iff.1 h0
  subst this
  exact ⟨none,0,rfl,rows_nil none⟩
 ·refine ⟨_,cap,rfl,fun i hi=>⟨g,0,rfl,fun j u hj=>?_⟩⟩
  have hjn:j < n:=by
   by_cases hlt:j < n
   ·exact hlt
   ·rw [List.getElem?_eq_none (by rw [hf];omega)] at hj;cases hj
  have hlt:i * n+j < l.length * n:=by
   have:=Nat.mul_le_mul_right n (show i+1≤l.length from hi)
   rw [Nat.add_mul] at this
   omega
  rw [Nat.zero_add,cell_of_row w g _ cur e (0,0) hh]
  have h3:=Zh0 f hf l i hi j hjn
  rw [← ht,List.getElem?_take,if_pos hlt] at h3
  rw [← Array.getElem?_toList,h3]
  exact hj
section
variable {α:Type}{n:Nat}{f:α→List Value}
theorem Zar (hf:∀ a,(f a).length=n):∀ l:List α,(l.flatMap f).length=l.length * n
 | []=>by simp
 | a :: l=>by rw [List.flatMap_cons,List.length_append,Zar hf l,hf,List.length_cons,Nat.add_mul];omega
theorem Zmz (hf:∀ a,(f a).length=n):∀ (l:List α) (i j:Nat) (x:α) (v:Value),(h:i < l.length)→j < n→f x=(f l[i]).set j v→(l.flatMap f).set (i * n+j) v=(l.set i x).flatMap f
 | [],i,j,x,v,h,_,_=>absurd h sp_
 | a :: l,0,j,x,v,h,hj,e=>by
  simp only [List.getElem_cons_zero] at e
  rw [List.set_cons_zero,List.flatMap_cons,List.flatMap_cons,Nat.zero_mul,Nat.zero_add,List.set_append_left _ _ (by rw [hf];exact hj),e]
 | a :: l,i+1,j,x,v,h,hj,e=>by
  rw [List.set_cons_succ,List.flatMap_cons,List.flatMap_cons,List.set_append_right _ _ (by rw [hf,Nat.add_mul];omega),hf,show (i+1) * n+j - n=i * n+j by rw [Nat.add_mul];omega]
  rw [Zmz hf l i j x v (by simpa using h) hj (by simpa using e)]
def RB (w:World) (g:Nat) (t:TypeId) (n:Nat) (f:α→List Value) (l:List α):Prop:=∃ cur,Blk w g cur t∧cur.toList.take (l.length * n)=l.flatMap f
theorem RB.lt {w:World}{g:Nat}{t:TypeId}{l:List α}(h:RB w g t n f l):g < w.heap.size:=let ⟨_,h1,_⟩:=h;h1.lt
theorem RB.rows (hf:∀ a,(f a).length=n) {w:World}{g:Nat}{t:TypeId}{l:List α}(h:RB w g t n f l):RowsAt w g n f l:=by
 obtain ⟨cur,hb,ht⟩:=h
 refine fun i hi=>⟨g,0,rfl,fun j u hj=>?_⟩
 have hjn:j < n:=by
  by_cases hlt:j < n
  ·exact hlt
  ·rw [List.getElem?_eq_none (by rw [hf];omega)] at hj;cases hj
 have hlt:i * n+j < l.length * n:=by
  have:=Nat.mul_le_mul_right n (show i+1≤l.length from hi)
  rw [Nat.add_mul] at this
  omega
 have h3:=Zh0 f hf l i hi j hjn
 rw [Nat.zero_add,hb.cell,← Array.getElem?_toList]
 rw [← ht,List.getElem?_take,if_pos hlt] at h3
 rw [h3]
 exact hj
theorem RB.set (hf:∀ a,(f a).length=n) {w:World}{g:Nat}{t:TypeId}{l:List α}(h:RB w g t n f l) {i j:Nat}{x:α}{v:Value}(hi:i < l.length) (hj:j < n) (e:f x=(f l[i]).set j v) {q:Nat}(hq:q=i * n+j):RB (w.setCell ⟨g,q,none⟩ v) g t n f (l.set i x):=by
 obtain ⟨cur,hb,ht⟩:=h
 subst hq
 refine ⟨_,hb.set _ _,?_⟩
 rw [Array.toList_setIfInBounds,List.length_set,List.take_set,ht]
 exact Zmz hf l i j x v hi hj e
theorem RB.free {w:World}{g:Nat}{t:TypeId}{l:List α}(h:RB w g t n f l) (i:Nat):w.frozen? ⟨g,i,none⟩=false:=let ⟨_,h1,_⟩:=h;h1.free i
theorem RowsAt.src (hf:∀ a,(f a).length=n) (hn:0 < n) {w:World}{a:Option Addr}{l:List α}(h:RowsAt w a n f l) (c:Nat):SrcAt w (.slice a l.length c) l.length n (l.flatMap f):=by
 refine ⟨Zar hf l,?_⟩
 cases a with
 | none =>
  left
  refine ⟨c,rfl,?_⟩
  cases l with
  | nil=>rfl
  | cons x l=>obtain ⟨gb,go,e,_⟩:=h 0 sp_;cases e
 | some ad =>
  right
  refine ⟨ad,c,rfl,fun j u hj=>?_⟩
  have hjl:j < (l.flatMap f).length:=(List.getElem?_eq_some_iff.1 hj).1
  rw [Zar hf] at hjl
  have hi:j / n < l.length:=Nat.div_lt_of_lt_mul (by rw [Nat.mul_comm];exact hjl)
  obtain ⟨gb,go,e,hc⟩:=h (j / n) hi
  obtain rfl:ad=⟨gb,go,none⟩:=by injection e
  have hr:j % n < n:=Nat.mod_lt _ hn
  have h1:=Zh0 f hf l (j / n) hi (j % n) hr
  have hdm:j / n * n+j % n=j:=Nat.div_add_mod' j n
  rw [hdm] at h1
  have h2:=hc (j % n) u (by rw [← h1];exact hj)
  rw [Addr.add_lit]
  rw [show go+j=go+j / n * n+j % n by omega]
  exact h2
end
end Go.Proofs.YtbapgefodmmikaaGreatDoor
namespace Go.Ord
theorem at_qn {Q:Exit→Act→World→Prop}{R:Act→World→Prop}{a:Act}{w:World}(h:R a w):Qn Q R .normal a w:=h
def Nm (Q:Exit→Act→World→Prop):Exit→Act→World→Prop
 | .normal,a,w=>Q .normal a w
 | _,_,_=>False
theorem Zxo {Q:Exit→Act→World→Prop}{a:Act}{w:World}(h:Q .normal a w):Nm Q .normal a w:=h
theorem Zxt {P:Program}{Q:Exit→Act→World→Prop}{id:Nat}{a:Act}{w:World}{lo:List Oper}(l:List (Nat × Nat)) (H:World→Prop) (hm:P.follows .mixedOrders=true) (hp:planOk lo.toArray l=true)
  (hH:H w.drew) (h:walk P lo.toArray H (Nm Q) l a w.drew):(Code.region id lo.toArray true).wp P Q a w:=by
 refine wp_mono (wp_region (Q:=Nm Q) l H hm hp (fun c a d v w h=>h.elim) hH h) ?_
 intro e a w h
 cases e <;> first|exact h|exact h.elim
theorem Zxy {P:Program}{Q:Exit→Act→World→Prop}{id:Nat}{a:Act}{w:World}{lo:List Oper}(F:Nat) (t:Pl) (H:World→Prop) (hm:P.follows .mixedOrders=true) (hp:Zjc F lo.toArray t=true)
  (hH:H w.drew) (h:Ze4 P lo.toArray H (Nm Q) t a w.drew):(Code.region id lo.toArray true).wp P Q a w:=by
 refine wp_mono (Zsk (Q:=Nm Q) F t H hm hp (fun c a d v w h=>h.elim) hH h) ?_
 intro e a w h
 cases e <;> first|exact h|exact h.elim
end Go.Ord
namespace Go.Ord.Two
end Go.Ord.Two
namespace Go.Ord
end Go.Ord
namespace Go.Proofs.YtbapgefodmmikaaGreatDoor
open Go.RowKit Go.Proofs Go.Ord Tryz
attribute [local irreducible] Ord.walk
end Go.Proofs.YtbapgefodmmikaaGreatDoor
namespace Go
open Go.RowKit
theorem RowKit.Below.undrew {w w':World}(h:w.drew w'):w w':=(Below.refl _ w).drew.trans h
structure Lets (X:Nat→Option Obj→Prop) (w w':World):Prop where
 os:w'.os=w.os
 tape:w'.tape=w.tape
 output:w'.output=w.output
 size:w.heap.size≤w'.heap.size
 block:∀ k,k < w.heap.size→¬ X k w.heap[k]?→w'.heap[k]? = w.heap[k]?
namespace Lets
variable {X Y:Nat→Option Obj→Prop}{w w' w'':World}
theorem refl (X:Nat→Option Obj→Prop) (w:World):Lets X w w:=⟨rfl,rfl,rfl,Nat.le_refl _,fun _ _ _=>rfl⟩
theorem trans (h:Lets X w w') (k:Lets X w' w''):Lets X w w'' :=
 ⟨k.os.trans h.os,k.tape.trans h.tape,k.output.trans h.output,Nat.le_trans h.size k.size,fun i hi hx=>by
  have e:=h.block i hi hx
  exact (k.block i (by have:=h.size;omega) (by rw [e];exact hx)).trans e⟩
theorem mono (h:Lets X w w') (hm:∀ k,k < w.heap.size→X k w.heap[k]?→Y k w.heap[k]?):Lets Y w w' :=
 ⟨h.os,h.tape,h.output,h.size,fun k hk hy=>h.block k hk fun hx=>hy (hm k hk hx)⟩
theorem of_below (h:w w'):Lets X w w':=⟨h.os,h.tape,h.output,h.size,fun k hk _=>h.block k hk⟩
theorem none {w w':World}(h:Lets (fun _ _=>False) w w'):w w':=⟨h.os,h.tape,h.output,h.size,fun k hk=>h.block k hk (fun e=>e)⟩
theorem below {n:Nat}(h:Lets X w w') (hn:n≤w.heap.size) (hx:∀ k,k < n→¬ X k w.heap[k]?):Below n w w':=⟨h.os,h.tape,h.output,h.size,fun k hk=>h.block k om_ (hx k hk)⟩
theorem alloc (h:Lets X w w') (o:Obj):Lets X w (w'.alloc o):=h.trans (of_below (br_.alloc nl_ _))
theorem drew (h:Lets X w w'):Lets X w w'.drew:=⟨h.os,h.tape,h.output,h.size,h.block⟩
theorem setCell (h:Lets X w w') {p:Addr}(hp:X p.block w'.heap[p.block]?) (v:Value):Lets X w (w'.setCell p v) :=
 h.trans ⟨rfl,rfl,rfl,sp_,fun k hk hx=>Below.heap_setCell w' p v k (fun e=>by subst e;exact hx hp)⟩
theorem putObj (h:Lets X w w') {p:Nat}(hp:X p w'.heap[p]?) (o:Obj):Lets X w (w'.putObj p o) :=
 h.trans ⟨rfl,rfl,rfl,sp_,fun k hk hx=>World.putObj_heap_other (fun e=>by subst e;exact hx hp)⟩
theorem rowed {b:Nat}{B:Array Value}{t:TypeId}(h:Lets X w w') (hr:Rowed w' b B t w'') (hp:X b w'.heap[b]?):Lets X w w'':=by
 have hb:=hr.below (Below.refl b w') nl_
 refine h.trans ⟨hb.os,hb.tape,hb.output,by rw [hr.size];exact Nat.le_refl _,fun k hk hx=>?_⟩
 exact hr.heap k (fun e=>by subst e;exact hx hp)
theorem grown {row:Option Nat}(h:Lets X w w') (hg:w'.grownBy w'' row) (hr:∀ k,row=some k→k < w'.heap.size→X k w'.heap[k]?):Lets X w w'' :=
 h.trans ⟨hg.os,hg.tape,hg.output,hg.size,fun k hk hx=>hg.block k hk (fun e=>hx (hr k e.symm hk))⟩
theorem blk (h:Lets X w w') {b:Nat}{A:Array Value}{t:TypeId}(hb:Blk w b A t) (hx:¬ X b w.heap[b]?):Blk w' b A t:=(h.block b hb.lt hx).trans hb
theorem cell (h:Lets X w w') {a:Addr}{v:Value}(hc:w.cell? a=some v) (hx:¬ X a.block w.heap[a.block]?):w'.cell? a=some v:=(World.cell?_of_block (h.block _ (bl_ w _ hc) hx)).trans hc
theorem next (h:Lets X w w') (k:Lets Y w' w'') (hY:∀ i,i < w.heap.size→¬ X i w.heap[i]?→¬ Y i w'.heap[i]?):Lets X w w'' :=
 ⟨k.os.trans h.os,k.tape.trans h.tape,k.output.trans h.output,Nat.le_trans h.size k.size,fun i hi hx=>(k.block i (by have:=h.size;omega) (hY i hi hx)).trans (h.block i hi hx)⟩
end Lets
def Zxb {α:Type}(P:Program) (gf:Nat) (lb:Array Value) (encs:α→Array Value) (xs:List α) (XI XR:Nat→Option Obj→Prop) (Mid:World→Prop) (l:Nat) (W:World):Prop :=
 ∀ (J:Nat→World→Prop) (Jx:World→Prop),
  (∀ k A B,J k A→Lets XI A B→J k B)→(∀ A B,Jx A→Lets XI A B→Jx B) →
  (∀ k (h:k < xs.length) W1,J k W1→Mid W1→YieldAt Fence.wide 0 P l (encs xs[k]) W1 fun e W' =>
   Lets XR W1 W'∧Mid W'∧((e=.returned (.bool true)∧J (k+1) W')∨(e=.returned (.bool false)∧Jx W'))) →
  J 0 W→CallsIn Fence.wide 0 P gf (#[.func (.yield l) #[] #[]] ++ lb) W fun e W'=>(∃ v,e=.returned v)∧Mid W'∧(J xs.length W'∨Jx W')
def rngPost (XB:Nat→Option Obj→Prop) (Mid:World→Prop) (I:World→Prop) (Ix:Code→World→Prop) (W:World):Exit→Act→World→Prop
 | .normal,_,W'=>Lets XB W W'∧Mid W'∧I W'
 | .ret,_,W'=>Lets XB W W'∧Mid W'∧Ix .ret W'
 | .exit id,_,W'=>Lets XB W W'∧Mid W'∧Ix (.exit id) W'
 | .goto t,_,W'=>Lets XB W W'∧Mid W'∧Ix (.goto t) W'
 | .panic _,_,_=>False
 | .outgrown,_,_=>False
theorem Za3 {n:Nat}{X:Nat→Option Obj→Prop}{w A B:World}(h:RowKit.Below n w A) (hl:Lets X A B) (hn:n≤w.heap.size) (hx:∀ k o,k < n→¬ X k o):RowKit.Below n w B :=
 h.trans ⟨hl.os,hl.tape,hl.output,hl.size,fun k hk=>hl.block k (by have:=h.size;omega) (hx k _ hk)⟩
theorem Zc1 {X:Nat→Option Obj→Prop}{A B:World}{b:Nat}{c:Array Value}{t:TypeId}(h:Blk A b c t) (hl:Lets X A B) (hx:∀ o,¬ X b o):Blk B b c t:=hl.blk h (hx _)
theorem Zbl {P:Program}{fn:Func}{v:Value}{a:Act}{w:World}{R:Ending→World→Prop}{D:Nat}(hd:a.defers=[{ target:=.collected D,args:=#[] }]) (hD:w.heap[D]? = some (.deferred (some [])))
  (h:∀ w',Lets (fun k _=>k=D) w w'→w'.heap.size=w.heap.size→(results fn a.tmps).run P w'=.ok v w'∧R (.returned v) w'):bodyPostM Fence.wide 0 P fn R .ret a w:=by
 show LeavesInM _ _ _ _ _ _ a.defers _ _
 rw [hd]
 refine ⟨sp_,.inl ⟨D,w.putObj D (.deferred none),rfl,run_takeDeferred hD,?_⟩⟩
 have:=h (w.putObj D (.deferred none)) ((Lets.refl _ _).putObj rfl _) sp_
 exact ⟨v,this.1,this.2⟩
theorem Zus {P:Program}{fn:Func}{v:Value}{a:Act}{w:World}{R:Ending→World→Prop}(hd:a.defers=[]) (h:(results fn a.tmps).run P w=.ok v w) (hr:R (.returned v) w):bodyPostM Fence.wide 0 P fn R .ret a w:=by
 show LeavesInM _ _ _ _ _ _ a.defers _ _
 rw [hd]
 exact ⟨v,h,hr⟩
variable {P:Program}
def Zcl (P:Program) (L:Nat) (XB:Nat→Option Obj→Prop) (Mid:World→Prop) (I0 I1:World→Prop) (Ix:Code→World→Prop) (assign body:Code) (tmps:Array Value) (W:World):Prop :=
 assign.wpIn (Fence.wide.inRound L) 0 P (Exit.then (fun a₁ W₁=>Lets (fun _ _=>False) W W₁∧∀ W₂,Lets (fun j _=>j=L) W₁ W₂→W₂.heap.size=W₁.heap.size→I0 W₂→Mid W₂ →
  body.wpIn (Fence.wide.inRound L) 0 P (rngPost XB Mid I1 Ix W₂) a₁ W₂) (fun _ _ _=>False)) { tmps,defers:=[] } W
theorem Zsz {α:Type}{gf:Nat}{lb:Array Value}{encs:α→Array Value}{xs:List α}{XI XB:Nat→Option Obj→Prop}{Mid:World→Prop}{I:Nat→World→Prop}{Ix:Code→World→Prop}{L D:Nat}{W1:World}
  {fn:FuncId}{tmps:Array Value}{ps:Array Tmp}{assign body:Code}
  (hL:W1.heap[L]? = some (.loop { state:=.ready,pending:=none,fn,tmps,params:=ps,assign,body,defers:=D }))
  (hps:∀ x,(encs x).size=ps.size)
  (hseq:Zxb P gf lb encs xs XI (fun j o=>XB j o∨j=L) Mid L W1)
  (hXI:∀ o,¬ XI L o) (hXB:∀ o,¬ XB L o)
  (hI:∀ k A B,I k A→Lets XI A B→I k B) (hIx:∀ c A B,Ix c A→Lets XI A B→Ix c B)
  (hI2:∀ k A B,I k A→Lets (fun j _=>j=L) A B→I k B) (hIx2:∀ c A B,Ix c A→Lets (fun j _=>j=L) A B→Ix c B) (hM2:∀ A B,Mid A→Lets (fun j _=>j=L) A B→Mid B)
  (h0:I 0 W1)
  (hround:∀ k (h:k < xs.length) W,I k W→Mid W→(∃ r,W.heap[L]? = some (.loop r)∧r.defers=D)→Zcl P L XB Mid (I k) (I (k+1)) Ix assign body ((ps.zip (encs xs[k])).foldl (fun t (p,v)=>t.setIfInBounds p v) tmps) W) :
  CallsIn Fence.wide 0 P gf (#[.func (.yield L) #[] #[]] ++ lb) W1 fun e W2=>(∃ v,e=.returned v) ∧
   ((∃ W',(Instr.endLoop L).run P W2=.ok none W'∧I xs.length W'∧Mid W')∨(∃ c W',(Instr.endLoop L).run P W2=.ok (some c) W'∧Ix c W'∧Mid W')):=by
 obtain ⟨rec,hrec⟩:∃ rec:LoopState→Option Code→Loop,rec=fun st pe=>{ state:=st,pending:=pe,fn,tmps,params:=ps,assign,body,defers:=D }:=⟨_,rfl⟩
 have hL1:W1.heap[L]? = some (.loop (rec .ready none)):=by rw [hrec];exact hL
 clear hL
 have hturn:∀ (A:World) (o:Obj),Lets (fun j _=>j=L) A (A.putObj L o):=fun A o=>(Lets.refl _ _).putObj rfl _
 refine (hseq (fun k W=>I k W∧W.heap[L]? = some (.loop (rec .ready none))) (fun W=>∃ c,Ix c W∧W.heap[L]? = some (.loop (rec .done (some c))))
  (fun k A B h hl=>⟨hI k A B h.1 hl,(hl.block L (Array.getElem?_eq_some_iff.1 h.2).1 (hXI _)).trans h.2⟩)
  (fun A B h hl=>by obtain ⟨c,h1,h2⟩:=h;exact ⟨c,hIx c A B h1 hl,(hl.block L (Array.getElem?_eq_some_iff.1 h2).1 (hXI _)).trans h2⟩)
  ?_ ⟨h0,hL1⟩).mono ?_
 ·rintro k hk W ⟨hi,hl⟩ hmid
  have hlt:L < W.heap.size:=(Array.getElem?_eq_some_iff.1 hl).1
  have hy:=run_yield (P:=P) (args:=encs xs[k]) hl (by rw [hrec];exact hps _)
  rw [hrec] at hy
  refine ⟨fn,_,assign,body,hy,roundIn_of_wpIn trivial (wpIn_mono (hround k hk W hi hmid ⟨_,hl,by rw [hrec]⟩) ?_)⟩
  clear hy
  rintro e a₁ Wa ha
  cases e with
  | normal =>
   obtain ⟨hWa,hbody⟩:=ha
   have hla:Wa.heap[L]? = some (.loop (rec .ready none)):=(hWa.block L hlt (fun e=>e)).trans hl
   have hlta:L < Wa.heap.size:=(Array.getElem?_eq_some_iff.1 hla).1
   refine ⟨_,run_beginRound hla (by rw [hrec]),?_⟩
   obtain ⟨W₂,hW₂⟩:∃ W₂,Wa.putObj L (.loop { rec .ready none with state:=.busy })=W₂:=⟨_,rfl⟩
   rw [hW₂]
   have h2:Lets (fun j _=>j=L) Wa W₂:=by rw [← hW₂];exact hturn _ _
   have hl2:W₂.heap[L]? = some (.loop { rec .ready none with state:=.busy }):=by rw [← hW₂];exact World.putObj_heap_same hlta
   have hs2:W₂.heap.size=Wa.heap.size:=by rw [← hW₂];simp
   have hWa':Lets (fun j _=>j=L) W Wa:=hWa.mono (fun _ _ e=>e.elim)
   refine wpIn_mono (hbody W₂ h2 hs2 (hI2 k _ _ hi (hWa'.trans h2)) (hM2 _ _ hmid (hWa'.trans h2))) ?_
   have fin:∀ (jump:Option Code) (W3:World),Lets XB W₂ W3 →
     (Instr.endRound L jump).run P W3=.ok (.bool jump.isNone) (W3.putObj L (.loop (rec (if jump.isNone then .ready else .done) jump))) ∧
     (W3.putObj L (.loop (rec (if jump.isNone then .ready else .done) jump))).heap[L]? = some (.loop (rec (if jump.isNone then .ready else .done) jump)) ∧
     Lets (fun j o=>XB j o∨j=L) W (W3.putObj L (.loop (rec (if jump.isNone then .ready else .done) jump))):=fun jump W3 h3=>by
    have hl3:=(h3.block L (Array.getElem?_eq_some_iff.1 hl2).1 (hXB _)).trans hl2
    have:=run_endRound (P:=P) jump hl3
    rw [hrec] at this ⊢
    refine ⟨this,World.putObj_heap_same (Array.getElem?_eq_some_iff.1 hl3).1,?_⟩
    exact ((((hWa'.trans h2).mono (fun _ _ e=>.inr e)):Lets (fun j o=>XB j o∨j=L) W W₂).trans (h3.mono (fun _ _ e=>.inl e))).putObj (.inr rfl) _
   rintro e a3 W3 hp
   cases e with
   | normal =>
    obtain ⟨h3,hm3,hi3⟩:=hp
    obtain ⟨hr,hl4,h4⟩:=fin none W3 h3
    exact ⟨_,_,hr,h4,hM2 _ _ hm3 (hturn _ _),.inl ⟨rfl,hI2 _ _ _ hi3 (hturn _ _),hl4⟩⟩
   | ret =>
    obtain ⟨h3,hm3,hi3⟩:=hp
    obtain ⟨hr,hl4,h4⟩:=fin (some .ret) W3 h3
    exact ⟨_,_,hr,h4,hM2 _ _ hm3 (hturn _ _),.inr ⟨rfl,.ret,hIx2 _ _ _ hi3 (hturn _ _),hl4⟩⟩
   | exit id =>
    obtain ⟨h3,hm3,hi3⟩:=hp
    obtain ⟨hr,hl4,h4⟩:=fin (some (.exit id)) W3 h3
    exact ⟨_,_,hr,h4,hM2 _ _ hm3 (hturn _ _),.inr ⟨rfl,.exit id,hIx2 _ _ _ hi3 (hturn _ _),hl4⟩⟩
   | goto t =>
    obtain ⟨h3,hm3,hi3⟩:=hp
    obtain ⟨hr,hl4,h4⟩:=fin (some (.goto t)) W3 h3
    exact ⟨_,_,hr,h4,hM2 _ _ hm3 (hturn _ _),.inr ⟨rfl,.goto t,hIx2 _ _ _ hi3 (hturn _ _),hl4⟩⟩
   | panic ch=>exact hp.elim
   | outgrown=>exact hp.elim
  | ret=>exact ha.elim
  | exit id=>exact ha.elim
  | goto t=>exact ha.elim
  | panic ch=>exact ha.elim
  | outgrown=>exact ha.elim
 ·rintro e W2 ⟨hv,hm,(⟨hi,hl⟩ | ⟨c,hi,hl⟩)⟩
  ·refine ⟨hv,.inl ⟨W2.putObj L (.loop (rec .exhausted none)),?_,hI2 _ _ _ hi (hturn _ _),hM2 _ _ hm (hturn _ _)⟩⟩
   exact (by have:=run_endLoop (P:=P) hl (by rw [hrec];simp);rw [hrec] at this ⊢;exact this)
  ·refine ⟨hv,.inr ⟨c,W2.putObj L (.loop (rec .exhausted (some c))),?_,hIx2 _ _ _ hi (hturn _ _),hM2 _ _ hm (hturn _ _)⟩⟩
   exact (by have:=run_endLoop (P:=P) hl (by rw [hrec];simp);rw [hrec] at this ⊢;exact this)
theorem Zcm {α:Type}{g:Operand}{ps:Array Tmp}{assign body:Code}{Q:Exit→Act→World→Prop}{a:Act}{w:World}{gf:Nat}{lb:Array Value}
  {encs:α→Array Value}{xs:List α}{XI XB:Nat→Option Obj→Prop}{Mid:World→Prop}(I:Nat→World→Prop) (Ix:Code→World→Prop)
  (hg:a.eval g=.func (.func gf) #[] lb) (eg:∀ args w,(callFunc gf args).run P w=.ok (.enter gf args) w) (hps:∀ x,(encs x).size=ps.size)
  (hseq:∀ W1,Below w.heap.size w W1→W1.heap.size=w.heap.size+2→Zxb P gf lb encs xs XI (fun j o=>XB j o∨j=w.heap.size+1) Mid (w.heap.size+1) W1)
  (hXI:∀ j o,w.heap.size≤j→j≤w.heap.size+1→¬ XI j o) (hXB:∀ j o,w.heap.size≤j→j≤w.heap.size+1→¬ XB j o)
  (hI:∀ k A B,I k A→Lets XI A B→I k B) (hIx:∀ c A B,Ix c A→Lets XI A B→Ix c B)
  (hI2:∀ k A B,I k A→Lets (fun j _=>w.heap.size≤j∧j≤w.heap.size+1) A B→I k B) (hIx2:∀ c A B,Ix c A→Lets (fun j _=>w.heap.size≤j∧j≤w.heap.size+1) A B→Ix c B) (hM2:∀ A B,Mid A→Lets (fun j _=>w.heap.size≤j∧j≤w.heap.size+1) A B→Mid B)
  (h0:I 0 w)
  (hround:∀ k (h:k < xs.length) W,I k W→Mid W→w.heap.size+2≤W.heap.size→(∃ r,W.heap[w.heap.size+1]? = some (.loop r))→Zcl P (w.heap.size+1) XB Mid (I k) (I (k+1)) Ix assign body ((ps.zip (encs xs[k])).foldl (fun t (p,v)=>t.setIfInBounds p v) a.tmps) W)
  (hdone:∀ W,I xs.length W→Mid W→W.heap[w.heap.size]? = some (.deferred (some []))→Q .normal { a with defers:={ target:=.collected w.heap.size,args:=#[] } :: a.defers } W)
  (hstop:∀ c W,Ix c W→Mid W→W.heap[w.heap.size]? = some (.deferred (some []))→c.wpIn Fence.wide 0 P Q { a with defers:={ target:=.collected w.heap.size,args:=#[] } :: a.defers } W) :
  (Code.rangeFunc g ps assign body).wpIn Fence.wide 0 P Q a w:=by
 refine wpIn_rangeFunc ?_
 intro fn _
 obtain ⟨W1,hW1⟩:∃ W1,(w.alloc (.deferred (some []))).alloc (.loop { state:=.ready,pending:=none,fn,tmps:=a.tmps,params:=ps,assign,body,defers:=w.heap.size })=W1:=⟨_,rfl⟩
 have hL1:W1.heap[w.heap.size+1]? = some (.loop { state:=.ready,pending:=none,fn,tmps:=a.tmps,params:=ps,assign,body,defers:=w.heap.size }):=by
  rw [← hW1];have:=World.alloc_heap_new (w.alloc (.deferred (some []))) (.loop { state:=.ready,pending:=none,fn,tmps:=a.tmps,params:=ps,assign,body,defers:=w.heap.size });rwa [World.size_alloc] at this
 have hK1:W1.heap[w.heap.size]? = some (.deferred (some [])):=by
  rw [← hW1];exact (Below.heap_alloc _ _ _ sp_).trans (World.alloc_heap_new w _)
 have hb1:Below w.heap.size w W1:=by rw [← hW1];exact ((Below.refl _ w).alloc nl_ _).alloc sp_ _
 have hs1:W1.heap.size=w.heap.size+2:=by rw [← hW1];simp
 have hn1:∀ Y,Lets Y w W1:=fun Y=>Lets.of_below hb1
 have hLD:∀ {A B:World},Lets (fun j _=>j=w.heap.size+1) A B→Lets (fun j _=>w.heap.size≤j∧j≤w.heap.size+1) A B:=fun h=>h.mono (fun k _ e=>om_)
 have hkeep:∀ {A B:World}{Y:Nat→Option Obj→Prop},Lets Y A B→¬ Y w.heap.size A.heap[w.heap.size]?→A.heap[w.heap.size]? = some (.deferred (some []))→B.heap[w.heap.size]? = some (.deferred (some [])):=fun h hy hd=>(h.block _ (Array.getElem?_eq_some_iff.1 hd).1 hy).trans hd
 refine ⟨w.heap.size+1,[{ target:=.collected w.heap.size,args:=#[] }],W1,{ target:=.fn (.func gf) lb,args:=#[.func (.yield (w.heap.size+1)) #[] #[]] },W1,gf,
  #[.func (.yield (w.heap.size+1)) #[] #[]] ++ lb,W1,?_,?_,fun _ _=>trivial,?_,fun h=>by simp [Fence.wide] at h,?_⟩
 ·rw [← hW1];exact run_enterLoop_outer _ _ _ _ _
 ·simp only [resolve,hg]
  simp [go_sem]
 ·simp [invoke,go_sem,eg]
 ·refine (Zsz (I:=fun k W=>I k W∧W.heap[w.heap.size]? = some (.deferred (some []))∧w.heap.size+2≤W.heap.size) (Ix:=fun c W=>Ix c W∧W.heap[w.heap.size]? = some (.deferred (some []))) hL1 hps (hseq W1 hb1 hs1) (fun o=>hXI _ o om_ om_) (fun o=>hXB _ o om_ om_)
   (fun k A B h hl=>⟨hI k A B h.1 hl,hkeep hl (hXI _ _ nl_ om_) h.2.1,by have:=hl.size;omega⟩) (fun c A B h hl=>⟨hIx c A B h.1 hl,hkeep hl (hXI _ _ nl_ om_) h.2⟩)
   (fun k A B h hl=>⟨hI2 k A B h.1 (hLD hl),hkeep hl om_ h.2.1,by have:=hl.size;omega⟩) (fun c A B h hl=>⟨hIx2 c A B h.1 (hLD hl),hkeep hl om_ h.2⟩)
   (fun A B h hl=>hM2 A B h (hLD hl)) ⟨hI2 0 _ _ h0 (hn1 _),hK1,om_⟩ ?_).mono ?_
  ·rintro k hk W ⟨hi,hd,hsz⟩ hm ⟨r,hr,-⟩
   have h:=hround k hk W hi hm hsz ⟨r,hr⟩
   unfold Zcl at h ⊢
   refine wpIn_mono h ?_
   rintro e a₁ Wa ha
   cases e with
   | normal =>
    obtain ⟨h1,h2⟩:=ha
    refine ⟨h1,fun W₂ hl hs hi2 hm2=>wpIn_mono (h2 W₂ hl hs hi2.1 hm2) ?_⟩
    have hsz2:w.heap.size+2≤W₂.heap.size:=by have:=h1.size;omega
    rintro e a3 W3 hp
    cases e with
    | normal=>exact ⟨hp.1,hp.2.1,hp.2.2,hkeep hp.1 (hXB _ _ nl_ om_) hi2.2.1,by have:=hp.1.size;omega⟩
    | ret=>exact ⟨hp.1,hp.2.1,hp.2.2,hkeep hp.1 (hXB _ _ nl_ om_) hi2.2.1⟩
    | exit id=>exact ⟨hp.1,hp.2.1,hp.2.2,hkeep hp.1 (hXB _ _ nl_ om_) hi2.2.1⟩
    | goto t=>exact ⟨hp.1,hp.2.1,hp.2.2,hkeep hp.1 (hXB _ _ nl_ om_) hi2.2.1⟩
    | panic ch=>exact hp.elim
    | outgrown=>exact hp.elim
   | ret=>exact ha.elim
   | exit id=>exact ha.elim
   | goto t=>exact ha.elim
   | panic ch=>exact ha.elim
   | outgrown=>exact ha.elim
  ·rintro e W2 ⟨⟨v,rfl⟩,(⟨W',he,hi,hm⟩ | ⟨c,W',he,hi,hm⟩)⟩
   ·exact ⟨none,W',he,hdone W' hi.1 hm hi.2.1⟩
   ·exact ⟨some c,W',he,hstop c W' hi.1 hm hi.2⟩
end Go
namespace Go.Proofs.YtbapgefodmmikaaGreatDoor
open Go.RowKit Go.Proofs Go.Ord Tryz
attribute [local irreducible] Ord.walk
theorem Zn9 (n lo hi:Int) (w:World) :
  Calls prog 209 #[n,lo,hi] w (Same (.bool (decide (lo≤n∧n≤hi))) w):=by
 go_enter func209,ntmps209
 go_wp2
 all_goals go_ret
 all_goals (refine ⟨Zcy ?_,rfl⟩;simp;try omega)
def refC (e:Int):Value:=.iface 282 ↑e
def Zh7 (e:Int) (w:World) (x:Ending) (w':World):Prop:=x=.panicked [{ v:=refC e,recovered:=false }]∧w w'
def StopsCS (e:Int) (w:World) (x:Ending) (w':World):Prop:=x=.panicked [{ v:=refC e,recovered:=false }]∧w=w'
theorem Ze0 (e:Int) (w:World) :
  Calls prog 124 #[.bool true,e] w (Same (.tuple #[]) w):=by
 go_enter func124,ntmps124
 go_wp2
 go_end0
 exact ⟨rfl,rfl⟩
theorem Zfp (e:Int) (w:World) :
  Calls prog 124 #[.bool false,e] w (StopsCS e w):=by
 go_enter func124,ntmps124
 go_wp2
 exact ⟨rfl,rfl,rfl⟩
theorem Zs9 (v:Value) (w:World) :
  Calls prog 372 #[v] w (Same (.bool true) w):=by
 go_enter func372,ntmps372
 go_wp2
 go_ret
 exact ⟨rfl,rfl⟩
theorem Zvd (a b:Int) (W:World):(Builtin.min2 ↑a ↑b).run prog W=.ok ↑(min a b) W:=by
 by_cases h:b < a
 ·have:min a b=b:=by omega
  simp [Builtin.min2,go_sem,h,this]
 ·have:min a b=a:=by omega
  simp [Builtin.min2,go_sem,h,this]
theorem Zbk {ops:Array Oper}{Q:Exit→Act→World→Prop}{o:Oper}{rest:List Oper}{a:Act}{w:World}(x y:Operand) (hgd:o.guard=none) (ho:o.op=.call { callee:=.builtin .min,args:=[x,y].toArray,argTypes:=#[3,3] }) {p q:Int}(hx:a.eval x=↑p) (hy:a.eval y=↑q)
  (hK:wpList prog ops Q rest (a.put o.dst ↑(min p q)) w):wpList prog ops Q (o :: rest) a w:=by
 refine wpList_plain hgd fun K' hK'=>?_
 have:=hK' _ _ hK
 unfold Oper.wp
 generalize a.eval=ev at *
 simp [execOp,ho,hx,hy,Builtin.min_,go_sem,Zvd,Result.andThen]
 exact this
theorem Zve (a b:Int) (W:World):(Builtin.max2 ↑a ↑b).run prog W=.ok ↑(max a b) W:=by
 by_cases h:b > a
 ·have:max a b=b:=by omega
  simp [Builtin.max2,go_sem,h,this]
 ·have:max a b=a:=by omega
  simp [Builtin.max2,go_sem,h,this]
theorem Zem {ops:Array Oper}{Q:Exit→Act→World→Prop}{o:Oper}{rest:List Oper}{a:Act}{w:World}(x y:Operand) (hgd:o.guard=none) (ho:o.op=.call { callee:=.builtin .max,args:=[x,y].toArray,argTypes:=#[3,3] }) {p q:Int}(hx:a.eval x=↑p) (hy:a.eval y=↑q)
  (hK:wpList prog ops Q rest (a.put o.dst ↑(max p q)) w):wpList prog ops Q (o :: rest) a w:=by
 refine wpList_plain hgd fun K' hK'=>?_
 have:=hK' _ _ hK
 unfold Oper.wp
 generalize a.eval=ev at *
 simp [execOp,ho,hx,hy,Builtin.max_,go_sem,Zve,Result.andThen]
 exact this
theorem c_sum (x y:Int) (hx : -1000000≤x∧x≤1000000) (hy : -1000000≤y∧y≤1000000) (w:World) (p:Nat) (hb:Blk w p #[x,y] 3) :
  Calls prog 362 #[.slice p 2 2] w (Same ↑(sum2 x y) w):=by
 have rb:=hb.cell
 have c0:w.cell? ⟨p,0,none⟩=some (.int .i64 x):=rb 0
 have c1:w.cell? ⟨p,1,none⟩=some (.int .i64 y):=rb 1
 clear rb
 go_enter func362,ntmps362
 go_wp2
 go_loopw [2,4,7] (fun x2 x4 x7 wr=>wr=w∧((x7=↑()∧x2=↑())∨(x7=.int .i64 1∧x2=↑(min 65536 x))∨(x7=.int .i64 2∧x2=↑(sum2 x y)))) (fun _ _ x7 _=>(2 - intOf x7).toNat)
 case atStart=>exact ⟨rfl,.inl ⟨rfl,rfl⟩⟩
 case round =>
  obtain ⟨rfl,⟨rfl,rfl⟩ | ⟨rfl,rfl⟩ | ⟨rfl,rfl⟩⟩:=hrel
  ·go_wp2_with (refine Zbk (.const (.int .i64 65536)) (.tmp 13) rfl rfl rfl rfl ?_)
   exact ⟨⟨trivial,.inr (.inl ⟨by first|trivial|rfl,sp_⟩)⟩,by simp [intOf]⟩
  ·have hm : -1000000≤min 65536 x∧min 65536 x≤65536:=by omega
   generalize hmm:min 65536 x=m at *
   go_wp2_with (refine Zbk (.const (.int .i64 65536)) (.tmp 13) rfl rfl rfl rfl ?_)
   exact ⟨⟨trivial,.inr (.inr ⟨by first|trivial|rfl,by simp [sum2,hmm]⟩)⟩,by simp [intOf]⟩
  ·go_wp2
   go_ret
   exact ⟨rfl,rfl⟩
theorem Za7:Zds prog 182 31:=⟨_,underlying182,rfl,by kernel_rfl⟩
def Zxa (c:Nat→Int):Prop:=∀ i,i < 31→-1000000≤c i∧c i≤1000000
theorem Zcg (c:Nat→Int):(cs c).all (·.oneCell')=true:=by
 rw [Array.all_eq_true]
 intro i hi
 have h:i < 31:=by simpa [cs] using hi
 simp [cs,Value.oneCell']
def Off1 (b:Nat) (w w':World):Prop:=∀ q,q≠b→w'.heap[q]? = w.heap[q]?
theorem Off1.blk {b x:Nat}{w w':World}{A:Array Value}{t:TypeId}(h:Off1 b w w') (hb:Blk w x A t) (hx:x≠b):Blk w' x A t:=(h x hx).trans hb
theorem c_plus (c o:Nat→Int) (hc:Zxa c) (ho:Zxa o) (w:World) :
  Calls prog 361 #[.agg (cs c),.agg (cs o)] w (Zal (.agg (cs (Zmk c o))) w):=by
 have HC:=hd_ hc
 have HO:=hd_ ho
 clear hc ho
 go_enter func361,ntmps361
 go_wp2
 have b2:=((Blk.new w (cs c) 182).alloc (.cells (cs o) 182)).alloc (.cells (cs fun _=>0) 182)
 have b3:=(Blk.new' (w.alloc (.cells (cs c) 182)) (cs o) 182 (w.heap.size+1) sp_).alloc (.cells (cs fun _=>0) 182)
 have b4:=Blk.new' ((w.alloc (.cells (cs c) 182)).alloc (.cells (cs o) 182)) (cs fun _=>0) 182 (w.heap.size+1+1) sp_
 have hB:w (((w.alloc (.cells (cs c) 182)).alloc (.cells (cs o) 182)).alloc (.cells (cs fun _=>0) 182)):=(((Below.refl w.heap.size w).alloc nl_ _).alloc ar_ _).alloc ar_ _
 go_loopw [5,6] (fun x5 x6 wr=>∃ k:Nat,k≤31∧x6=↑k∧Below w.heap.size w wr∧Blk wr w.heap.size (cs (mixC (Zmk c o) c k)) 182∧Blk wr (w.heap.size+1) (cs o) 182∧Blk wr (w.heap.size+1+1) (cs fun _=>0) 182) (fun _ x6 _=>(31 - intOf x6).toNat)
 case atStart=>exact ⟨0,om_,rfl,hB,by rw [Zio];exact b2,b3,b4⟩
 case round =>
  clear b2 b3 b4 hB
  obtain ⟨k,hk,rfl,hB,b2,b3,b4⟩:=hrel
  by_cases hlt:k < 31
  ·have hlti:(k:Int) < 31:=by omega
   have c2:wr.cell? ⟨w.heap.size,k,none⟩=some (.int .i64 (c k)):=by rw [b2.cell,Zg5 _ hlt];simp [mixC]
   have c3:wr.cell? ⟨w.heap.size+1,k,none⟩=some (.int .i64 (o k)):=by rw [b3.cell,Zg5 _ hlt]
   have f2:=b2.free k
   have l2:=b2.lt
   have l3:=b3.lt
   have l4:=b4.lt
   go_upto_region 4 with fail
   refine Zxt [(0,1),(1,0),(2,0),(3,0),(4,0),(5,0),(6,0),(7,2),(8,2),(9,0),(10,2)] (fun _=>True) kr_ kr_ trivial ?_
   go_wp2_with (first
    | (go_at_call 362;refine (c_sum _ _ (HC.out k hlt) (HO.out k hlt) _ _ (Blk.new _ _ _).drew).mono ?_;rintro e w5 ⟨rfl,rfl⟩)
    | (with_reducible refine Zxo ?_)
    | (refine o_ ?_;intro K hK)|(with_reducible first|refine Zxn ?_ ?_|refine Zxi ?_|refine Zxe bn_ (fun _=>?_)))
   have hBs:=hB.size
   have hO:Off1 w.heap.size wr (wr.setCell ⟨w.heap.size,k,none⟩ (.int .i64 (sum2 (c k) (o k)))):=fun q hq=>Below.heap_setCell _ _ _ _ (fun e=>hq e)
   refine ⟨⟨k+1,om_,by go_num,(((hB.setCell nl_ _).alloc (by simp;omega) _).drew),?_,((hO.blk b3 om_).alloc _).drew,((hO.blk b4 om_).alloc _).drew⟩,by simp [intOf];omega⟩
   have h2:=b2.set k (.int .i64 (sum2 (c k) (o k)))
   rw [Zs6 _ hlt,show sum2 (c k) (o k)=Zmk c o k from rfl,Zgs] at h2
   exact (h2.alloc _).drew
  ·have hk31:k=31:=by omega
   subst hk31
   have hlti:¬ ((31:Nat):Int) < 31:=by omega
   rw [Zip] at b2
   go_wp2_with (first
    | (refine Za0 182 (.tmp 2) Za7 rfl rfl rfl b2 (Za9 _) ?_)
    | (refine Za1 182 (.tmp 4) (.tmp 20) Za7 rfl rfl rfl rfl b4 (Za9 _) (Za9 _) (Zcg _) ?_;intro w6 h6;refine Za2 ?_))
   unfold Stop
   go_wp2
   refine bodyPost_ret (v:=.agg (cs (Zmk c o))) (Za5 rfl _ Za7 rfl h6.blk (Za9 _)) rfl ⟨rfl,h6.below hB om_⟩
theorem c_min (c:Nat→Int) (p a n cap:Nat) (ha:a+n < 31) (w:World) (hb:Blk w p (cs c) 182) :
  Calls prog 307 #[.slice (some ⟨p,a,none⟩) (n+1) cap] w (Same ↑(Zex c a n) w):=by
 have hcell:∀ j,j≤n→w.cell? ⟨p,a+j,none⟩=some (.int .i64 (c (a+j))):=fun j hj=>by rw [hb.cell,Zg5 _ om_]
 have HC:=hd_ hcell
 have c0:w.cell? ⟨p,a,none⟩=some (.int .i64 (c a)):=hcell 0 om_
 clear hcell hb
 have hn:(n:Int) < 31:=by omega
 go_enter func307,ntmps307
 go_wp2
 go_loopw [3,4] (fun x3 x4 wr=>wr=w∧∃ k:Nat,k≤n∧x4=.int .i64 ((k:Int)+1)∧x3=↑(Zex c a k)) (fun _ x4 _=>(31 - intOf x4).toNat)
 case atStart=>exact ⟨rfl,0,om_,rfl,rfl⟩
 case round =>
  obtain ⟨rfl,k,hk,rfl,rfl⟩:=hrel
  by_cases hlt:k < n
  ·have hlti:(k:Int) < (n:Int):=by omega
   have c1:wr.cell? ⟨p,a+(k+1),none⟩=some (.int .i64 (c (a+(k+1)))):=HC.out (k+1) om_
   go_wp2_with (refine Zbk (.tmp 18) (.tmp 22) rfl rfl rfl rfl ?_)
   exact ⟨⟨trivial,k+1,om_,by go_num,rfl⟩,by simp [intOf];omega⟩
  ·have hkn:k=n:=by omega
   subst hkn
   go_wp2
   go_ret
   exact ⟨rfl,rfl⟩
theorem c_least (c:Nat→Int) (w:World) :
  Calls prog 270 #[.agg (cs c)] w (Zal ↑(Zvh c) w):=by
 go_enter func270,ntmps270
 go_wp2_with (first
  | (go_at_call 307;refine (c_min c w.heap.size 0 30 31 om_ _ (Blk.new _ _ _)).mono ?_;rintro e w5 ⟨rfl,rfl⟩))
 go_ret
 exact ⟨rfl,br_.alloc nl_ _⟩
theorem Zif {P:Program}{ops:Array Oper}{rest:List Oper}{o:Oper}{a:Act}{w:World}{Q:Exit→Act→World→Prop}(ty:TypeId) (x lo hi:Operand) (hgd:o.guard=none) (ho:o.op=.slice ty x (some lo) (some hi) none)
  {n l m b:Nat}{e:TypeId}(hu:P.underlying ty=some (.array n e)) (hs:(P.info? e).map (·.size)=some 1) (hx:a.eval x=.pointer b) {L H:Int}(hl:a.eval lo=↑L) (hh:a.eval hi=↑H) (hL:L=(l:Int)) (hH:H=(l:Int)+(m:Int)) (h2:l+m≤n) (h3:l < n)
  (hK:wpList P ops Q rest (a.put o.dst (.slice (some ⟨b,l,none⟩) m (n - l))) w):wpList P ops Q (o :: rest) a w:=by
 subst hL hH
 refine wpList_plain hgd fun K' hK'=>?_
 have:=hK' _ _ hK
 have hn:P.arrayLen ty=n:=by simp [Program.arrayLen,hu]
 have he:P.elem ty=e:=by simp [Program.elem,hu]
 have hr:=run_sliceAt_array_lh (P:=P) w ty ⟨b,0,none⟩ (by rw [hn,he];exact hu) .i64 .i64 (l:Int) ((l:Int)+(m:Int)) om_ om_ (by rw [hn];omega)
 have hsz:(sizeOf e).run P w=.ok 1 w:=by
  cases hi:P.info? e with
  | none=>rw [hi] at hs;cases hs
  | some i=>rw [hi] at hs;simp at hs;simp [sizeOf,typeInfo,hi,hs]
 rw [he,hsz,hn] at hr
 simp only [Result.andThen_ok,slicedAt,show ((l:Int)).toNat=l by omega,show ((l:Int)+(m:Int)).toNat=l+m by omega,if_neg (show ¬ n=l by omega)] at hr
 unfold Oper.wp
 simp only [execOp,ho,hx,hl,hh,Option.map_some,Option.map_none]
 have e:(if l=0 then (⟨b,0,none⟩:Addr) else ⟨b,l,none⟩)=⟨b,l,none⟩:=by split <;> simp_all
 simp [hr,Result.andThen,Addr.add,e]
 exact this
theorem Znv:prog.underlying 182=some (.array 31 3):=underlying182
theorem Zro:(prog.info? 3).map (·.size)=some 1:=by kernel_rfl
theorem c_drift (d:Nat) (hd:d≤30) (c:Nat→Int) (w:World) :
  Calls prog 359 #[.agg #[d],.agg (cs c)] w (Zal (.agg (cs (Zei d c))) w):=by
 have hdi:(d:Int)≤30:=by omega
 go_enter func359,ntmps359
 go_wp2
 have b2:=((Blk.new w #[d] 285).alloc (.cells (cs c) 182)).alloc (.cells (cs fun _=>0) 182)
 have b3:=(Blk.new' (w.alloc (.cells #[d] 285)) (cs c) 182 (w.heap.size+1) sp_).alloc (.cells (cs fun _=>0) 182)
 have b4:=Blk.new' ((w.alloc (.cells #[d] 285)).alloc (.cells (cs c) 182)) (cs fun _=>0) 182 (w.heap.size+1+1) sp_
 have hB:w (((w.alloc (.cells #[d] 285)).alloc (.cells (cs c) 182)).alloc (.cells (cs fun _=>0) 182)):=(((Below.refl w.heap.size w).alloc nl_ _).alloc ar_ _).alloc ar_ _
 go_loopw [5,6] (fun x5 x6 wr=>∃ k:Nat,k≤31∧x6=↑k∧Below w.heap.size w wr∧Blk wr w.heap.size #[d] 285∧Blk wr (w.heap.size+1) (cs c) 182∧Blk wr (w.heap.size+1+1) (cs (mixC (Zei d c) (fun _=>0) k)) 182) (fun _ x6 _=>(31 - intOf x6).toNat)
 case atStart=>exact ⟨0,om_,rfl,hB,b2,b3,by rw [Zio];exact b4⟩
 case round =>
  clear b2 b3 b4 hB
  obtain ⟨k,hk,rfl,hB,b2,b3,b4⟩:=hrel
  by_cases hlt:k < 31
  ·have hlti:(k:Int) < 31:=by omega
   have c2:wr.cell? ⟨w.heap.size,0,none⟩=some (.int .i64 (d:Int)):=b2.cell 0
   have f4:=b4.free k
   have c4:wr.cell? ⟨w.heap.size+1+1,k,none⟩=some (.int .i64 0):=by rw [b4.cell,Zg5 _ hlt];simp [mixC]
   have l2:=b2.lt
   have l3:=b3.lt
   have l4:=b4.lt
   obtain ⟨lo,hlo⟩:∃ lo,k - d=lo:=⟨_,rfl⟩
   obtain ⟨n,hn⟩:∃ n,min 30 (k+d) - (k - d)=n:=⟨_,rfl⟩
   have hln:lo+n < 31:=by omega
   have e1:max (0:Int) ((k:Int) - (d:Int))=(lo:Int):=by omega
   have e2:min (31:Int) ((k:Int)+(d:Int)+1)=(lo:Int)+((n+1:Nat):Int):=by omega
   have hD:=hd_ (show Zex c lo n=Zei d c k by unfold Zei;rw [hn,hlo])
   have E1:=hd_ e1
   have E2:=hd_ e2
   have hHlo:=hd_ hlo
   have hHn:=hd_ hn
   clear e1 e2 hlo hn
   go_wp2_with (first
    | (refine Zem (.const ↑()) (.tmp 13) rfl rfl rfl rfl ?_;rw [E1.out])
    | (refine Zbk (.const (.int .i64 31)) (.tmp 19) rfl rfl rfl rfl ?_;rw [E2.out])
    | (refine Zif 182 (.tmp 3) (.tmp 14) (.tmp 20) rfl rfl Znv Zro rfl rfl rfl rfl rfl om_ om_ ?_)
    | (go_at_call 307;refine (c_min c _ lo n _ hln _ b3).mono ?_;rintro e w5 ⟨rfl,rfl⟩))
   have hBs:=hB.size
   have hO:Off1 (w.heap.size+1+1) wr (wr.setCell ⟨w.heap.size+1+1,k,none⟩ (.int .i64 (Zex c lo n))):=fun q hq=>Below.heap_setCell _ _ _ _ (fun e=>hq e)
   refine ⟨⟨k+1,om_,by go_num,hB.setCell (by simp;omega) _,hO.blk b2 om_,hO.blk b3 om_,?_⟩,by simp [intOf];omega⟩
   have h2:=b4.set k (.int .i64 (Zex c lo n))
   rw [Zs6 _ hlt,hD.out,Zgs] at h2
   rw [hD.out]
   exact h2
  ·have hk31:k=31:=by omega
   subst hk31
   have hlti:¬ ((31:Nat):Int) < 31:=by omega
   rw [Zip] at b4
   go_wp2_with (first
    | (refine Za0 182 (.tmp 4) Za7 rfl rfl rfl b4 (Za9 _) ?_)
    | (refine Za1 182 (.tmp 4) (.tmp 25) Za7 rfl rfl rfl rfl b4 (Za9 _) (Za9 _) (Zcg _) ?_;intro w6 h6;refine Za2 ?_))
   unfold Stop
   go_wp2
   refine bodyPost_ret (v:=.agg (cs (Zei d c))) (Za5 rfl _ Za7 rfl h6.blk (Za9 _)) rfl ⟨rfl,h6.below hB om_⟩
end Go.Proofs.YtbapgefodmmikaaGreatDoor
