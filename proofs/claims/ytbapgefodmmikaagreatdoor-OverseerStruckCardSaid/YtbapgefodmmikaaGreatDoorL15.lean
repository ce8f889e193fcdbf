/- Parts of a proof. -/
import Derived.Test.YtbapgefodmmikaaGreatDoorLMin
import Derived.Test.YtbapgefodmmikaaGreatDoorL14
import Derived.RangeFuncNested
set_option linter.unusedVariables false
set_option linter.unusedSimpArgs false
set_option maxHeartbeats 40000000
set_option maxRecDepth 100000
namespace Go
open Go.RowKit
theorem RowKit.Below.undrew {w w':World}(h:w.drew w'):w w':=(Below.refl _ w).drew.trans h
structure Lets (X:Nat→Option Obj→Prop) (w w':World):Prop where
 os:w'.os=w.os
 tape:w'.tape=w.tape
 output:w'.output=w.output
 size:w.heap.size≤w'.heap.size
 block:∀ k,k < w.heap.size→¬ X k w.heap[k]?→w'.heap[k]? = w.heap[k]?
namespace Lets
variable {X Y:Nat→Option Obj→Prop}{w w' w'':World}
theorem refl (X:Nat→Option Obj→Prop) (w:World):Lets X w w:=⟨rfl,rfl,rfl,Nat.le_refl _,fun _ _ _=>rfl⟩
theorem trans (h:Lets X w w') (k:Lets X w' w''):Lets X w w'' :=
 ⟨k.os.trans h.os,k.tape.trans h.tape,k.output.trans h.output,Nat.le_trans h.size k.size,fun i hi hx=>by
  have e:=h.block i hi hx
  exact (k.block i (by have:=h.size;omega) (by rw [e];exact hx)).trans e⟩
theorem mono (h:Lets X w w') (hm:∀ k,k < w.heap.size→X k w.heap[k]?→Y k w.heap[k]?):Lets Y w w' :=
 ⟨h.os,h.tape,h.output,h.size,fun k hk hy=>h.block k hk fun hx=>hy (hm k hk hx)⟩
theorem of_below (h:w w'):Lets X w w':=⟨h.os,h.tape,h.output,h.size,fun k hk _=>h.block k hk⟩
theorem none {w w':World}(h:Lets (fun _ _=>False) w w'):w w':=⟨h.os,h.tape,h.output,h.size,fun k hk=>h.block k hk (fun e=>e)⟩
theorem below {n:Nat}(h:Lets X w w') (hn:n≤w.heap.size) (hx:∀ k,k < n→¬ X k w.heap[k]?):Below n w w':=⟨h.os,h.tape,h.output,h.size,fun k hk=>h.block k om_ (hx k hk)⟩
theorem alloc (h:Lets X w w') (o:Obj):Lets X w (w'.alloc o):=h.trans (of_below (br_.alloc nl_ _))
theorem drew (h:Lets X w w'):Lets X w w'.drew:=⟨h.os,h.tape,h.output,h.size,h.block⟩
theorem setCell (h:Lets X w w') {p:Addr}(hp:X p.block w'.heap[p.block]?) (v:Value):Lets X w (w'.setCell p v) :=
 h.trans ⟨rfl,rfl,rfl,sp_,fun k hk hx=>Below.heap_setCell w' p v k (fun e=>by subst e;exact hx hp)⟩
theorem putObj (h:Lets X w w') {p:Nat}(hp:X p w'.heap[p]?) (o:Obj):Lets X w (w'.putObj p o) :=
 h.trans ⟨rfl,rfl,rfl,sp_,fun k hk hx=>World.putObj_heap_other (fun e=>by subst e;exact hx hp)⟩
theorem rowed {b:Nat}{B:Array Value}{t:TypeId}(h:Lets X w w') (hr:Rowed w' b B t w'') (hp:X b w'.heap[b]?):Lets X w w'':=by
 have hb:=hr.below (Below.refl b w') nl_
 refine h.trans ⟨hb.os,hb.tape,hb.output,by rw [hr.size];exact Nat.le_refl _,fun k hk hx=>?_⟩
 exact hr.heap k (fun e=>by subst e;exact hx hp)
theorem grown {row:Option Nat}(h:Lets X w w') (hg:w'.grownBy w'' row) (hr:∀ k,row=some k→k < w'.heap.size→X k w'.heap[k]?):Lets X w w'' :=
 h.trans ⟨hg.os,hg.tape,hg.output,hg.size,fun k hk hx=>hg.block k hk (fun e=>hx (hr k e.symm hk))⟩
theorem blk (h:Lets X w w') {b:Nat}{A:Array Value}{t:TypeId}(hb:Blk w b A t) (hx:¬ X b w.heap[b]?):Blk w' b A t:=(h.block b hb.lt hx).trans hb
theorem cell (h:Lets X w w') {a:Addr}{v:Value}(hc:w.cell? a=some v) (hx:¬ X a.block w.heap[a.block]?):w'.cell? a=some v:=(World.cell?_of_block (h.block _ (bl_ w _ hc) hx)).trans hc
theorem next (h:Lets X w w') (k:Lets Y w' w'') (hY:∀ i,i < w.heap.size→¬ X i w.heap[i]?→¬ Y i w'.heap[i]?):Lets X w w'' :=
 ⟨k.os.trans h.os,k.tape.trans h.tape,k.output.trans h.output,Nat.le_trans h.size k.size,fun i hi hx=>(k.block i (by have:=h.size;omega) (hY i hi hx)).trans (h.block i hi hx)⟩
end Lets
def Zyb {α:Type}(P:Program) (gf:Nat) (lb:Array Value) (encs:α→Array Value) (xs:List α) (XI XR:Nat→Option Obj→Prop) (Mid:World→Prop) (l:Nat) (W:World):Prop :=
 ∀ (J:Nat→World→Prop) (Jx:World→Prop),
  (∀ k A B,J k A→Lets XI A B→J k B)→(∀ A B,Jx A→Lets XI A B→Jx B) →
  (∀ k (h:k < xs.length) W1,J k W1→Mid W1→YieldAt Fence.wide 0 P l (encs xs[k]) W1 fun e W' =>
   Lets XR W1 W'∧Mid W'∧((e=.returned (.bool true)∧J (k+1) W')∨(e=.returned (.bool false)∧Jx W'))) →
  J 0 W→CallsIn Fence.wide 0 P gf (#[.func (.yield l) #[] #[]] ++ lb) W fun e W'=>(∃ v,e=.returned v)∧Mid W'∧(J xs.length W'∨Jx W')
def rngPost (XB:Nat→Option Obj→Prop) (Mid:World→Prop) (I:World→Prop) (Ix:Code→World→Prop) (W:World):Exit→Act→World→Prop
 | .normal,_,W'=>Lets XB W W'∧Mid W'∧I W'
 | .ret,_,W'=>Lets XB W W'∧Mid W'∧Ix .ret W'
 | .exit id,_,W'=>Lets XB W W'∧Mid W'∧Ix (.exit id) W'
 | .goto t,_,W'=>Lets XB W W'∧Mid W'∧Ix (.goto t) W'
 | .panic _,_,_=>False
 | .outgrown,_,_=>False
theorem Za3 {n:Nat}{X:Nat→Option Obj→Prop}{w A B:World}(h:RowKit.Below n w A) (hl:Lets X A B) (hn:n≤w.heap.size) (hx:∀ k o,k < n→¬ X k o):RowKit.Below n w B :=
 h.trans ⟨hl.os,hl.tape,hl.output,hl.size,fun k hk=>hl.block k (by have:=h.size;omega) (hx k _ hk)⟩
theorem Zc8 {X:Nat→Option Obj→Prop}{A B:World}{b:Nat}{c:Array Value}{t:TypeId}(h:Blk A b c t) (hl:Lets X A B) (hx:∀ o,¬ X b o):Blk B b c t:=hl.blk h (hx _)
theorem Zbu {P:Program}{fn:Func}{v:Value}{a:Act}{w:World}{R:Ending→World→Prop}{D:Nat}(hd:a.defers=[{ target:=.collected D,args:=#[] }]) (hD:w.heap[D]? = some (.deferred (some [])))
  (h:∀ w',Lets (fun k _=>k=D) w w'→w'.heap.size=w.heap.size→(results fn a.tmps).run P w'=.ok v w'∧R (.returned v) w'):bodyPostM Fence.wide 0 P fn R .ret a w:=by
 show LeavesInM _ _ _ _ _ _ a.defers _ _
 rw [hd]
 refine ⟨sp_,.inl ⟨D,w.putObj D (.deferred none),rfl,run_takeDeferred hD,?_⟩⟩
 have:=h (w.putObj D (.deferred none)) ((Lets.refl _ _).putObj rfl _) sp_
 exact ⟨v,this.1,this.2⟩
theorem Zvn {P:Program}{fn:Func}{v:Value}{a:Act}{w:World}{R:Ending→World→Prop}(hd:a.defers=[]) (h:(results fn a.tmps).run P w=.ok v w) (hr:R (.returned v) w):bodyPostM Fence.wide 0 P fn R .ret a w:=by
 show LeavesInM _ _ _ _ _ _ a.defers _ _
 rw [hd]
 exact ⟨v,h,hr⟩
variable {P:Program}
def Zcp (P:Program) (L:Nat) (XB:Nat→Option Obj→Prop) (Mid:World→Prop) (I0 I1:World→Prop) (Ix:Code→World→Prop) (assign body:Code) (tmps:Array Value) (W:World):Prop :=
 assign.wpIn (Fence.wide.inRound L) 0 P (Exit.then (fun a₁ W₁=>Lets (fun _ _=>False) W W₁∧∀ W₂,Lets (fun j _=>j=L) W₁ W₂→W₂.heap.size=W₁.heap.size→I0 W₂→Mid W₂ →
  body.wpIn (Fence.wide.inRound L) 0 P (rngPost XB Mid I1 Ix W₂) a₁ W₂) (fun _ _ _=>False)) { tmps,defers:=[] } W
theorem Ztp {α:Type}{gf:Nat}{lb:Array Value}{encs:α→Array Value}{xs:List α}{XI XB:Nat→Option Obj→Prop}{Mid:World→Prop}{I:Nat→World→Prop}{Ix:Code→World→Prop}{L D:Nat}{W1:World}
  {fn:FuncId}{tmps:Array Value}{ps:Array Tmp}{assign body:Code}
  (hL:W1.heap[L]? = some (.loop { state:=.ready,pending:=none,fn,tmps,params:=ps,assign,body,defers:=D }))
  (hps:∀ x,(encs x).size=ps.size)
  (hseq:Zyb P gf lb encs xs XI (fun j o=>XB j o∨j=L) Mid L W1)
  (hXI:∀ o,¬ XI L o) (hXB:∀ o,¬ XB L o)
  (hI:∀ k A B,I k A→Lets XI A B→I k B) (hIx:∀ c A B,Ix c A→Lets XI A B→Ix c B)
  (hI2:∀ k A B,I k A→Lets (fun j _=>j=L) A B→I k B) (hIx2:∀ c A B,Ix c A→Lets (fun j _=>j=L) A B→Ix c B) (hM2:∀ A B,Mid A→Lets (fun j _=>j=L) A B→Mid B)
  (h0:I 0 W1)
  (hround:∀ k (h:k < xs.length) W,I k W→Mid W→(∃ r,W.heap[L]? = some (.loop r)∧r.defers=D)→Zcp P L XB Mid (I k) (I (k+1)) Ix assign body ((ps.zip (encs xs[k])).foldl (fun t (p,v)=>t.setIfInBounds p v) tmps) W) :
  CallsIn Fence.wide 0 P gf (#[.func (.yield L) #[] #[]] ++ lb) W1 fun e W2=>(∃ v,e=.returned v) ∧
   ((∃ W',(Instr.endLoop L).run P W2=.ok none W'∧I xs.length W'∧Mid W')∨(∃ c W',(Instr.endLoop L).run P W2=.ok (some c) W'∧Ix c W'∧Mid W')):=by
 obtain ⟨rec,hrec⟩:∃ rec:LoopState→Option Code→Loop,rec=fun st pe=>{ state:=st,pending:=pe,fn,tmps,params:=ps,assign,body,defers:=D }:=⟨_,rfl⟩
 have hL1:W1.heap[L]? = some (.loop (rec .ready none)):=by rw [hrec];exact hL
 clear hL
 have hturn:∀ (A:World) (o:Obj),Lets (fun j _=>j=L) A (A.putObj L o):=fun A o=>(Lets.refl _ _).putObj rfl _
 refine (hseq (fun k W=>I k W∧W.heap[L]? = some (.loop (rec .ready none))) (fun W=>∃ c,Ix c W∧W.heap[L]? = some (.loop (rec .done (some c))))
  (fun k A B h hl=>⟨hI k A B h.1 hl,(hl.block L (Array.getElem?_eq_some_iff.1 h.2).1 (hXI _)).trans h.2⟩)
  (fun A B h hl=>by obtain ⟨c,h1,h2⟩:=h;exact ⟨c,hIx c A B h1 hl,(hl.block L (Array.getElem?_eq_some_iff.1 h2).1 (hXI _)).trans h2⟩)
  ?_ ⟨h0,hL1⟩).mono ?_
 ·rintro k hk W ⟨hi,hl⟩ hmid
  have hlt:L < W.heap.size:=(Array.getElem?_eq_some_iff.1 hl).1
  have hy:=run_yield (P:=P) (args:=encs xs[k]) hl (by rw [hrec];exact hps _)
  rw [hrec] at hy
  refine ⟨fn,_,assign,body,hy,roundIn_of_wpIn trivial (wpIn_mono (hround k hk W hi hmid ⟨_,hl,by rw [hrec]⟩) ?_)⟩
  clear hy
  rintro e a₁ Wa ha
  cases e with
  | normal =>
   obtain ⟨hWa,hbody⟩:=ha
   have hla:Wa.heap[L]? = some (.loop (rec .ready none)):=(hWa.block L hlt (fun e=>e)).trans hl
   have hlta:L < Wa.heap.size:=(Array.getElem?_eq_some_iff.1 hla).1
   refine ⟨_,run_beginRound hla (by rw [hrec]),?_⟩
   obtain ⟨W₂,hW₂⟩:∃ W₂,Wa.putObj L (.loop { rec .ready none with state:=.busy })=W₂:=⟨_,rfl⟩
   rw [hW₂]
   have h2:Lets (fun j _=>j=L) Wa W₂:=by rw [← hW₂];exact hturn _ _
   have hl2:W₂.heap[L]? = some (.loop { rec .ready none with state:=.busy }):=by rw [← hW₂];exact World.putObj_heap_same hlta
   have hs2:W₂.heap.size=Wa.heap.size:=by rw [← hW₂];simp
   have hWa':Lets (fun j _=>j=L) W Wa:=hWa.mono (fun _ _ e=>e.elim)
   refine wpIn_mono (hbody W₂ h2 hs2 (hI2 k _ _ hi (hWa'.trans h2)) (hM2 _ _ hmid (hWa'.trans h2))) ?_
   have fin:∀ (jump:Option Code) (W3:World),Lets XB W₂ W3 →
     (Instr.endRound L jump).run P W3=.ok (.bool jump.isNone) (W3.putObj L (.loop (rec (if jump.isNone then .ready else .done) jump))) ∧
     (W3.putObj L (.loop (rec (if jump.isNone then .ready else .done) jump))).heap[L]? = some (.loop (rec (if jump.isNone then .ready else .done) jump)) ∧
     Lets (fun j o=>XB j o∨j=L) W (W3.putObj L (.loop (rec (if jump.isNone then .ready else .done) jump))):=fun jump W3 h3=>by
    have hl3:=(h3.block L (Array.getElem?_eq_some_iff.1 hl2).1 (hXB _)).trans hl2
    have:=run_endRound (P:=P) jump hl3
    rw [hrec] at this ⊢
    refine ⟨this,World.putObj_heap_same (Array.getElem?_eq_some_iff.1 hl3).1,?_⟩
    exact ((((hWa'.trans h2).mono (fun _ _ e=>.inr e)):Lets (fun j o=>XB j o∨j=L) W W₂).trans (h3.mono (fun _ _ e=>.inl e))).putObj (.inr rfl) _
   rintro e a3 W3 hp
   cases e with
   | normal =>
    obtain ⟨h3,hm3,hi3⟩:=hp
    obtain ⟨hr,hl4,h4⟩:=fin none W3 h3
    exact ⟨_,_,hr,h4,hM2 _ _ hm3 (hturn _ _),.inl ⟨rfl,hI2 _ _ _ hi3 (hturn _ _),hl4⟩⟩
   | ret =>
    obtain ⟨h3,hm3,hi3⟩:=hp
    obtain ⟨hr,hl4,h4⟩:=fin (some .ret) W3 h3
    exact ⟨_,_,hr,h4,hM2 _ _ hm3 (hturn _ _),.inr ⟨rfl,.ret,hIx2 _ _ _ hi3 (hturn _ _),hl4⟩⟩
   | exit id =>
    obtain ⟨h3,hm3,hi3⟩:=hp
    obtain ⟨hr,hl4,h4⟩:=fin (some (.exit id)) W3 h3
    exact ⟨_,_,hr,h4,hM2 _ _ hm3 (hturn _ _),.inr ⟨rfl,.exit id,hIx2 _ _ _ hi3 (hturn _ _),hl4⟩⟩
   | goto t =>
    obtain ⟨h3,hm3,hi3⟩:=hp
    obtain ⟨hr,hl4,h4⟩:=fin (some (.goto t)) W3 h3
    exact ⟨_,_,hr,h4,hM2 _ _ hm3 (hturn _ _),.inr ⟨rfl,.goto t,hIx2 _ _ _ hi3 (hturn _ _),hl4⟩⟩
   | panic ch=>exact hp.elim
   | outgrown=>exact hp.elim
  | ret=>exact ha.elim
  | exit id=>exact ha.elim
  | goto t=>exact ha.elim
  | panic ch=>exact ha.elim
  | outgrown=>exact ha.elim
 ·rintro e W2 ⟨hv,hm,(⟨hi,hl⟩ | ⟨c,hi,hl⟩)⟩
  ·refine ⟨hv,.inl ⟨W2.putObj L (.loop (rec .exhausted none)),?_,hI2 _ _ _ hi (hturn _ _),hM2 _ _ hm (hturn _ _)⟩⟩
   exact (by have:=run_endLoop (P:=P) hl (by rw [hrec];simp);rw [hrec] at this ⊢;exact this)
  ·refine ⟨hv,.inr ⟨c,W2.putObj L (.loop (rec .exhausted (some c))),?_,hIx2 _ _ _ hi (hturn _ _),hM2 _ _ hm (hturn _ _)⟩⟩
   exact (by have:=run_endLoop (P:=P) hl (by rw [hrec];simp);rw [hrec] at this ⊢;exact this)
theorem Zcq {α:Type}{g:Operand}{ps:Array Tmp}{assign body:Code}{Q:Exit→Act→World→Prop}{a:Act}{w:World}{gf:Nat}{lb:Array Value}
  {encs:α→Array Value}{xs:List α}{XI XB:Nat→Option Obj→Prop}{Mid:World→Prop}(I:Nat→World→Prop) (Ix:Code→World→Prop)
  (hg:a.eval g=.func (.func gf) #[] lb) (eg:∀ args w,(callFunc gf args).run P w=.ok (.enter gf args) w) (hps:∀ x,(encs x).size=ps.size)
  (hseq:∀ W1,Below w.heap.size w W1→W1.heap.size=w.heap.size+2→Zyb P gf lb encs xs XI (fun j o=>XB j o∨j=w.heap.size+1) Mid (w.heap.size+1) W1)
  (hXI:∀ j o,w.heap.size≤j→j≤w.heap.size+1→¬ XI j o) (hXB:∀ j o,w.heap.size≤j→j≤w.heap.size+1→¬ XB j o)
  (hI:∀ k A B,I k A→Lets XI A B→I k B) (hIx:∀ c A B,Ix c A→Lets XI A B→Ix c B)
  (hI2:∀ k A B,I k A→Lets (fun j _=>w.heap.size≤j∧j≤w.heap.size+1) A B→I k B) (hIx2:∀ c A B,Ix c A→Lets (fun j _=>w.heap.size≤j∧j≤w.heap.size+1) A B→Ix c B) (hM2:∀ A B,Mid A→Lets (fun j _=>w.heap.size≤j∧j≤w.heap.size+1) A B→Mid B)
  (h0:I 0 w)
  (hround:∀ k (h:k < xs.length) W,I k W→Mid W→w.heap.size+2≤W.heap.size→(∃ r,W.heap[w.heap.size+1]? = some (.loop r))→Zcp P (w.heap.size+1) XB Mid (I k) (I (k+1)) Ix assign body ((ps.zip (encs xs[k])).foldl (fun t (p,v)=>t.setIfInBounds p v) a.tmps) W)
  (hdone:∀ W,I xs.length W→Mid W→W.heap[w.heap.size]? = some (.deferred (some []))→Q .normal { a with defers:={ target:=.collected w.heap.size,args:=#[] } :: a.defers } W)
  (hstop:∀ c W,Ix c W→Mid W→W.heap[w.heap.size]? = some (.deferred (some []))→c.wpIn Fence.wide 0 P Q { a with defers:={ target:=.collected w.heap.size,args:=#[] } :: a.defers } W) :
  (Code.rangeFunc g ps assign body).wpIn Fence.wide 0 P Q a w:=by
 refine wpIn_rangeFunc ?_
 intro fn _
 obtain ⟨W1,hW1⟩:∃ W1,(w.alloc (.deferred (some []))).alloc (.loop { state:=.ready,pending:=none,fn,tmps:=a.tmps,params:=ps,assign,body,defers:=w.heap.size })=W1:=⟨_,rfl⟩
 have hL1:W1.heap[w.heap.size+1]? = some (.loop { state:=.ready,pending:=none,fn,tmps:=a.tmps,params:=ps,assign,body,defers:=w.heap.size }):=by
  rw [← hW1];have:=World.alloc_heap_new (w.alloc (.deferred (some []))) (.loop { state:=.ready,pending:=none,fn,tmps:=a.tmps,params:=ps,assign,body,defers:=w.heap.size });rwa [World.size_alloc] at this
 have hK1:W1.heap[w.heap.size]? = some (.deferred (some [])):=by
  rw [← hW1];exact (Below.heap_alloc _ _ _ sp_).trans (World.alloc_heap_new w _)
 have hb1:Below w.heap.size w W1:=by rw [← hW1];exact ((Below.refl _ w).alloc nl_ _).alloc sp_ _
 have hs1:W1.heap.size=w.heap.size+2:=by rw [← hW1];simp
 have hn1:∀ Y,Lets Y w W1:=fun Y=>Lets.of_below hb1
 have hLD:∀ {A B:World},Lets (fun j _=>j=w.heap.size+1) A B→Lets (fun j _=>w.heap.size≤j∧j≤w.heap.size+1) A B:=fun h=>h.mono (fun k _ e=>om_)
 have hkeep:∀ {A B:World}{Y:Nat→Option Obj→Prop},Lets Y A B→¬ Y w.heap.size A.heap[w.heap.size]?→A.heap[w.heap.size]? = some (.deferred (some []))→B.heap[w.heap.size]? = some (.deferred (some [])):=fun h hy hd=>(h.block _ (Array.getElem?_eq_some_iff.1 hd).1 hy).trans hd
 refine ⟨w.heap.size+1,[{ target:=.collected w.heap.size,args:=#[] }],W1,{ target:=.fn (.func gf) lb,args:=#[.func (.yield (w.heap.size+1)) #[] #[]] },W1,gf,
  #[.func (.yield (w.heap.size+1)) #[] #[]] ++ lb,W1,?_,?_,fun _ _=>trivial,?_,fun h=>by simp [Fence.wide] at h,?_⟩
 ·rw [← hW1];exact run_enterLoop_outer _ _ _ _ _
 ·simp only [resolve,hg]
  simp [go_sem]
 ·simp [invoke,go_sem,eg]
 ·refine (Ztp (I:=fun k W=>I k W∧W.heap[w.heap.size]? = some (.deferred (some []))∧w.heap.size+2≤W.heap.size) (Ix:=fun c W=>Ix c W∧W.heap[w.heap.size]? = some (.deferred (some []))) hL1 hps (hseq W1 hb1 hs1) (fun o=>hXI _ o om_ om_) (fun o=>hXB _ o om_ om_)
   (fun k A B h hl=>⟨hI k A B h.1 hl,hkeep hl (hXI _ _ nl_ om_) h.2.1,by have:=hl.size;omega⟩) (fun c A B h hl=>⟨hIx c A B h.1 hl,hkeep hl (hXI _ _ nl_ om_) h.2⟩)
   (fun k A B h hl=>⟨hI2 k A B h.1 (hLD hl),hkeep hl om_ h.2.1,by have:=hl.size;omega⟩) (fun c A B h hl=>⟨hIx2 c A B h.1 (hLD hl),hkeep hl om_ h.2⟩)
   (fun A B h hl=>hM2 A B h (hLD hl)) ⟨hI2 0 _ _ h0 (hn1 _),hK1,om_⟩ ?_).mono ?_
  ·rintro k hk W ⟨hi,hd,hsz⟩ hm ⟨r,hr,-⟩
   have h:=hround k hk W hi hm hsz ⟨r,hr⟩
   unfold Zcp at h ⊢
   refine wpIn_mono h ?_
   rintro e a₁ Wa ha
   cases e with
   | normal =>
    obtain ⟨h1,h2⟩:=ha
    refine ⟨h1,fun W₂ hl hs hi2 hm2=>wpIn_mono (h2 W₂ hl hs hi2.1 hm2) ?_⟩
    have hsz2:w.heap.size+2≤W₂.heap.size:=by have:=h1.size;omega
    rintro e a3 W3 hp
    cases e with
    | normal=>exact ⟨hp.1,hp.2.1,hp.2.2,hkeep hp.1 (hXB _ _ nl_ om_) hi2.2.1,by have:=hp.1.size;omega⟩
    | ret=>exact ⟨hp.1,hp.2.1,hp.2.2,hkeep hp.1 (hXB _ _ nl_ om_) hi2.2.1⟩
    | exit id=>exact ⟨hp.1,hp.2.1,hp.2.2,hkeep hp.1 (hXB _ _ nl_ om_) hi2.2.1⟩
    | goto t=>exact ⟨hp.1,hp.2.1,hp.2.2,hkeep hp.1 (hXB _ _ nl_ om_) hi2.2.1⟩
    | panic ch=>exact hp.elim
    | outgrown=>exact hp.elim
   | ret=>exact ha.elim
   | exit id=>exact ha.elim
   | goto t=>exact ha.elim
   | panic ch=>exact ha.elim
   | outgrown=>exact ha.elim
  ·rintro e W2 ⟨⟨v,rfl⟩,(⟨W',he,hi,hm⟩ | ⟨c,W',he,hi,hm⟩)⟩
   ·exact ⟨none,W',he,hdone W' hi.1 hm hi.2.1⟩
   ·exact ⟨some c,W',he,hstop c W' hi.1 hm hi.2⟩
end Go
namespace Go.Proofs.YtbapgefodmmikaaGreatDoor
open Go.RowKit Go.Proofs Go.Ord Tryz
attribute [local irreducible] Ord.walk
theorem Znr (n lo hi:Int) (w:World) :
  Calls prog 209 #[n,lo,hi] w (Same (.bool (decide (lo≤n∧n≤hi))) w):=by
 go_enter func209,ntmps209
 go_wp2
 all_goals go_ret
 all_goals (refine ⟨Zd3 ?_,rfl⟩;simp;try omega)
def refC (e:Int):Value:=.iface 282 ↑e
def Zhh (e:Int) (w:World) (x:Ending) (w':World):Prop:=x=.panicked [{ v:=refC e,recovered:=false }]∧w w'
def StopsCS (e:Int) (w:World) (x:Ending) (w':World):Prop:=x=.panicked [{ v:=refC e,recovered:=false }]∧w=w'
theorem Ze2 (e:Int) (w:World) :
  Calls prog 124 #[.bool true,e] w (Same (.tuple #[]) w):=by
 go_enter func124,ntmps124
 go_wp2
 go_end0
 exact ⟨rfl,rfl⟩
theorem Zfv (e:Int) (w:World) :
  Calls prog 124 #[.bool false,e] w (StopsCS e w):=by
 go_enter func124,ntmps124
 go_wp2
 exact ⟨rfl,rfl,rfl⟩
theorem Zsz (v:Value) (w:World) :
  Calls prog 372 #[v] w (Same (.bool true) w):=by
 go_enter func372,ntmps372
 go_wp2
 go_ret
 exact ⟨rfl,rfl⟩
theorem Zw9 (a b:Int) (W:World):(Builtin.min2 ↑a ↑b).run prog W=.ok ↑(min a b) W:=by
 by_cases h:b < a
 ·have:min a b=b:=by omega
  simp [Builtin.min2,go_sem,h,this]
 ·have:min a b=a:=by omega
  simp [Builtin.min2,go_sem,h,this]
theorem Zbt {ops:Array Oper}{Q:Exit→Act→World→Prop}{o:Oper}{rest:List Oper}{a:Act}{w:World}(x y:Operand) (hgd:o.guard=none) (ho:o.op=.call { callee:=.builtin .min,args:=[x,y].toArray,argTypes:=#[3,3] }) {p q:Int}(hx:a.eval x=↑p) (hy:a.eval y=↑q)
  (hK:wpList prog ops Q rest (a.put o.dst ↑(min p q)) w):wpList prog ops Q (o :: rest) a w:=by
 refine wpList_plain hgd fun K' hK'=>?_
 have:=hK' _ _ hK
 unfold Oper.wp
 generalize a.eval=ev at *
 simp [execOp,ho,hx,hy,Builtin.min_,go_sem,Zw9,Result.andThen]
 exact this
theorem Zwa (a b:Int) (W:World):(Builtin.max2 ↑a ↑b).run prog W=.ok ↑(max a b) W:=by
 by_cases h:b > a
 ·have:max a b=b:=by omega
  simp [Builtin.max2,go_sem,h,this]
 ·have:max a b=a:=by omega
  simp [Builtin.max2,go_sem,h,this]
theorem Zer {ops:Array Oper}{Q:Exit→Act→World→Prop}{o:Oper}{rest:List Oper}{a:Act}{w:World}(x y:Operand) (hgd:o.guard=none) (ho:o.op=.call { callee:=.builtin .max,args:=[x,y].toArray,argTypes:=#[3,3] }) {p q:Int}(hx:a.eval x=↑p) (hy:a.eval y=↑q)
  (hK:wpList prog ops Q rest (a.put o.dst ↑(max p q)) w):wpList prog ops Q (o :: rest) a w:=by
 refine wpList_plain hgd fun K' hK'=>?_
 have:=hK' _ _ hK
 unfold Oper.wp
 generalize a.eval=ev at *
 simp [execOp,ho,hx,hy,Builtin.max_,go_sem,Zwa,Result.andThen]
 exact this
theorem c_sum (x y:Int) (hx : -1000000≤x∧x≤1000000) (hy : -1000000≤y∧y≤1000000) (w:World) (p:Nat) (hb:Blk w p #[x,y] 3) :
  Calls prog 362 #[.slice p 2 2] w (Same ↑(sum2 x y) w):=by
 have rb:=hb.cell
 have c0:w.cell? ⟨p,0,none⟩=some (.int .i64 x):=rb 0
 have c1:w.cell? ⟨p,1,none⟩=some (.int .i64 y):=rb 1
 clear rb
 go_enter func362,ntmps362
 go_wp2
 go_loopw [2,4,7] (fun x2 x4 x7 wr=>wr=w∧((x7=↑()∧x2=↑())∨(x7=.int .i64 1∧x2=↑(min 65536 x))∨(x7=.int .i64 2∧x2=↑(sum2 x y)))) (fun _ _ x7 _=>(2 - intOf x7).toNat)
 case atStart=>exact ⟨rfl,.inl ⟨rfl,rfl⟩⟩
 case round =>
  obtain ⟨rfl,⟨rfl,rfl⟩ | ⟨rfl,rfl⟩ | ⟨rfl,rfl⟩⟩:=hrel
  ·go_wp2_with (refine Zbt (.const (.int .i64 65536)) (.tmp 13) rfl rfl rfl rfl ?_)
   exact ⟨⟨trivial,.inr (.inl ⟨by first|trivial|rfl,sp_⟩)⟩,by simp [intOf]⟩
  ·have hm : -1000000≤min 65536 x∧min 65536 x≤65536:=by omega
   generalize hmm:min 65536 x=m at *
   go_wp2_with (refine Zbt (.const (.int .i64 65536)) (.tmp 13) rfl rfl rfl rfl ?_)
   exact ⟨⟨trivial,.inr (.inr ⟨by first|trivial|rfl,by simp [sum2,hmm]⟩)⟩,by simp [intOf]⟩
  ·go_wp2
   go_ret
   exact ⟨rfl,rfl⟩
theorem Za7:Zdw prog 182 31:=⟨_,underlying182,rfl,by kernel_rfl⟩
def Zya (c:Nat→Int):Prop:=∀ i,i < 31→-1000000≤c i∧c i≤1000000
theorem Zck (c:Nat→Int):(cs c).all (·.oneCell')=true:=by
 rw [Array.all_eq_true]
 intro i hi
 have h:i < 31:=by simpa [cs] using hi
 simp [cs,Value.oneCell']
def Off1 (b:Nat) (w w':World):Prop:=∀ q,q≠b→w'.heap[q]? = w.heap[q]?
theorem Off1.blk {b x:Nat}{w w':World}{A:Array Value}{t:TypeId}(h:Off1 b w w') (hb:Blk w x A t) (hx:x≠b):Blk w' x A t:=(h x hx).trans hb
theorem c_plus (c o:Nat→Int) (hc:Zya c) (ho:Zya o) (w:World) :
  Calls prog 361 #[.agg (cs c),.agg (cs o)] w (Zak (.agg (cs (Zn1 c o))) w):=by
 have HC:=hd_ hc
 have HO:=hd_ ho
 clear hc ho
 go_enter func361,ntmps361
 go_wp2
 have b2:=((Blk.new w (cs c) 182).alloc (.cells (cs o) 182)).alloc (.cells (cs fun _=>0) 182)
 have b3:=(Blk.new' (w.alloc (.cells (cs c) 182)) (cs o) 182 (w.heap.size+1) sp_).alloc (.cells (cs fun _=>0) 182)
 have b4:=Blk.new' ((w.alloc (.cells (cs c) 182)).alloc (.cells (cs o) 182)) (cs fun _=>0) 182 (w.heap.size+1+1) sp_
 have hB:w (((w.alloc (.cells (cs c) 182)).alloc (.cells (cs o) 182)).alloc (.cells (cs fun _=>0) 182)):=(((Below.refl w.heap.size w).alloc nl_ _).alloc ar_ _).alloc ar_ _
 go_loopw [5,6] (fun x5 x6 wr=>∃ k:Nat,k≤31∧x6=↑k∧Below w.heap.size w wr∧Blk wr w.heap.size (cs (mixC (Zn1 c o) c k)) 182∧Blk wr (w.heap.size+1) (cs o) 182∧Blk wr (w.heap.size+1+1) (cs fun _=>0) 182) (fun _ x6 _=>(31 - intOf x6).toNat)
 case atStart=>exact ⟨0,om_,rfl,hB,by rw [Ziz];exact b2,b3,b4⟩
 case round =>
  clear b2 b3 b4 hB
  obtain ⟨k,hk,rfl,hB,b2,b3,b4⟩:=hrel
  by_cases hlt:k < 31
  ·have hlti:(k:Int) < 31:=by omega
   have c2:wr.cell? ⟨w.heap.size,k,none⟩=some (.int .i64 (c k)):=by rw [b2.cell,Zgc _ hlt];simp [mixC]
   have c3:wr.cell? ⟨w.heap.size+1,k,none⟩=some (.int .i64 (o k)):=by rw [b3.cell,Zgc _ hlt]
   have f2:=b2.free k
   have l2:=b2.lt
   have l3:=b3.lt
   have l4:=b4.lt
   go_upto_region 4 with fail
   refine Zyu [(0,1),(1,0),(2,0),(3,0),(4,0),(5,0),(6,0),(7,2),(8,2),(9,0),(10,2)] (fun _=>True) kr_ kr_ trivial ?_
   go_wp2_with (first
    | (go_at_call 362;refine (c_sum _ _ (HC.out k hlt) (HO.out k hlt) _ _ (Blk.new _ _ _).drew).mono ?_;rintro e w5 ⟨rfl,rfl⟩)
    | (with_reducible refine Zyp ?_)
    | (refine o_ ?_;intro K hK)|(with_reducible first|refine Zyo ?_ ?_|refine Zyj ?_|refine Zyf bn_ (fun _=>?_)))
   have hBs:=hB.size
   have hO:Off1 w.heap.size wr (wr.setCell ⟨w.heap.size,k,none⟩ (.int .i64 (sum2 (c k) (o k)))):=fun q hq=>Below.heap_setCell _ _ _ _ (fun e=>hq e)
   refine ⟨⟨k+1,om_,by go_num,(((hB.setCell nl_ _).alloc (by simp;omega) _).drew),?_,((hO.blk b3 om_).alloc _).drew,((hO.blk b4 om_).alloc _).drew⟩,by simp [intOf];omega⟩
   have h2:=b2.set k (.int .i64 (sum2 (c k) (o k)))
   rw [Zsw _ hlt,show sum2 (c k) (o k)=Zn1 c o k from rfl,Zh2] at h2
   exact (h2.alloc _).drew
  ·have hk31:k=31:=by omega
   subst hk31
   have hlti:¬ ((31:Nat):Int) < 31:=by omega
   rw [Zj0] at b2
   go_wp2_with (first
    | (refine Za0 182 (.tmp 2) Za7 rfl rfl rfl b2 (Za9 _) ?_)
    | (refine Za1 182 (.tmp 4) (.tmp 20) Za7 rfl rfl rfl rfl b4 (Za9 _) (Za9 _) (Zck _) ?_;intro w6 h6;refine Za2 ?_))
   unfold Stop
   go_wp2
   refine bodyPost_ret (v:=.agg (cs (Zn1 c o))) (Za5 rfl _ Za7 rfl h6.blk (Za9 _)) rfl ⟨rfl,h6.below hB om_⟩
theorem c_min (c:Nat→Int) (p a n cap:Nat) (ha:a+n < 31) (w:World) (hb:Blk w p (cs c) 182) :
  Calls prog 307 #[.slice (some ⟨p,a,none⟩) (n+1) cap] w (Same ↑(Zf3 c a n) w):=by
 have hcell:∀ j,j≤n→w.cell? ⟨p,a+j,none⟩=some (.int .i64 (c (a+j))):=fun j hj=>by rw [hb.cell,Zgc _ om_]
 have HC:=hd_ hcell
 have c0:w.cell? ⟨p,a,none⟩=some (.int .i64 (c a)):=hcell 0 om_
 clear hcell hb
 have hn:(n:Int) < 31:=by omega
 go_enter func307,ntmps307
 go_wp2
 go_loopw [3,4] (fun x3 x4 wr=>wr=w∧∃ k:Nat,k≤n∧x4=.int .i64 ((k:Int)+1)∧x3=↑(Zf3 c a k)) (fun _ x4 _=>(31 - intOf x4).toNat)
 case atStart=>exact ⟨rfl,0,om_,rfl,rfl⟩
 case round =>
  obtain ⟨rfl,k,hk,rfl,rfl⟩:=hrel
  by_cases hlt:k < n
  ·have hlti:(k:Int) < (n:Int):=by omega
   have c1:wr.cell? ⟨p,a+(k+1),none⟩=some (.int .i64 (c (a+(k+1)))):=HC.out (k+1) om_
   go_wp2_with (refine Zbt (.tmp 18) (.tmp 22) rfl rfl rfl rfl ?_)
   exact ⟨⟨trivial,k+1,om_,by go_num,rfl⟩,by simp [intOf];omega⟩
  ·have hkn:k=n:=by omega
   subst hkn
   go_wp2
   go_ret
   exact ⟨rfl,rfl⟩
theorem c_least (c:Nat→Int) (w:World) :
  Calls prog 270 #[.agg (cs c)] w (Zak ↑(Zwd c) w):=by
 go_enter func270,ntmps270
 go_wp2_with (first
  | (go_at_call 307;refine (c_min c w.heap.size 0 30 31 om_ _ (Blk.new _ _ _)).mono ?_;rintro e w5 ⟨rfl,rfl⟩))
 go_ret
 exact ⟨rfl,br_.alloc nl_ _⟩
theorem Ziq {P:Program}{ops:Array Oper}{rest:List Oper}{o:Oper}{a:Act}{w:World}{Q:Exit→Act→World→Prop}(ty:TypeId) (x lo hi:Operand) (hgd:o.guard=none) (ho:o.op=.slice ty x (some lo) (some hi) none)
  {n l m b:Nat}{e:TypeId}(hu:P.underlying ty=some (.array n e)) (hs:(P.info? e).map (·.size)=some 1) (hx:a.eval x=.pointer b) {L H:Int}(hl:a.eval lo=↑L) (hh:a.eval hi=↑H) (hL:L=(l:Int)) (hH:H=(l:Int)+(m:Int)) (h2:l+m≤n) (h3:l < n)
  (hK:wpList P ops Q rest (a.put o.dst (.slice (some ⟨b,l,none⟩) m (n - l))) w):wpList P ops Q (o :: rest) a w:=by
 subst hL hH
 refine wpList_plain hgd fun K' hK'=>?_
 have:=hK' _ _ hK
 have hn:P.arrayLen ty=n:=by simp [Program.arrayLen,hu]
 have he:P.elem ty=e:=by simp [Program.elem,hu]
 have hr:=run_sliceAt_array_lh (P:=P) w ty ⟨b,0,none⟩ (by rw [hn,he];exact hu) .i64 .i64 (l:Int) ((l:Int)+(m:Int)) om_ om_ (by rw [hn];omega)
 have hsz:(sizeOf e).run P w=.ok 1 w:=by
  cases hi:P.info? e with
  | none=>rw [hi] at hs;cases hs
  | some i=>rw [hi] at hs;simp at hs;simp [sizeOf,typeInfo,hi,hs]
 rw [he,hsz,hn] at hr
 simp only [Result.andThen_ok,slicedAt,show ((l:Int)).toNat=l by omega,show ((l:Int)+(m:Int)).toNat=l+m by omega,if_neg (show ¬ n=l by omega)] at hr
 unfold Oper.wp
 simp only [execOp,ho,hx,hl,hh,Option.map_some,Option.map_none]
 have e:(if l=0 then (⟨b,0,none⟩:Addr) else ⟨b,l,none⟩)=⟨b,l,none⟩:=by split <;> simp_all
 simp [hr,Result.andThen,Addr.add,e]
 exact this
theorem Zoe:prog.underlying 182=some (.array 31 3):=underlying182
theorem Zsc:(prog.info? 3).map (·.size)=some 1:=by kernel_rfl
theorem c_drift (d:Nat) (hd:d≤30) (c:Nat→Int) (w:World) :
  Calls prog 359 #[.agg #[d],.agg (cs c)] w (Zak (.agg (cs (Zen d c))) w):=by
 have hdi:(d:Int)≤30:=by omega
 go_enter func359,ntmps359
 go_wp2
 have b2:=((Blk.new w #[d] 285).alloc (.cells (cs c) 182)).alloc (.cells (cs fun _=>0) 182)
 have b3:=(Blk.new' (w.alloc (.cells #[d] 285)) (cs c) 182 (w.heap.size+1) sp_).alloc (.cells (cs fun _=>0) 182)
 have b4:=Blk.new' ((w.alloc (.cells #[d] 285)).alloc (.cells (cs c) 182)) (cs fun _=>0) 182 (w.heap.size+1+1) sp_
 have hB:w (((w.alloc (.cells #[d] 285)).alloc (.cells (cs c) 182)).alloc (.cells (cs fun _=>0) 182)):=(((Below.refl w.heap.size w).alloc nl_ _).alloc ar_ _).alloc ar_ _
 go_loopw [5,6] (fun x5 x6 wr=>∃ k:Nat,k≤31∧x6=↑k∧Below w.heap.size w wr∧Blk wr w.heap.size #[d] 285∧Blk wr (w.heap.size+1) (cs c) 182∧Blk wr (w.heap.size+1+1) (cs (mixC (Zen d c) (fun _=>0) k)) 182) (fun _ x6 _=>(31 - intOf x6).toNat)
 case atStart=>exact ⟨0,om_,rfl,hB,b2,b3,by rw [Ziz];exact b4⟩
 case round =>
  clear b2 b3 b4 hB
  obtain ⟨k,hk,rfl,hB,b2,b3,b4⟩:=hrel
  by_cases hlt:k < 31
  ·have hlti:(k:Int) < 31:=by omega
   have c2:wr.cell? ⟨w.heap.size,0,none⟩=some (.int .i64 (d:Int)):=b2.cell 0
   have f4:=b4.free k
   have c4:wr.cell? ⟨w.heap.size+1+1,k,none⟩=some (.int .i64 0):=by rw [b4.cell,Zgc _ hlt];simp [mixC]
   have l2:=b2.lt
   have l3:=b3.lt
   have l4:=b4.lt
   obtain ⟨lo,hlo⟩:∃ lo,k - d=lo:=⟨_,rfl⟩
   obtain ⟨n,hn⟩:∃ n,min 30 (k+d) - (k - d)=n:=⟨_,rfl⟩
   have hln:lo+n < 31:=by omega
   have e1:max (0:Int) ((k:Int) - (d:Int))=(lo:Int):=by omega
   have e2:min (31:Int) ((k:Int)+(d:Int)+1)=(lo:Int)+((n+1:Nat):Int):=by omega
   have hD:=hd_ (show Zf3 c lo n=Zen d c k by unfold Zen;rw [hn,hlo])
   have E1:=hd_ e1
   have E2:=hd_ e2
   have hHlo:=hd_ hlo
   have hHn:=hd_ hn
   clear e1 e2 hlo hn
   go_wp2_with (first
    | (refine Zer (.const ↑()) (.tmp 13) rfl rfl rfl rfl ?_;rw [E1.out])
    | (refine Zbt (.const (.int .i64 31)) (.tmp 19) rfl rfl rfl rfl ?_;rw [E2.out])
    | (refine Ziq 182 (.tmp 3) (.tmp 14) (.tmp 20) rfl rfl Zoe Zsc rfl rfl rfl rfl rfl om_ om_ ?_)
    | (go_at_call 307;refine (c_min c _ lo n _ hln _ b3).mono ?_;rintro e w5 ⟨rfl,rfl⟩))
   have hBs:=hB.size
   have hO:Off1 (w.heap.size+1+1) wr (wr.setCell ⟨w.heap.size+1+1,k,none⟩ (.int .i64 (Zf3 c lo n))):=fun q hq=>Below.heap_setCell _ _ _ _ (fun e=>hq e)
   refine ⟨⟨k+1,om_,by go_num,hB.setCell (by simp;omega) _,hO.blk b2 om_,hO.blk b3 om_,?_⟩,by simp [intOf];omega⟩
   have h2:=b4.set k (.int .i64 (Zf3 c lo n))
   rw [Zsw _ hlt,hD.out,Zh2] at h2
   rw [hD.out]
   exact h2
  ·have hk31:k=31:=by omega
   subst hk31
   have hlti:¬ ((31:Nat):Int) < 31:=by omega
   rw [Zj0] at b4
   go_wp2_with (first
    | (refine Za0 182 (.tmp 4) Za7 rfl rfl rfl b4 (Za9 _) ?_)
    | (refine Za1 182 (.tmp 4) (.tmp 25) Za7 rfl rfl rfl rfl b4 (Za9 _) (Za9 _) (Zck _) ?_;intro w6 h6;refine Za2 ?_))
   unfold Stop
   go_wp2
   refine bodyPost_ret (v:=.agg (cs (Zen d c))) (Za5 rfl _ Za7 rfl h6.blk (Za9 _)) rfl ⟨rfl,h6.below hB om_⟩
def Ze4 (b:Int × Int × Int):Prop:=1≤b.1∧b.1≤30∧0≤b.2.1∧b.2.1≤b.1∧0≤b.2.2∧b.2.2≤b.2.1
abbrev Zce (d:Int) (b:Int × Int × Int) (tk:Bool):Array Value:=#[d,.int .i64 b.1,.int .i64 b.2.1,.int .i64 b.2.2,.bool tk]
theorem c_own (d:Int) (b:Int × Int × Int) (tk:Bool) (hb:Ze4 b) (w:World) :
  Calls prog 212 #[.agg (Zce d b tk)] w (Zak (.agg (cs (ownC b tk))) w):=by
 obtain ⟨F,L,W⟩:=b
 obtain ⟨h1,h2,h3,h4,h5,h6⟩:=hb
 simp only at h1 h2 h3 h4 h5 h6
 obtain ⟨g,hg⟩:∃ g,ownC (F,L,W) tk=g:=⟨_,rfl⟩
 have hgk:=hd_ (fun k:Nat=>congrFun hg k)
 rw [hg]
 clear hg
 go_enter func212,ntmps212
 go_wp2
 have b2:=(Blk.new w (Zce d (F,L,W) tk) 287).alloc (.cells (cs fun _=>0) 182)
 have b3:=Blk.new' (w.alloc (.cells (Zce d (F,L,W) tk) 287)) (cs fun _=>0) 182 (w.heap.size+1) sp_
 have hB:w ((w.alloc (.cells (Zce d (F,L,W) tk) 287)).alloc (.cells (cs fun _=>0) 182)):=((Below.refl w.heap.size w).alloc nl_ _).alloc ar_ _
 go_loopw [3,4,5,6,24,32] (fun x3 x4 x5 x6 x24 x32 wr=>∃ k:Nat,k≤31∧x6=↑k∧Below w.heap.size w wr∧Blk wr w.heap.size (Zce d (F,L,W) tk) 287∧Blk wr (w.heap.size+1) (cs (mixC g (fun _=>0) k)) 182) (fun _ _ _ x6 _ _ _=>(31 - intOf x6).toNat)
 case atStart=>exact ⟨0,om_,rfl,hB,b2,by rw [Ziz];exact b3⟩
 case round =>
  clear b2 b3 hB
  obtain ⟨k,hk,rfl,hB,b2,b3⟩:=hrel
  by_cases hlt:k < 31
  ·have hlti:(k:Int) < 31:=by omega
   have c1:wr.cell? ⟨w.heap.size,1,none⟩=some (.int .i64 F):=b2.cell 1
   have c2:wr.cell? ⟨w.heap.size,2,none⟩=some (.int .i64 L):=b2.cell 2
   have c3:wr.cell? ⟨w.heap.size,3,none⟩=some (.int .i64 W):=b2.cell 3
   have c4:wr.cell? ⟨w.heap.size,4,none⟩=some (.bool tk):=b2.cell 4
   have f3:=b3.free k
   have c5:wr.cell? ⟨w.heap.size+1,k,none⟩=some (.int .i64 0):=by rw [b3.cell,Zgc _ hlt];simp [mixC]
   have l2:=b2.lt
   have l3:=b3.lt
   obtain ⟨lo,hlo⟩:∃ lo,max (0:Int) ((k:Int) - (F - L))=lo:=⟨_,rfl⟩
   obtain ⟨hi,hhi⟩:∃ hi,min (k:Int) L=hi:=⟨_,rfl⟩
   have hlo2:0≤lo∧lo≤31:=by omega
   have hhi2:0≤hi∧hi≤31:=by omega
   have E1:=hd_ hlo
   have E2:=hd_ hhi
   clear hlo hhi
   have hBs:=hB.size
   have hfin:∀ v:Int,v=g k→((∃ k_1:Nat,k_1≤31∧Value.int .i64 ((k:Int)+1)=↑k_1∧w (wr.setCell ⟨w.heap.size+1,k,none⟩ ↑v).drew∧Blk (wr.setCell ⟨w.heap.size+1,k,none⟩ ↑v).drew w.heap.size (Zce d (F,L,W) tk) 287∧Blk (wr.setCell ⟨w.heap.size+1,k,none⟩ ↑v).drew (w.heap.size+1) (cs (mixC g (fun _=>0) k_1)) 182)∧(31 - intOf (.int .i64 ((k:Int)+1))).toNat < (31 - intOf ↑k).toNat):=by
    intro v hv
    subst hv
    have hO:Off1 (w.heap.size+1) wr (wr.setCell ⟨w.heap.size+1,k,none⟩ (.int .i64 (g k))):=fun q hq=>Below.heap_setCell _ _ _ _ (fun e=>hq e)
    have h2:=b3.set k (.int .i64 (g k))
    rw [Zsw _ hlt,Zh2] at h2
    exact ⟨⟨k+1,om_,by go_num,(hB.setCell sp_ _).drew,(hO.blk b2 om_).drew,h2.drew⟩,by simp [intOf];omega⟩
   have hfin0:g k=0→((∃ k_1:Nat,k_1≤31∧Value.int .i64 ((k:Int)+1)=↑k_1∧Below w.heap.size w wr.drew∧Blk wr.drew w.heap.size (Zce d (F,L,W) tk) 287∧Blk wr.drew (w.heap.size+1) (cs (mixC g (fun _=>0) k_1)) 182)∧(31 - intOf (.int .i64 ((k:Int)+1))).toNat < (31 - intOf ↑k).toNat):=by
    intro hv
    refine ⟨⟨k+1,om_,by go_num,hB.drew,b2.drew,?_⟩,by simp [intOf];omega⟩
    rw [← Zh2,hv]
    have:updC (mixC g (fun _=>0) k) k 0=mixC g (fun _=>0) k:=by
     funext j;unfold updC mixC;split <;> simp_all
    rw [this]
    exact b3.drew
   have HF:=hd_ hfin
   have HF0:=hd_ hfin0
   clear hfin hfin0
   go_upto_region 4 with fail
   refine Zyu [(0,0),(1,0),(2,0),(3,0),(4,0),(5,0),(6,0),(7,0),(8,0),(9,0),(10,0),(11,0),(12,0),(13,0),(14,0),(15,0),(16,0)] (fun _=>True) kr_ kr_ trivial ?_
   go_wp2_with (first
    | (refine Zer (.const ↑()) (.tmp 17) rfl rfl rfl rfl ?_;rw [E1.out])
    | (refine Zbt (.tmp 19) (.tmp 22) rfl rfl rfl rfl ?_;rw [E2.out])
    | (with_reducible refine Zyp ?_)
    | (refine o_ ?_;intro K hK)|(with_reducible first|refine Zyo ?_ ?_|refine Zyj ?_|refine Zyf bn_ (fun _=>?_)))
   ·refine HF.out _ ?_
    rw [← hgk.out k]
    simp only [ownC]
    rw [if_pos om_]
   ·refine HF.out _ ?_
    rw [← hgk.out k]
    have e1:=E1.out
    have e2:=E2.out
    simp only [ownC]
    rename_i hFk htk
    have htk2:tk=true:=by first|exact htk|simpa using htk
    subst htk2
    have hn:¬ F < (k:Int):=by omega
    simp only [if_true,hn,if_false]
    rw [← e1,← e2]
    clear hgk e1 e2 HF HF0
    omega
   ·refine HF0.out ?_
    rw [← hgk.out k]
    simp only [ownC]
    rename_i hFk htk
    have htk2:tk=false:=by first|exact htk|simpa using htk
    subst htk2
    rw [if_neg om_,if_neg sp_]
  ·have hk31:k=31:=by omega
   subst hk31
   have hlti:¬ ((31:Nat):Int) < 31:=by omega
   rw [Zj0] at b3
   go_wp2_with (first
    | (refine Za0 182 (.tmp 2) Za7 rfl rfl rfl b3 (Za9 _) ?_)
    | (refine Za1 182 (.tmp 2) (.tmp 49) Za7 rfl rfl rfl rfl b3 (Za9 _) (Za9 _) (Zck _) ?_;intro w6 h6;refine Za2 ?_))
   unfold Stop
   go_wp2
   refine bodyPost_ret (v:=.agg (cs g)) (Za5 rfl _ Za7 rfl h6.blk (Za9 _)) rfl ⟨rfl,h6.below hB om_⟩
end Go.Proofs.YtbapgefodmmikaaGreatDoor
