/- Parts of a proof. -/
import Derived.Test.YtbapgefodmmikaaGreatDoorLMin
import Derived.Test.YtbapgefodmmikaaGreatDoorL19
set_option linter.unusedVariables false
set_option linter.unusedSimpArgs false
set_option maxHeartbeats 40000000
set_option maxRecDepth 100000
namespace Go.Proofs.YtbapgefodmmikaaGreatDoor
open Go.RowKit Go.Proofs Go.Ord Tryz
attribute [local irreducible] Ord.walk
theorem Zpw (c:Cl) (ba:Option Addr) (bc:Nat) (i:Int) (w:World) (hr:RowsAt w ba 3 Zbf c.bs) (hlen:c.bs.length≤9223372036854775807) (hk:clOk c=false∨Zac c i=false) :
  Calls prog 40 #[.agg (clV c ba bc),i] w (Zat ↑() (.int .i64 (errC c (Zac c i))) w):=by
 have hmf:=hmf_ prog
 have HO:Hid (∀ W,Below w.heap.size w W→Blk W (w.heap.size+1) #[i] 3→Calls prog 117 #[.agg (clV c ba bc),.func (.func 121) #[] #[.pointer ↑(w.heap.size+1)]] W (Zhh (errC c (Zac c i)) W)):=fun W hb b1 =>
  (Zeo c (Zac c i) ba bc 121 #[.pointer ↑(w.heap.size+1)] W (hr.below hb) hlen (fun args W=>call121 args W) (fun w' T mb hb' hc hO=>Zka i _ hc hO (b1.below hb' b1.lt))).mono fun e w' h=>Zfp h hk
 generalize errC c (Zac c i)=E at *
 clear hr hlen hk
 have bm0:Blk (w.alloc (.cells (clV c ba bc) 62)) w.heap.size (clV c ba bc) 62:=Blk.new _ _ _
 obtain ⟨W5,hW5⟩:∃ W5,(((w.alloc (.cells (clV c ba bc) 62)).alloc (.cells #[i] 3)).alloc (.cells #[()] 31))=W5:=⟨_,rfl⟩
 have hB5:Below w.heap.size w W5:=by rw [← hW5];exact bel_
 have bm:Blk W5 w.heap.size (clV c ba bc) 62:=by rw [← hW5];exact (bm0.alloc _).alloc _
 have b1:Blk W5 (w.heap.size+1) #[i] 3:=by rw [← hW5];exact (Blk.new' _ _ _ _ sp_).alloc _
 have b4:Blk W5 (w.heap.size+1+1) #[()] 31:=by rw [← hW5];exact Blk.new' _ _ _ _ sp_
 have hs5:W5.heap.size=w.heap.size+3:=by rw [← hW5];simp
 have hs5a:W5.heap.size≤w.heap.size+3∧w.heap.size+3≤W5.heap.size:=by omega
 clear hs5 bm0
 have HO5:=hd_ (HO.out W5 hB5 b1)
 unfold clV at *
 generalize c.bs.length=nl at *
 refine callsIn_wide.1 (callsIn_of_wp_marks (F:=Fence.wide) (n:=0) func40 rfl trivial (wpIn_wide.2 ?_) rfl)
 simp only [ntmps40,List.size_toArray,List.length_cons,List.length_nil,Nat.reduceAdd,Nat.reduceSub,Array.replicate_succ,Array.replicate_zero,List.push_toArray,List.append_toArray,List.nil_append,List.cons_append]
 go_wp2_with (first
  | (refine Za0 62 (.tmp 2) Zah rfl rfl rfl bm rfl ?_)
  | (go_at_call 117;refine Za2 ?_))
 unfold Stop
 clear hW5
 refine HO5.out.mono ?_
 rintro e w6 ⟨rfl,hb6⟩
 have hB6:w w6:=hB5.trans (hb6.mono om_)
 refine Zal (pb:=w.heap.size+1+1) (v:=.tuple #[(),E]) Zcm (fun W=>by simp [go_sem]) rfl (b4.below hb6 b4.lt) fun w' hl hb=>⟨?_,rfl,Za3 hB6 hl (by have:=hb6.size;omega) (fun _ _ _=>om_)⟩
 have r4:=hb.cell
 simp [results,results40,go_sem,r4]
theorem Znx (c:Cl) (ba:Option Addr) (bc:Nat) (i:Int) (w:World) (hr:RowsAt w ba 3 Zbf c.bs) (hlen:c.bs.length≤9223372036854775807) (hk:clOk c=true) (hi:Zac c i=true) (hcan:canC c (Zag c.bs)=false) :
  Calls prog 40 #[.agg (clV c ba bc),i] w (Zat ↑() (.int .i64 10) w):=by
 have hmf:=hmf_ prog
 have HO:Hid (∀ W,Below w.heap.size w W→Blk W (w.heap.size+1) #[i] 3→Calls prog 117 #[.agg (clV c ba bc),.func (.func 121) #[] #[.pointer ↑(w.heap.size+1)]] W (fun e w'=>∃ T mb,e=.returned (.pointer (some ⟨T,0,none⟩))∧Below W.heap.size W w'∧Zb4 w' T c ba bc mb∧W.heap.size≤T∧W.heap.size≤mb)):=fun W hb b1 =>
  (Zeo c (Zac c i) ba bc 121 #[.pointer ↑(w.heap.size+1)] W (hr.below hb) hlen (fun args W=>call121 args W) (fun w' T mb hb' hc hO=>Zka i _ hc hO (b1.below hb' b1.lt))).mono fun e w' h=>Zdr h hk hi
 have HWn:Hid (∀ {W0:World}{T mb:Nat},Zb4 W0 T c ba bc mb→∀ W,Ln W0 mb c W→Calls prog 120 #[.pointer (some ⟨T,0,none⟩),i] W (Zy7 W0 mb c 10 W)):=fun hO W hW=>Zmi hO (Zar hk) i hcan W hW
 clear hr hlen hk hi hcan
 have bm0:Blk (w.alloc (.cells (clV c ba bc) 62)) w.heap.size (clV c ba bc) 62:=Blk.new _ _ _
 obtain ⟨W5,hW5⟩:∃ W5,(((w.alloc (.cells (clV c ba bc) 62)).alloc (.cells #[i] 3)).alloc (.cells #[()] 31))=W5:=⟨_,rfl⟩
 have hB5:Below w.heap.size w W5:=by rw [← hW5];exact bel_
 have bm:Blk W5 w.heap.size (clV c ba bc) 62:=by rw [← hW5];exact (bm0.alloc _).alloc _
 have b1:Blk W5 (w.heap.size+1) #[i] 3:=by rw [← hW5];exact (Blk.new' _ _ _ _ sp_).alloc _
 have b4:Blk W5 (w.heap.size+1+1) #[()] 31:=by rw [← hW5];exact Blk.new' _ _ _ _ sp_
 have hs5:W5.heap.size=w.heap.size+3:=by rw [← hW5];simp
 have hs5a:W5.heap.size≤w.heap.size+3∧w.heap.size+3≤W5.heap.size:=by omega
 clear hs5 bm0
 have HO5:=hd_ (HO.out W5 hB5 b1)
 unfold clV at *
 generalize c.bs.length=nl at *
 refine callsIn_wide.1 (callsIn_of_wp_marks (F:=Fence.wide) (n:=0) func40 rfl trivial (wpIn_wide.2 ?_) rfl)
 simp only [ntmps40,List.size_toArray,List.length_cons,List.length_nil,Nat.reduceAdd,Nat.reduceSub,Array.replicate_succ,Array.replicate_zero,List.push_toArray,List.append_toArray,List.nil_append,List.cons_append]
 go_wp2_with (first
  | (refine Za0 62 (.tmp 2) Zah rfl rfl rfl bm rfl ?_)
  | (go_at_call 117;refine Za2 ?_))
 unfold Stop
 clear hW5
 refine HO5.out.mono ?_
 rintro e w6 ⟨T,mb,rfl,hb6,hOp,hT,hmb⟩
 have b16:=b1.below hb6 b1.lt
 have r16:=b16.cell
 have hB6:w w6:=hB5.trans (hb6.mono om_)
 go_wp2_with (first
  | (go_at_call 120;refine (HWn.out hOp _ (Ln.start hOp)).mono ?_;rintro e w7 ⟨rfl,hW7,hl7⟩;refine Za2 ?_))
 unfold Stop
 refine Zal (pb:=w.heap.size+1+1) (v:=.tuple #[(),.int .i64 10]) Zcm (fun W=>by simp [go_sem]) rfl (hl7.blk (b4.below hb6 b4.lt) om_) fun w' hl hb=>⟨?_,rfl,Za3 (Za3 hB6 hl7 (by have:=hb6.size;omega) (fun _ _ _=>om_)) hl (by have:=hb6.size;have:=hl7.size;omega) (fun _ _ _=>om_)⟩
 have r4:=hb.cell
 simp [results,results40,go_sem,r4]
theorem Zue (c:Cl) (ba:Option Addr) (bc:Nat) (i:Nat) (w:World) (hr:RowsAt w ba 3 Zbf c.bs) (hlen:c.bs.length≤9223372036854775807) (hk:clOk c=true) (hi:Zac c (i:Int)=true) (hib:i < c.bs.length) (hcan:canC c (Zag c.bs)=true) :
  Calls prog 40 #[.agg (clV c ba bc),i] w (Zat (.int .i64 (Zmr c.may (Zda c i))) ↑() w):=by
 have hmf:=hmf_ prog
 have HO:Hid (∀ W,Below w.heap.size w W→Blk W (w.heap.size+1) #[i] 3→Calls prog 117 #[.agg (clV c ba bc),.func (.func 121) #[] #[.pointer ↑(w.heap.size+1)]] W (fun e w'=>∃ T mb,e=.returned (.pointer (some ⟨T,0,none⟩))∧Below W.heap.size W w'∧Zb4 w' T c ba bc mb∧W.heap.size≤T∧W.heap.size≤mb)):=fun W hb b1 =>
  (Zeo c (Zac c (i:Int)) ba bc 121 #[.pointer ↑(w.heap.size+1)] W (hr.below hb) hlen (fun args W=>call121 args W) (fun w' T mb hb' hc hO=>Zka (i:Int) _ hc hO (b1.below hb' b1.lt))).mono fun e w' h=>Zdr h hk hi
 have HWn:Hid (∀ {W0:World}{T mb:Nat},Zb4 W0 T c ba bc mb→∀ W,Ln W0 mb c W→Calls prog 120 #[.pointer (some ⟨T,0,none⟩),i] W (Zcw W0 mb c (.agg (spV (Zda c i))) W)):=fun hO W hW=>Zk8 hO (Zar hk) i hib hcan W hW
 have HTd:Hid (∀ {W0:World}{T mb:Nat},Zb4 W0 T c ba bc mb→∀ W,Ln W0 mb c W→Calls prog 122 #[.pointer (some ⟨T,0,none⟩),.agg (spV (Zda c i))] W (Zak (.int .i64 (Zmr c.may (Zda c i))) W)):=fun hO W hW=>c_told hO (Zda c i) W hW
 generalize Zmr c.may (Zda c i)=V at *
 generalize Zda c i=S at *
 clear hr hlen hk hi hcan hib
 have bm0:Blk (w.alloc (.cells (clV c ba bc) 62)) w.heap.size (clV c ba bc) 62:=Blk.new _ _ _
 obtain ⟨W5,hW5⟩:∃ W5,(((w.alloc (.cells (clV c ba bc) 62)).alloc (.cells #[i] 3)).alloc (.cells #[()] 31))=W5:=⟨_,rfl⟩
 have hB5:Below w.heap.size w W5:=by rw [← hW5];exact bel_
 have bm:Blk W5 w.heap.size (clV c ba bc) 62:=by rw [← hW5];exact (bm0.alloc _).alloc _
 have b1:Blk W5 (w.heap.size+1) #[i] 3:=by rw [← hW5];exact (Blk.new' _ _ _ _ sp_).alloc _
 have b4:Blk W5 (w.heap.size+1+1) #[()] 31:=by rw [← hW5];exact Blk.new' _ _ _ _ sp_
 have hs5:W5.heap.size=w.heap.size+3:=by rw [← hW5];simp
 have hs5a:W5.heap.size≤w.heap.size+3∧w.heap.size+3≤W5.heap.size:=by omega
 clear hs5 bm0
 have HO5:=hd_ (HO.out W5 hB5 b1)
 unfold clV at *
 generalize c.bs.length=nl at *
 refine callsIn_wide.1 (callsIn_of_wp_marks (F:=Fence.wide) (n:=0) func40 rfl trivial (wpIn_wide.2 ?_) rfl)
 simp only [ntmps40,List.size_toArray,List.length_cons,List.length_nil,Nat.reduceAdd,Nat.reduceSub,Array.replicate_succ,Array.replicate_zero,List.push_toArray,List.append_toArray,List.nil_append,List.cons_append]
 go_wp2_with (first
  | (refine Za0 62 (.tmp 2) Zah rfl rfl rfl bm rfl ?_)
  | (go_at_call 117;refine Za2 ?_))
 unfold Stop
 clear hW5
 refine HO5.out.mono ?_
 rintro e w6 ⟨T,mb,rfl,hb6,hOp,hT,hmb⟩
 have b16:=b1.below hb6 b1.lt
 have r16:=b16.cell
 have hB6:w w6:=hB5.trans (hb6.mono om_)
 go_wp2_with (first
  | (go_at_call 120;refine (HWn.out hOp _ (Ln.start hOp)).mono ?_;rintro e w7 ⟨rfl,hW7,hl7⟩)
  | (go_at_call 122;refine (HTd.out hOp _ hW7).mono ?_;rintro e w8 ⟨rfl,hb8⟩;refine Za2 ?_))
 unfold Stop
 have b47:=hl7.blk (b4.below hb6 b4.lt) om_
 have b48:=b47.below hb8 b47.lt
 have r48:=b48.cell
 have f48:=b48.free
 have l48:=b48.lt
 have hB8:w w8:=(Za3 hB6 hl7 (by have:=hb6.size;omega) (fun _ _ _=>om_)).trans (hb8.mono (by have:=hb6.size;have:=hl7.size;omega))
 go_wp2_with fail
 obtain ⟨Wf,hWf⟩:∃ Wf,w8.setCell ⟨w.heap.size+1+1,0,none⟩ ↑()=Wf:=⟨_,rfl⟩
 have r4f:=(by rw [← hWf];exact b48.set 0 _:Blk Wf (w.heap.size+1+1) #[()] 31).cell
 have hbf:Below w.heap.size w Wf:=by rw [← hWf];exact hB8.setCell (by simp only;omega) _
 change bodyPostM Fence.wide 0 prog _ _ .ret _ (w8.setCell ⟨w.heap.size+1+1,0,none⟩ ↑())
 rw [hWf]
 refine Zcd (pb:=w.heap.size+1+1) (v:=.tuple #[V,()]) Zcm (fun W=>by simp [go_sem]) rfl ?_ ⟨rfl,hbf⟩
 simp [results,results40,go_sem,r4f]
theorem Zwg (c:Cl) (i:Int):Zdi c i=if errC c (Zac c i)=0 then (Zmr c.may (Zda c i.toNat),0) else (0,errC c (Zac c i)):=by
 unfold Zdi
 rw [Zo9]
 by_cases h:errC c (Zac c i)=0
 ·simp [h]
 ·simp [h]
theorem c_Keeps (c:Cl) (ba:Option Addr) (bc:Nat) (i:Int) (w:World) (hr:RowsAt w ba 3 Zbf c.bs) (hlen:c.bs.length≤9223372036854775807) :
  Calls prog 40 #[.agg (clV c ba bc),i] w (Zat (.int .i64 (Zdi c i).1) (.int .i64 (Zdi c i).2) w):=by
 rw [Zwg]
 rcases Zi1 c (Zac c i) with ⟨h1,h2,-⟩ | ⟨hv,hi,hk,h2⟩ | ⟨hv,hi,hk,h2⟩
 ·rw [if_neg h2];exact Zpw c ba bc i w hr hlen h1
 ·rw [h2,if_neg sp_];exact Znx c ba bc i w hr hlen hv hi hk
 ·rw [if_pos h2]
  obtain ⟨n,rfl,hn⟩:=Zhw hi
  exact Zue c ba bc n w hr hlen hv hi hn hk
def RowI (w:World) (g:Nat) (l:List Nat):Prop:=∀ i,(h:i < l.length)→w.cell? ⟨g,i,none⟩=some (.int .i64 (l[i]:Nat))
theorem RowI.lets {X:Nat→Option Obj→Prop}{w w':World}{g:Nat}{l:List Nat}(h:RowI w g l) (hl:Lets X w w') (hg:∀ o,¬ X g o):RowI w' g l:=fun i hi=>hl.cell (h i hi) (hg _)
theorem _root_.Q7 {p:Prop}(h:p:=by
 go_wp2_with fail
 go_loopw [5,8] (fun x5 i wr=>∃ k:Nat,k≤n∧i=↑k∧Hid (I wr)∧Lets X w wr) (fun _ i _=>n+1 - (intOf i).toNat)
 case atStart=>exact ⟨0,om_,rfl,HI,Lets.refl _ _⟩
 case round =>
  obtain ⟨k,hk,rfl,hIr,hlr⟩:=hrel
  by_cases hlt:k < l.length
  ·have hlti:(k:Int) < (l.length:Int):=by omega
   have cu:=(HU.out.lets hlr HG.out) k hlt
   have HPk:=hd_ (HPP.out wr (l[k]) (List.getElem_mem hlt) hIr.out)
   obtain ⟨x,hxk⟩:∃ x,l[k]=x:=⟨_,rfl⟩
   by_cases hkn:k < n
   ·have hpf:=HLO.out k hkn
    rw [hpf] at HPk
    rw [hxk] at HPk cu
    clear hpf hxk
    go_wp2_with fail
    refine HPk.out.mono ?_
    rintro e w2 ⟨rfl,hI2,hl2⟩
    have HI2:=hd_ hI2
    clear hI2
    go_wp2_with fail
    exact ⟨⟨k+1,om_,by go_num,HI2,hlr.trans hl2⟩,by simp [intOf];omega⟩
   ·have e:k=n:=by omega
    subst e
    have hpt:=HHI.out hlt
    rw [hpt] at HPk
    rw [hxk] at HPk cu
    clear hpt hxk
    go_wp2_with fail
    refine HPk.out.mono ?_
    rintro e w2 ⟨rfl,hI2,hl2⟩
    have HI2:=hd_ hI2
    clear hI2
    go_wp2_with fail
    go_ret
    have e3:=HR1.out hlt
    subst e3
    exact ⟨rfl,HI2,hlr.trans hl2⟩
  ·have hlti:¬ (k:Int) < (l.length:Int):=by omega
   have e:k=n:=by omega
   subst e
   have e2:k=l.length:=by omega
   have hr:=HR2.out e2
   clear HR1 HR2 HLO HHI
   go_wp2_with fail
   go_ret
   subst hr
   exact ⟨rfl,hIr,hlr⟩):p:=h
theorem idxI (F:FuncId) (cb:Array Value) (p:Nat→Bool) (I:World→Prop) (X:Nat→Option Obj→Prop) (l:List Nat) (g cap n:Nat) (r:Int) (w:World) (hl:l.length≤256) (hn:n≤l.length) (hlo:∀ j,(h:j < n)→p (l[j]'om_)=false) (hhi:(h:n < l.length)→p l[n]=true) (hr1:n < l.length→r=n) (hr2:n=l.length→r = -1)
  (hcf:∀ (args:Array Value) (W:World),(callFunc F args).run prog W=.ok (.enter F args) W) (hU:RowI w g l) (hg:∀ o,¬ X g o) (hI:I w)
  (HP:∀ w' x,x∈l→I w'→Calls prog F (#[.int .i64 (x:Nat)] ++ cb) w' (fun e w''=>e=.returned (.bool (p x))∧I w''∧Lets X w' w'')) :
  Calls prog 215 #[.slice g l.length cap,.func (.func F) #[] cb] w (fun e w'=>e=.returned ↑r∧I w'∧Lets X w w'):=by
 have HU:=hd_ hU
 have HPP:=hd_ HP
 have HLO:=hd_ hlo
 have HHI:=hd_ hhi
 have HR1:=hd_ hr1
 have HR2:=hd_ hr2
 have HI:=hd_ hI
 have HG:=hd_ hg
 clear hU HP hlo hhi hr1 hr2 hI hg
 go_enter func215,ntmps215
 exact Q7
def RowU (w:World) (g:Nat) (l:List Nat):Prop:=∀ i,(h:i < l.length)→w.cell? ⟨g,i,none⟩=some (.int .u64 (l[i]:Nat))
theorem RowU.lets {X:Nat→Option Obj→Prop}{w w':World}{g:Nat}{l:List Nat}(h:RowU w g l) (hl:Lets X w w') (hg:∀ o,¬ X g o):RowU w' g l:=fun i hi=>hl.cell (h i hi) (hg _)
theorem idxU (F:FuncId) (cb:Array Value) (p:Nat→Bool) (I:World→Prop) (X:Nat→Option Obj→Prop) (l:List Nat) (g cap n:Nat) (r:Int) (w:World) (hl:l.length≤256) (hn:n≤l.length) (hlo:∀ j,(h:j < n)→p (l[j]'om_)=false) (hhi:(h:n < l.length)→p l[n]=true) (hr1:n < l.length→r=n) (hr2:n=l.length→r = -1)
  (hcf:∀ (args:Array Value) (W:World),(callFunc F args).run prog W=.ok (.enter F args) W) (hU:RowU w g l) (hg:∀ o,¬ X g o) (hI:I w)
  (HP:∀ w' x,x∈l→I w'→Calls prog F (#[.int .u64 (x:Nat)] ++ cb) w' (fun e w''=>e=.returned (.bool (p x))∧I w''∧Lets X w' w'')) :
  Calls prog 264 #[.slice g l.length cap,.func (.func F) #[] cb] w (fun e w'=>e=.returned ↑r∧I w'∧Lets X w w'):=by
 have HU:=hd_ hU
 have HPP:=hd_ HP
 have HLO:=hd_ hlo
 have HHI:=hd_ hhi
 have HR1:=hd_ hr1
 have HR2:=hd_ hr2
 have HI:=hd_ hI
 have HG:=hd_ hg
 clear hU HP hlo hhi hr1 hr2 hI hg
 go_enter func264,ntmps264
 exact Q7
theorem Zpt (F:FuncId) (cb:Array Value) (p:Nat→Bool) (I:World→Prop) (X:Nat→Option Obj→Prop) (l:List Nat) (g cap n:Nat) (w:World) (hl:l.length≤256)(hn:n < l.length) (hlo:∀ j,(h:j < n)→p (l[j]'om_)=false) (hhi:p l[n]=true)
  (hcf:∀ (args:Array Value) (W:World),(callFunc F args).run prog W=.ok (.enter F args) W) (hU:RowI w g l) (hg:∀ o,¬ X g o) (hgl:g < w.heap.size) (hI:∀ w',Below w.heap.size w w'→I w')
  (HP:∀ w' x,x∈l→I w'→Calls prog F (#[.int .i64 (x:Nat)] ++ cb) w' (fun e w''=>e=.returned (.bool (p x))∧I w''∧Lets X w' w'')) :
  Calls prog 130 #[.slice g l.length cap,.agg #[.func (.func F) #[] cb]] w (fun e w'=>e=.returned (.int .i64 (l[n]:Nat))∧I w'∧Lets X w w'):=by
 have HI:=hd_ (fun w' (hb:Below w.heap.size w w')=>idxI F cb p I X l g cap n (n:Int) w' hl om_ hlo (fun _=>hhi) (fun _=>rfl) om_ hcf (hU.lets (X:=X) (Lets.of_below hb) hg) hg (hI w' hb) HP)
 have HM:=hd_ Ze2
 have hlti:(n:Int) < (l.length:Int):=by omega
 have hl256:(l.length:Int)≤256:=by omega
 have hU2:=hd_ (fun w' (hb:Lets X w w')=>(hU.lets hb hg) n hn)
 generalize l[n]=y at *
 clear hlo hhi HP hU hcf hI
 go_enter func130,ntmps130
 have hBb:w (w.alloc (.cells #[.func (.func F) #[] cb] 188)):=by exact bel_
 go_wp2_with (first
  | (go_at_call 215;refine (HI.out _ hBb).mono ?_;rintro e w1 ⟨rfl,hI1,hl1⟩;have HI1:=hd_ hI1;clear hI1;have hl01:=(Lets.of_below (X:=X) hBb).trans hl1;have cu:=hU2.out w1 hl01)
  | (go_at_call 124;refine (HM.out _ _).mono ?_;rintro e w' ⟨rfl,rfl⟩))
 go_ret
 exact ⟨rfl,HI1,hl01⟩
theorem Zrj (F:FuncId) (cb:Array Value) (p:Nat→Bool) (I:World→Prop) (X:Nat→Option Obj→Prop) (l:List Nat) (g cap:Nat) (w:World) (hl:l.length≤256)(hlo:∀ j,(h:j < l.length)→p l[j]=false)
  (hcf:∀ (args:Array Value) (W:World),(callFunc F args).run prog W=.ok (.enter F args) W) (hU:RowI w g l) (hg:∀ o,¬ X g o) (hgl:g < w.heap.size) (hI:∀ w',Below w.heap.size w w'→I w')
  (HP:∀ w' x,x∈l→I w'→Calls prog F (#[.int .i64 (x:Nat)] ++ cb) w' (fun e w''=>e=.returned (.bool (p x))∧I w''∧Lets X w' w'')) :
  Calls prog 130 #[.slice g l.length cap,.agg #[.func (.func F) #[] cb]] w (fun e w'=>e=.panicked [{ v:=refC 4,recovered:=false }]∧I w'∧Lets X w w'):=by
 have HI:=hd_ (fun w' (hb:Below w.heap.size w w')=>idxI F cb p I X l g cap l.length (-1) w' hl om_ hlo (fun h=>absurd h om_) (fun h=>absurd h om_) (fun _=>rfl) hcf (hU.lets (X:=X) (Lets.of_below hb) hg) hg (hI w' hb) HP)
 have HM:=hd_ Zfv
 clear hlo HP hU hcf hI
 go_enter func130,ntmps130
 have hBb:w (w.alloc (.cells #[.func (.func F) #[] cb] 188)):=by exact bel_
 go_wp2_with (first
  | (go_at_call 215;refine (HI.out _ hBb).mono ?_;rintro e w1 ⟨rfl,hI1,hl1⟩;have HI1:=hd_ hI1;clear hI1;have hl01:=(Lets.of_below (X:=X) hBb).trans hl1)
  | (go_at_call 124;refine (HM.out _ _).mono ?_;rintro e w' ⟨rfl,rfl⟩))
 exact ⟨rfl,rfl,HI1,hl01⟩
theorem Zps (F:FuncId) (cb:Array Value) (p:Nat→Bool) (I:World→Prop) (X:Nat→Option Obj→Prop) (l:List Nat) (g cap n:Nat) (w:World) (hl:l.length≤256)(hn:n < l.length) (hlo:∀ j,(h:j < n)→p (l[j]'om_)=false) (hhi:p l[n]=true)
  (hcf:∀ (args:Array Value) (W:World),(callFunc F args).run prog W=.ok (.enter F args) W) (hU:RowU w g l) (hg:∀ o,¬ X g o) (hgl:g < w.heap.size) (hI:∀ w',Below w.heap.size w w'→I w')
  (HP:∀ w' x,x∈l→I w'→Calls prog F (#[.int .u64 (x:Nat)] ++ cb) w' (fun e w''=>e=.returned (.bool (p x))∧I w''∧Lets X w' w'')) :
  Calls prog 374 #[.slice g l.length cap,.agg #[.func (.func F) #[] cb]] w (fun e w'=>e=.returned (.int .u64 (l[n]:Nat))∧I w'∧Lets X w w'):=by
 have HI:=hd_ (fun w' (hb:Below w.heap.size w w')=>idxU F cb p I X l g cap n (n:Int) w' hl om_ hlo (fun _=>hhi) (fun _=>rfl) om_ hcf (hU.lets (X:=X) (Lets.of_below hb) hg) hg (hI w' hb) HP)
 have HM:=hd_ Ze2
 have hlti:(n:Int) < (l.length:Int):=by omega
 have hl256:(l.length:Int)≤256:=by omega
 have hU2:=hd_ (fun w' (hb:Lets X w w')=>(hU.lets hb hg) n hn)
 generalize l[n]=y at *
 clear hlo hhi HP hU hcf hI
 go_enter func374,ntmps374
 have hBb:w (w.alloc (.cells #[.func (.func F) #[] cb] 450)):=by exact bel_
 go_wp2_with (first
  | (go_at_call 264;refine (HI.out _ hBb).mono ?_;rintro e w1 ⟨rfl,hI1,hl1⟩;have HI1:=hd_ hI1;clear hI1;have hl01:=(Lets.of_below (X:=X) hBb).trans hl1;have cu:=hU2.out w1 hl01)
  | (go_at_call 124;refine (HM.out _ _).mono ?_;rintro e w' ⟨rfl,rfl⟩))
 go_ret
 exact ⟨rfl,HI1,hl01⟩
theorem Zri (F:FuncId) (cb:Array Value) (p:Nat→Bool) (I:World→Prop) (X:Nat→Option Obj→Prop) (l:List Nat) (g cap:Nat) (w:World) (hl:l.length≤256)(hlo:∀ j,(h:j < l.length)→p l[j]=false)
  (hcf:∀ (args:Array Value) (W:World),(callFunc F args).run prog W=.ok (.enter F args) W) (hU:RowU w g l) (hg:∀ o,¬ X g o) (hgl:g < w.heap.size) (hI:∀ w',Below w.heap.size w w'→I w')
  (HP:∀ w' x,x∈l→I w'→Calls prog F (#[.int .u64 (x:Nat)] ++ cb) w' (fun e w''=>e=.returned (.bool (p x))∧I w''∧Lets X w' w'')) :
  Calls prog 374 #[.slice g l.length cap,.agg #[.func (.func F) #[] cb]] w (fun e w'=>e=.panicked [{ v:=refC 4,recovered:=false }]∧I w'∧Lets X w w'):=by
 have HI:=hd_ (fun w' (hb:Below w.heap.size w w')=>idxU F cb p I X l g cap l.length (-1) w' hl om_ hlo (fun h=>absurd h om_) (fun h=>absurd h om_) (fun _=>rfl) hcf (hU.lets (X:=X) (Lets.of_below hb) hg) hg (hI w' hb) HP)
 have HM:=hd_ Zfv
 clear hlo HP hU hcf hI
 go_enter func374,ntmps374
 have hBb:w (w.alloc (.cells #[.func (.func F) #[] cb] 450)):=by exact bel_
 go_wp2_with (first
  | (go_at_call 264;refine (HI.out _ hBb).mono ?_;rintro e w1 ⟨rfl,hI1,hl1⟩;have HI1:=hd_ hI1;clear hI1;have hl01:=(Lets.of_below (X:=X) hBb).trans hl1)
  | (go_at_call 124;refine (HM.out _ _).mono ?_;rintro e w' ⟨rfl,rfl⟩))
 exact ⟨rfl,rfl,HI1,hl01⟩
end Go.Proofs.YtbapgefodmmikaaGreatDoor
namespace Go.Proofs.YtbapgefodmmikaaGreatDoor
open Go.RowKit Go.Proofs Go.Ord Tryz
attribute [local irreducible] Ord.walk
open Go.Sort Go.Shelf Go.Lib
theorem _root_.Q2t {p:Prop}(h:p:=by
 go_wp2_with (go_at_call 115;refine (H.out _ _ as_).mono ?_;rintro e w' ⟨rfl,rfl⟩)
 go_ret
 exact ⟨rfl,rfl⟩):p:=h
theorem b_cmpC (x y:Nat) (hx:x < 256) (hy:y < 256) (w:World) :
  Calls prog 373 #[.int .u64 x,.int .u64 y] w (Same (.int .i64 ((Stab.pop x:Int) - (Stab.pop y:Int))) w):=by
 have H:Hid (∀ z W,z < 256→Calls prog 115 #[.int .u64 (z:Nat)] W (Same (.int .i64 (Stab.pop z:Nat)) W)):=fun z W hz=>Zxt z hz W
 have p1:=Zsi x
 have p2:=Zsi y
 go_enter func373,ntmps373
 exact Q2t
theorem cmp8C (blk off size:Nat) (w:World):CmpLays1 prog 373 #[] enc8 cf8 blk off size w:=by
 intro m os dk _ x y
 refine (b_cmpC x.val y.val x.isLt y.isLt _).mono ?_
 rintro e w' ⟨rfl,rfl⟩
 exact ⟨rfl,0,#[],by rw [grow_empty];rfl⟩
theorem _root_.Qf {p:Prop}(h:p:=by
 rintro e w' ⟨rfl,S⟩
 rw [Stab.stable_all k hk] at S
 have hH2:=S.holds hB.lt hH (by simp [Stab.to8,(Stab.bySize_all k hk).2.1])
 refine ⟨rfl,?_,?_,S.lt hB.lt⟩
 ·obtain ⟨n,os,rfl⟩:=S
  exact Zmk enc8 w g n _ os base hg hB.lt
 ·intro i hi
  have:=(hH2 i (by simpa [Stab.to8] using hi)).1
  rw [Nat.zero_add] at this
  rw [this]
  congr 1
  have hb:=List.all_eq_true.1 (Stab.bySize_all k hk).2.2 _ (List.getElem_mem hi)
  rw [Nat.blt_eq] at hb
  rw [getElem!_pos _ i (by simpa [Stab.to8] using hi)]
  show Value.int .u64 (((Stab.to8 (Stab.bySize k)).toArray[i]'(by simpa [Stab.to8] using hi)).val:Nat)=_
  simp only [Stab.to8,List.getElem_toArray,List.getElem_map,Fin.val_ofNat]
  rw [Nat.mod_eq_of_lt om_]):p:=h
theorem _root_.Qx {p:Prop}(h:p:=by
 intro j hj
 rw [hsz] at hj
 refine ⟨?_,?_⟩
 ·rw [Nat.zero_add,hB.cell,hcur j hj]
  congr 1
  have:(Stab.to8 (List.range (2 ^ k))).toArray[j]! = Fin.ofNat 256 j:=by
   rw [getElem!_pos _ j (by rw [hsz];exact hj)];simp [Stab.to8]
  rw [this]
  show Value.int .u64 (j:Nat)=Value.int .u64 ((Fin.ofNat 256 j).val:Nat)
  rw [Fin.val_ofNat,Nat.mod_eq_of_lt om_]
 ·rw [Nat.zero_add];exact hB.free j):p:=h
theorem _root_.Q1k {p:Prop}(h:p:=by
 intro j hj
 have:(cur.toList.take (2 ^ k * 1))[j]? = ((List.range (2 ^ k)).map u64V)[j]?:=by rw [ht]
 rw [List.getElem?_take,if_pos om_,List.getElem?_map,List.getElem?_range hj] at this
 simpa using this):p:=h
theorem Zuk (w:World) (base:Nat) (v:Value) (k:Nat) (hk:k≤8) (h:w.ownsRow base 151 1 v (2 ^ k) ((List.range (2 ^ k)).map u64V)) :
  ∃ g cap,v=.slice (some ⟨g,0,none⟩) (2 ^ k) cap∧base≤g∧Calls prog 265 #[v,.func (.func 373) #[] #[]] w (Zqb base g k w):=by
 obtain ⟨h1,h2⟩:=h
 have hp:0 < 2 ^ k:=Nat.pow_pos om_
 have hp8:2 ^ k≤2 ^ 8:=Nat.pow_le_pow_right om_ hk
 have e8:(2:Nat) ^ 8=256:=rfl
 rcases h2 with ⟨_,h0⟩ | ⟨g,cap,cur,rfl,hg,hh,hn,hc,hs,ht⟩
 ·omega
 ·refine ⟨g,cap,rfl,hg,?_⟩
  have hB:Blk w g cur 151:=hh
  have hcur:∀ j,j < 2 ^ k→cur[j]? = some (u64V j):=Q1k
  have hsz:(Stab.to8 (List.range (2 ^ k))).toArray.size=2 ^ k:=by simp [Stab.to8]
  have hH:Holds enc8 w g 0 (Stab.to8 (List.range (2 ^ k))).toArray:=Qx
  have R:Row1 enc8 w g 0 (Stab.to8 (List.range (2 ^ k))).toArray:=⟨fun _=>rfl,hH,hB.lt⟩
  have eg:∀ args w,(callFunc 373 args).run prog w=.ok (.enter 373 args) w:=fun args W=>call373 args W
  refine (Zii enc8 cf8 373 #[] g 0 cap (2 ^ k) _ (Stab.to8 (List.range (2 ^ k))).toArray w w eg (cmp8C g 0 _ w) R hsz hsz om_ (SW.start hH)).mono ?_
  exact Qf
theorem b_cmpT (x y:Nat) (hx:x < 256) (hy:y < 256) (w:World) :
  Calls prog 266 #[.int .u64 x,.int .u64 y] w (Same (.int .i64 ((Stab.pop x:Int) - (Stab.pop y:Int))) w):=by
 have H:Hid (∀ z W,z < 256→Calls prog 115 #[.int .u64 (z:Nat)] W (Same (.int .i64 (Stab.pop z:Nat)) W)):=fun z W hz=>Zxt z hz W
 have p1:=Zsi x
 have p2:=Zsi y
 go_enter func266,ntmps266
 exact Q2t
theorem cmp8T (blk off size:Nat) (w:World):CmpLays1 prog 266 #[] enc8 cf8 blk off size w:=by
 intro m os dk _ x y
 refine (b_cmpT x.val y.val x.isLt y.isLt _).mono ?_
 rintro e w' ⟨rfl,rfl⟩
 exact ⟨rfl,0,#[],by rw [grow_empty];rfl⟩
theorem Zuj (w:World) (base:Nat) (v:Value) (k:Nat) (hk:k≤8) (h:w.ownsRow base 151 1 v (2 ^ k) ((List.range (2 ^ k)).map u64V)) :
  ∃ g cap,v=.slice (some ⟨g,0,none⟩) (2 ^ k) cap∧base≤g∧Calls prog 265 #[v,.func (.func 266) #[] #[]] w (Zqb base g k w):=by
 obtain ⟨h1,h2⟩:=h
 have hp:0 < 2 ^ k:=Nat.pow_pos om_
 have hp8:2 ^ k≤2 ^ 8:=Nat.pow_le_pow_right om_ hk
 have e8:(2:Nat) ^ 8=256:=rfl
 rcases h2 with ⟨_,h0⟩ | ⟨g,cap,cur,rfl,hg,hh,hn,hc,hs,ht⟩
 ·omega
 ·refine ⟨g,cap,rfl,hg,?_⟩
  have hB:Blk w g cur 151:=hh
  have hcur:∀ j,j < 2 ^ k→cur[j]? = some (u64V j):=Q1k
  have hsz:(Stab.to8 (List.range (2 ^ k))).toArray.size=2 ^ k:=by simp [Stab.to8]
  have hH:Holds enc8 w g 0 (Stab.to8 (List.range (2 ^ k))).toArray:=Qx
  have R:Row1 enc8 w g 0 (Stab.to8 (List.range (2 ^ k))).toArray:=⟨fun _=>rfl,hH,hB.lt⟩
  have eg:∀ args w,(callFunc 266 args).run prog w=.ok (.enter 266 args) w:=fun args W=>call266 args W
  refine (Zii enc8 cf8 266 #[] g 0 cap (2 ^ k) _ (Stab.to8 (List.range (2 ^ k))).toArray w w eg (cmp8T g 0 _ w) R hsz hsz om_ (SW.start hH)).mono ?_
  exact Qf
end Go.Proofs.YtbapgefodmmikaaGreatDoor
namespace Go.Proofs.YtbapgefodmmikaaGreatDoor
open Go.RowKit Go.Proofs Go.Ord Tryz
attribute [local irreducible] Ord.walk
def Zfn (ok:Bool) (w:World) (e:Ending) (w':World):Prop:=∃ s x:Int,e=.returned (.tuple #[s,x])∧w w'∧(x=1↔ok=false)
theorem Tryz.infoU:(prog.info? 151).map (fun i=>(i.zero,i.size,i.bytes))=some (some (.int .u64 0),1,8):=by kernel_rfl
theorem c_Clash2 {W0:World}{T:Nat}{c:Cl}{ba:Option Addr}{bc mb:Nat}(hO:Zb4 W0 T c ba bc mb) (hL:Zc3 c) (p x:Nat) (hx:x < 64) (w:World) (hw:Ln W0 mb c w) (hp:Blk w p #[.func (.func 125) #[.pointer T] #[]] 175) :
  Calls prog 375 #[.int .u64 (x:Nat),.pointer p] w (fun e w'=>e=.returned (.bool (!canC c x))∧Ln W0 mb c w'∧Lets (fun k _=>k=mb) w w'):=by
 have HC:=hd_ (Zuc hO hL x hx w hw)
 generalize canC c x=v at *
 have r:=hp.cell
 go_enter func375,ntmps375
 go_wp2_with (first
  | (go_at_call 125;refine HC.out.mono ?_;rintro e w2 ⟨rfl,hLn2,hl2⟩))
 go_ret
 exact ⟨rfl,hLn2,hl2⟩
theorem Zpx (c:Cl) (ba:Option Addr) (bc:Nat) (w:World) (hr:RowsAt w ba 3 Zbf c.bs) (hlen:c.bs.length≤9223372036854775807) (hk:clOk c=false) :
  Calls prog 371 #[.agg (clV c ba bc)] w (Zfn (clOk c) w):=by
 rw [hk]
 have he:errC c true=1:=by unfold errC;rw [if_pos hk]
 have hmf:=hmf_ prog
 have HO:Hid (∀ W,Below w.heap.size w W→Calls prog 117 #[.agg (clV c ba bc),.func (.func 372) #[] #[]] W (Zhh 1 W)):=fun W hb =>
  (Zeo c true ba bc 372 #[] W (hr.below hb) hlen (fun args W=>call372 args W) (fun w' T mb hb' hc hO=>Zsz _ _)).mono fun e w' h=>he ▸ Zfp h (.inl hk)
 clear hr hlen hk he
 have bm0:Blk (w.alloc (.cells (clV c ba bc) 62)) w.heap.size (clV c ba bc) 62:=Blk.new _ _ _
 obtain ⟨W5,hW5⟩:∃ W5,((w.alloc (.cells (clV c ba bc) 62)).alloc (.cells #[()] 31))=W5:=⟨_,rfl⟩
 have hB5:Below w.heap.size w W5:=by rw [← hW5];exact bel_
 have bm:Blk W5 w.heap.size (clV c ba bc) 62:=by rw [← hW5];exact bm0.alloc _
 have b4:Blk W5 (w.heap.size+1) #[()] 31:=by rw [← hW5];exact Blk.new' _ _ _ _ sp_
 have hs5:W5.heap.size=w.heap.size+2:=by rw [← hW5];simp
 have hs5a:W5.heap.size≤w.heap.size+2∧w.heap.size+2≤W5.heap.size:=by omega
 clear hs5 bm0
 have HO5:=hd_ (HO.out W5 hB5)
 unfold clV at *
 generalize c.bs.length=nl at *
 refine callsIn_wide.1 (callsIn_of_wp_marks (F:=Fence.wide) (n:=0) func371 rfl trivial (wpIn_wide.2 ?_) rfl)
 simp only [ntmps371,List.size_toArray,List.length_cons,List.length_nil,Nat.reduceAdd,Nat.reduceSub,Array.replicate_succ,Array.replicate_zero,List.push_toArray,List.append_toArray,List.nil_append,List.cons_append]
 go_wp2_with (first
  | (refine Za0 62 (.tmp 1) Zah rfl rfl rfl bm rfl ?_)
  | (go_at_call 117;refine Za2 ?_))
 unfold Stop
 clear hW5
 refine HO5.out.mono ?_
 rintro e w6 ⟨rfl,hb6⟩
 have hB6:w w6:=hB5.trans (hb6.mono om_)
 refine Zal (pb:=w.heap.size+1) (v:=.tuple #[(),.int .i64 1]) Zcm (fun W=>by simp [go_sem]) rfl (b4.below hb6 b4.lt) fun w' hl hb=>⟨?_,0,1,rfl,Za3 hB6 hl (by have:=hb6.size;omega) (fun _ _ _=>om_),sp_⟩
 have r4:=hb.cell
 simp [results,results371,go_sem,r4]
theorem Zuf (c:Cl) (ba:Option Addr) (bc:Nat) (w:World) (hr:RowsAt w ba 3 Zbf c.bs) (hlen:c.bs.length≤9223372036854775807) (hk:clOk c=true) :
  Calls prog 371 #[.agg (clV c ba bc)] w (Zfn (clOk c) w):=by
 rw [hk]
 have hmf:=hmf_ prog
 have HO:Hid (∀ W,Below w.heap.size w W→Calls prog 117 #[.agg (clV c ba bc),.func (.func 372) #[] #[]] W (fun e w'=>∃ T mb,e=.returned (.pointer (some ⟨T,0,none⟩))∧Below W.heap.size W w'∧Zb4 w' T c ba bc mb∧W.heap.size≤T∧W.heap.size≤mb)):=fun W hb =>
  (Zeo c true ba bc 372 #[] W (hr.below hb) hlen (fun args W=>call372 args W) (fun w' T mb hb' hc hO=>Zsz _ _)).mono fun e w' h=>Zdr h hk rfl
 have hL:=Zar hk
 have HEv:Hid (∀ {W0:World}{T mb:Nat},Zb4 W0 T c ba bc mb→∀ W,Ln W0 mb c W→Calls prog 126 #[.pointer (some ⟨T,0,none⟩)] W (Same (.int .u64 (Zag c.bs:Nat)) W)):=fun hO W hW=>Zgs hO hL W hW
 have HP:Hid (∀ {W0:World}{T mb:Nat},Zb4 W0 T c ba bc mb→∀ (p x:Nat),x < 64→∀ W,Ln W0 mb c W→Blk W p #[.func (.func 125) #[.pointer (some ⟨T,0,none⟩)] #[]] 175→Calls prog 375 #[.int .u64 (x:Nat),.pointer (some ⟨p,0,none⟩)] W (fun e w'=>e=.returned (.bool (!canC c x))∧Ln W0 mb c w'∧Lets (fun k _=>k=mb) W w')):=fun hO p x hx W hW hp=>c_Clash2 hO hL p x hx W hW hp
 obtain ⟨K,hK⟩:∃ K,c.bs.length=K:=⟨_,rfl⟩
 have hK6:K≤6:=by have:=hL.len;omega
 obtain ⟨E,hE⟩:∃ E:Nat,2 ^ K=E+1:=⟨2 ^ K - 1,by have:=Nat.two_pow_pos K;omega⟩
 have hE64:E≤63:=by have:=Zqr hK6;omega
 have HE:=hd_ hE
 have heE:Zag c.bs=E:=by unfold Zag;rw [hK];omega
 rw [heE] at HEv
 have HS:=hd_ Zuk
 clear hr hlen hk hL heE hK hE
 have bm0:Blk (w.alloc (.cells (clV c ba bc) 62)) w.heap.size (clV c ba bc) 62:=Blk.new _ _ _
 obtain ⟨W5,hW5⟩:∃ W5,((w.alloc (.cells (clV c ba bc) 62)).alloc (.cells #[()] 31))=W5:=⟨_,rfl⟩
 have hB5:Below w.heap.size w W5:=by rw [← hW5];exact bel_
 have bm:Blk W5 w.heap.size (clV c ba bc) 62:=by rw [← hW5];exact bm0.alloc _
 have b4:Blk W5 (w.heap.size+1) #[()] 31:=by rw [← hW5];exact Blk.new' _ _ _ _ sp_
 have hs5:W5.heap.size=w.heap.size+2:=by rw [← hW5];simp
 have hs5a:W5.heap.size≤w.heap.size+2∧w.heap.size+2≤W5.heap.size:=by omega
 clear hs5 bm0
 have HO5:=hd_ (HO.out W5 hB5)
 unfold clV at *
 generalize c.bs.length=nl at *
 refine callsIn_wide.1 (callsIn_of_wp_marks (F:=Fence.wide) (n:=0) func371 rfl trivial (wpIn_wide.2 ?_) rfl)
 simp only [ntmps371,List.size_toArray,List.length_cons,List.length_nil,Nat.reduceAdd,Nat.reduceSub,Array.replicate_succ,Array.replicate_zero,List.push_toArray,List.append_toArray,List.nil_append,List.cons_append]
 go_wp2_with (first
  | (refine Za0 62 (.tmp 1) Zah rfl rfl rfl bm rfl ?_)
  | (go_at_call 117;refine Za2 ?_))
 unfold Stop
 clear hW5
 refine HO5.out.mono ?_
 rintro e w6 ⟨T,mb,rfl,hb6,hOp,hT,hmb⟩
 have hB6:Below w.heap.size w w6:=hB5.trans (hb6.mono om_)
 have b46:=b4.below hb6 b4.lt
 have hmbl:=hOp.mb_lt
 have hs56:=hb6.size
 obtain ⟨w7,hw7⟩:∃ w7,w6.alloc (.cells #[.func (.func 125) #[.pointer (some ⟨T,0,none⟩)] #[]] 175)=w7:=⟨_,rfl⟩
 have hb67:Below w6.heap.size w6 w7:=by rw [← hw7];exact bel_
 have bF:Blk w7 w6.heap.size #[.func (.func 125) #[.pointer (some ⟨T,0,none⟩)] #[]] 175:=by rw [← hw7];exact Blk.new _ _ _
 have hs7:w7.heap.size=w6.heap.size+1:=by rw [← hw7];simp
 have hLn7:Ln w6 mb c w7:=(Ln.start hOp).below hb67 hmbl
 have b47:=b46.below hb67 b46.lt
 have hB7:Below w.heap.size w w7:=hB6.trans (hb67.mono hB6.size)
 clear HO5 HO hb6 b46 hB6
 have hsf:∀ (a:Addr) (fn:Fn) (x y:Array Value) (m:Mode) (w:World),(store a (.func fn x y) m).run prog w=stored prog w a (.func fn x y) m:=fun a fn x y m w=>run_store prog w a _ m rfl
 obtain ⟨i0,hi,hz0,hz1,hz2⟩:=Zbp Tryz.infoU
 go_wp2_with (first
  | (go_at_call 126;refine (HEv.out hOp _ hLn7).mono ?_;rintro e w8 ⟨rfl,rfl⟩))
 clear hw7 hb67
 go_loopw [6,7,15] (fun x6 x7 i wr=>∃ k:Nat,k≤E+1∧i=.int .u64 k∧Below w7.heap.size w7 wr∧wr.ownsRow w7.heap.size 151 1 x6 k ((List.range k).map u64V)) (fun _ _ i _=>E+1 - (intOf i).toNat)
 case atStart=>exact ⟨0,om_,rfl,Below.refl _ _,World.ownsRow_nil _ _ _ _⟩
 case round =>
  obtain ⟨k,hkE,rfl,hB,hown⟩:=hrel
  by_cases hlt:k < E+1
  ·have hlti:(k:Int) < (E:Int)+1:=by omega
   have hBs:=hB.size
   go_wp2_with (first
    | (at_builtin;refine Za2 ?_))
   unfold Stop
   refine wpList_append_own _ rfl _ _ 273 rfl w7.heap.size 151 i0 (.int .u64 0) 1 8 underlying273 hi hz0 hz1 hz2 rfl de_ _ _ _ rfl (hown.alloc _) ⟨wr.heap.size,0,none⟩ 1 1 [.int .u64 k] rfl rfl (cell_one_new _ _ _) (by simp [Value.oneCell']) (by unfold maxLen;omega) om_ (by simp;omega) ?_
   intro v' w3 hown' hgrow _
   go_wp2_with fail
   have hBC:=(hB.alloc hB.size (.cells #[.int .u64 k] 151)).grown hgrow (by simp;omega) (fun j e=>(hown.lt j e).1)
   refine ⟨⟨k+1,om_,by go_num,hBC,?_⟩,by simp [intOf];omega⟩
   rw [List.range_succ,List.map_append]
   exact hown'
  ·have hlti:¬ (k:Int) < (E:Int)+1:=by omega
   obtain rfl:k=E+1:=by omega
   obtain ⟨g,cap,rfl,hg2,hcall⟩:=HS.out wr w7.heap.size u6 K om_ (by rw [HE.out];exact hown)
   have hHS:=hd_ hcall
   obtain ⟨-,hlen,hall⟩:=Stab.bySize_all K om_
   have hall2:∀ x∈Stab.bySize K,x < 64:=by
    intro x hx
    have:=List.all_eq_true.1 hall x hx
    rw [Nat.blt_eq] at this
    have h1:=HE.out
    omega
   have hlen2:=hd_ hlen
   clear hcall hown hall hlen HS
   go_wp2_with (first
    | (go_at_call 265;refine hHS.out.mono ?_;rintro e w9 ⟨rfl,hB9,hU,hgl⟩;refine Za2 ?_))
   unfold Stop
   have hB79:Below w7.heap.size w7 w9:=hB.trans hB9
   have hLn9:=hLn7.below hB79 om_
   have b49:=b47.below hB79 b47.lt
   have bF9:=bF.below hB79 bF.lt
   have hBw9:Below w.heap.size w w9:=hB7.trans (hB79.mono hB7.size)
   have hs79:=hB79.size
   clear hB9 hHS hB hB79
   generalize hp6:w6.heap.size=p6 at *
   have hl256:(Stab.bySize K).length≤256:=by rw [hlen2.out,HE.out];omega
   have hcf:∀ (args:Array Value) (W:World),(callFunc 375 args).run prog W=.ok (.enter 375 args) W:=fun args W=>call375 args W
   have HPP:Hid (∀ w' x,x∈Stab.bySize K→(Ln w6 mb c w'∧Blk w' p6 #[.func (.func 125) #[.pointer (some ⟨T,0,none⟩)] #[]] 175)→Calls prog 375 (#[.int .u64 (x:Nat)] ++ #[.pointer p6]) w' (fun e w''=>e=.returned (.bool (!canC c x))∧(Ln w6 mb c w''∧Blk w'' p6 #[.func (.func 125) #[.pointer (some ⟨T,0,none⟩)] #[]] 175)∧Lets (fun k _=>k=mb) w' w'')):=fun w' x hx hI =>
    (HP.out hOp p6 x (hall2 x hx) w' hI.1 hI.2).mono fun e w'' h=>⟨h.1,⟨h.2.1,h.2.2.blk hI.2 om_⟩,h.2.2⟩
   have hI9:∀ w',Below w9.heap.size w9 w'→(Ln w6 mb c w'∧Blk w' p6 #[.func (.func 125) #[.pointer (some ⟨T,0,none⟩)] #[]] 175):=fun w' hb=>⟨hLn9.below hb om_,bF9.below hb bF9.lt⟩
   go_wp2_with (first
    | (go_at_call 374;refine Za2 ?_))
   unfold Stop
   rw [← hlen2.out]
   cases hf:(Stab.bySize K).find? (fun x=>!canC c x) with
   | none =>
    have hno:=List.find?_eq_none.1 hf
    refine (Zri 375 #[.pointer p6] (fun x=>!canC c x) _ (fun k _=>k=mb) (Stab.bySize K) g cap w9 hl256 (fun j h=>by simpa using hno _ (List.getElem_mem h)) hcf hU (fun _ e=>om_) hgl hI9 HPP.out).mono ?_
    rintro e wa ⟨rfl,⟨hLna,bFa⟩,hla⟩
    refine Zal (pb:=w.heap.size+1) (v:=.tuple #[(),.int .i64 4]) Zcm (fun W=>by simp [go_sem]) rfl (hla.blk b49 om_) fun w' hl hb=>⟨?_,0,4,rfl,Za3 (Za3 hBw9 hla om_ (fun _ _ _=>om_)) hl (by have:=hla.size;omega) (fun _ _ _=>om_),sp_⟩
    have r4:=hb.cell
    simp [results,results371,go_sem,r4]
   | some y =>
    obtain ⟨hy,n,hn,hny,hlo⟩:=List.find?_eq_some_iff_getElem.1 hf
    refine (Zps 375 #[.pointer p6] (fun x=>!canC c x) _ (fun k _=>k=mb) (Stab.bySize K) g cap n w9 hl256 hn (fun j h=>by simpa using hlo j h) (by rw [hny];exact hy) hcf hU (fun _ e=>om_) hgl hI9 HPP.out).mono ?_
    rw [hny]
    rintro e wa ⟨rfl,⟨hLna,bFa⟩,hla⟩
    have hyi:y < 64:=by rw [← hny];exact hall2 _ (List.getElem_mem hn)
    have b4a:=hla.blk b49 om_
    have r4a:=b4a.cell
    have f4a:=b4a.free
    have l4a:=b4a.lt
    have hBa:Below w.heap.size w wa:=Za3 hBw9 hla om_ (fun _ _ _=>om_)
    clear HPP hI9 hU
    go_wp2_with fail
    obtain ⟨Wf,hWf⟩:∃ Wf,wa.setCell ⟨w.heap.size+1,0,none⟩ ↑()=Wf:=⟨_,rfl⟩
    have r4f:=(by rw [← hWf];exact b4a.set 0 _:Blk Wf (w.heap.size+1) #[()] 31).cell
    have hbf:Below w.heap.size w Wf:=by rw [← hWf];exact hBa.setCell (by simp only;omega) _
    change bodyPostM Fence.wide 0 prog _ _ .ret _ (wa.setCell ⟨w.heap.size+1,0,none⟩ ↑())
    rw [hWf]
    refine Zcd (pb:=w.heap.size+1) (v:=.tuple #[.int .i64 (y:Int),()]) Zcm (fun W=>by simp [go_sem]) rfl ?_ ⟨_,0,rfl,hbf,sp_⟩
    simp [results,results371,go_sem,r4f]
theorem c_Clash (c:Cl) (ba:Option Addr) (bc:Nat) (w:World) (hr:RowsAt w ba 3 Zbf c.bs) (hlen:c.bs.length≤9223372036854775807) :
  Calls prog 371 #[.agg (clV c ba bc)] w (Zfn (clOk c) w):=by
 cases h:clOk c with
 | false=>rw [← h];exact Zpx c ba bc w hr hlen h
 | true=>rw [← h];exact Zuf c ba bc w hr hlen h
theorem Zwm:(prog.info? 3).map (fun i=>(i.zero,i.size,i.bytes))=some (some (.int .i64 0),1,8):=by kernel_rfl
def upN (n k:Nat):Array Value:=((List.range n).map fun i=>Value.int .i64 (if i < k then (i:Int) else 0)).toArray
theorem upN_size (n k:Nat):(upN n k).size=n:=by simp [upN]
theorem Zv3 (n k:Nat) {i:Nat}(h:i < n):(upN n k)[i]? = some (.int .i64 (if i < k then (i:Int) else 0)):=by simp [upN,h]
theorem upN_set (n k:Nat) (h:k < n):(upN n k).setIfInBounds k ↑k=upN n (k+1):=by
 apply Array.ext
 ·simp [upN]
 ·intro i h1 h2
  have hi:i < n:=by simpa [upN] using h2
  rw [Array.getElem_setIfInBounds (by rw [upN_size];exact hi)]
  by_cases e:k=i
  ·subst e;simp [upN]
  ·simp only [upN,e,if_false,List.getElem_toArray,List.getElem_map,List.getElem_range]
   by_cases h3:i < k
   ·simp [h3,show i < k+1 by omega]
   ·simp [h3,show ¬ i < k+1 by omega]
theorem upN_zero (n:Nat):Array.replicate n ↑()=upN n 0:=by
 apply Array.ext
 ·simp [upN]
 ·intro i h1 h2;simp [upN]
theorem Zpr (n:Nat) (hn:n≤31) (w:World):Calls prog 131 #[n] w (fun e w'=>e=.returned (.slice w.heap.size n n)∧Below w.heap.size w w'∧RowI w' w.heap.size (List.range n)):=by
 obtain ⟨i0,hi,hz0,hz1,hz2⟩:=Zbp Zwm
 have hni:(n:Int)≤31:=by omega
 go_enter func131,ntmps131
 go_wp2_with (first
  | (refine Zer (.const ↑()) (.tmp 5) rfl rfl rfl rfl ?_;rw [show max (0:Int) (n:Int)=(n:Int) by omega])
  | (refine Zca rfl (.tmp 6) (.tmp 6) 25 rfl 3 i0 ↑() underlying25 hi hz0 hz1 rfl .i64 .i64 (n:Int) (n:Int) n n rfl rfl rfl rfl nl_ (by rw [hz2];omega) (by unfold maxLen;omega) ?_;rw [upN_zero]))
 have b0:Blk (w.alloc (.cells (upN n 0) 3)) w.heap.size (upN n 0) 3:=Blk.new _ _ _
 have hB0:w (w.alloc (.cells (upN n 0) 3)):=by exact bel_
 go_loopw [4,10] (fun x4 x10 wr=>∃ k:Nat,k≤n∧x10=↑k∧Below w.heap.size w wr∧Blk wr w.heap.size (upN n k) 3) (fun _ x10 _=>n - (intOf x10).toNat)
 case atStart=>exact ⟨0,om_,rfl,hB0,b0⟩
 case round =>
  clear b0 hB0
  obtain ⟨k,hk,rfl,hB,b⟩:=hrel
  by_cases hlt:k < n
  ·have hlti:(k:Int) < (n:Int):=by omega
   have fk:=b.free k
   have ck:wr.cell? ⟨w.heap.size,k,none⟩=some (.int .i64 0):=by rw [b.cell,Zv3 _ _ hlt];simp
   have lb:=b.lt
   go_wp2_with fail
   have h2:=b.set k ↑k
   rw [upN_set _ _ hlt] at h2
   exact ⟨⟨k+1,om_,by go_num,hB.setCell nl_ _,h2⟩,by simp [intOf];omega⟩
  ·have hlti:¬ (k:Int) < (n:Int):=by omega
   obtain rfl:k=n:=by omega
   go_wp2_with fail
   go_ret
   refine ⟨rfl,hB,fun i hi=>?_⟩
   have hin:i < k:=by simpa using hi
   rw [b.cell,Zv3 _ _ hin,if_pos hin]
   simp
end Go.Proofs.YtbapgefodmmikaaGreatDoor
