/- Parts of a proof. -/
import Derived.Test.YtbapgefodmmikaaGreatDoorLMin
import Derived.Test.YtbapgefodmmikaaGreatDoorL06
import Derived.RangeFuncLeaves
import Derived.Scope
import Derived.Laws.CopyOwn
import Derived.Defers
import Derived.Recover
import Derived.Tactics2
set_option linter.unusedVariables false
set_option linter.unusedSimpArgs false
set_option maxHeartbeats 40000000
set_option maxRecDepth 100000
namespace Go.Proofs.YtbapgefodmmikaaGreatDoor
open Go.RowKit Go.Proofs Go.Ord Tryz
attribute [local irreducible] Ord.walk
def Zn6 (Q:Exit→Act→World→Prop):Exit→Act→World→Prop
 | .panic _,_,_=>False
 | e,a,w=>Q e a w
theorem Zd5 {P:Program}{c:Code}{Q:Exit→Act→World→Prop}{a:Act}{w:World}(h:c.wp P (Zn6 Q) a w):c.wp P Q a w :=
 wp_mono h fun e a w q=>by cases e <;> first|exact q|exact q.elim
theorem Zmf:(prog.info? 154).map (fun i=>(i.zero,i.size,i.bytes))=some (some .nilIface,1,16):=by kernel_rfl
theorem Zna (k:Kn):(knV k).oneCell'=true:=by cases k <;> rfl
theorem _root_.Q27 {p:Prop}(h:p:=by
 rcases hk with rfl|rfl <;> rcases (show V=0∨V=1∨V=2∨V=3∨V=4∨V=5∨V=6∨V=7∨V=8 by omega) with rfl|rfl|rfl|rfl|rfl|rfl|rfl|rfl|rfl <;> kernel_rfl):p:=h
theorem run_shl {k:IntKind}(hk:k=.u64∨k=.i64) (V:Nat) (h:V≤8) (t:TypeId) (w:World):(Go.binOp .shl t (.int k 1) ↑V).run prog w=.ok (.int k ((2 ^ V:Nat):Int)) w:=Q27
theorem run_sub1 {k:IntKind}(hk:k=.u64∨k=.i64) (V:Nat) (h:V≤8) (t:TypeId) (w:World):(Go.binOp .sub t (.int k ((2 ^ V:Nat):Int)) (.int k 1)).run prog w=.ok (.int k ((2 ^ V - 1:Nat):Int)) w:=Q27
theorem y_shl {k:IntKind}(hk:k=.u64∨k=.i64) (V:Nat) (h:V≤8) {d:Option Tmp}{t t' ty:TypeId}{pos:String}{af:Array Edge}{g:Option (Nat × Bool)}{x y:Operand}{a:Act}(hx:a.eval x=.int k 1) (hy:a.eval y=↑V) (W:World) :
  Zyr prog ⟨d,.binOp .shl t x y t',ty,pos,af,g⟩ a W (.int k ((2 ^ V:Nat):Int)):=by
 have h2:=run_shl hk V h t W
 generalize ((2 ^ V:Nat):Int)=P2 at *
 unfold Zyr
 simp [execOp,eqGuard,hx,hy,h2,Result.andThen,Zys]
theorem y_sub1 {k:IntKind}(hk:k=.u64∨k=.i64) (V:Nat) (h:V≤8) {d:Option Tmp}{t t' ty:TypeId}{pos:String}{af:Array Edge}{g:Option (Nat × Bool)}{x y:Operand}{a:Act}(hx:a.eval x=.int k ((2 ^ V:Nat):Int)) (hy:a.eval y=.int k 1) (W:World) :
  Zyr prog ⟨d,.binOp .sub t x y t',ty,pos,af,g⟩ a W (.int k ((2 ^ V - 1:Nat):Int)):=by
 have h2:=run_sub1 hk V h t W
 generalize ((2 ^ V:Nat):Int)=P2 at *
 generalize ((2 ^ V - 1:Nat):Int)=P3 at *
 unfold Zyr
 simp [execOp,eqGuard,hx,hy,h2,Result.andThen,Zys]
theorem kn_src {w w':World}{ka:Option Addr}{ks:List Kn}(h:KnAt w ka ks) (hb:w w'):∀ ad,ka=some ad→∀ (j:Nat) (u:Value),(ks.map knV)[j]? = some u→w'.cell? (ad.add j)=some u:=by
 intro ad ha j u hu
 rw [List.getElem?_map] at hu
 cases hj:ks[j]? with
 | none=>simp [hj] at hu
 | some x =>
  simp only [hj,Option.map_some,Option.some.injEq] at hu
  have hjl:=(List.getElem?_eq_some_iff.1 hj).1
  obtain ⟨kb,ko,hka,hc⟩:=h j hjl
  have hx:=(List.getElem?_eq_some_iff.1 hj).2
  rw [hx,hu] at hc
  rw [ha] at hka
  obtain rfl:=Option.some.inj hka
  have:(⟨kb,ko,none⟩:Addr).add j=⟨kb,ko+j,none⟩:=by simp [Addr.add]
  rw [this]
  exact (hb.cell (bl_ w _ hc)).trans hc
theorem own_blk {w:World}{base g k:Nat}{e:TypeId}{xs:List Value}(h:w.ownsRow base e 1 (.slice g k k) k xs):Blk w g xs.toArray e:=by
 obtain ⟨hl,⟨h0,-⟩ | ⟨g',cap,cur,hv,hg,hh,hn,hc,hs,ht⟩⟩:=h
 ·cases h0
 ·simp only [Value.slice.injEq,Option.some.injEq,Addr.mk.injEq] at hv
  obtain ⟨⟨rfl,-,-⟩,-,rfl⟩:=hv
  have:cur=xs.toArray:=by
   apply Array.toList_inj.1
   rw [← ht,List.take_of_length_le (by simp [hs])]
  rw [← this];exact hh
def isG:Kn→Bool
 | .g _ _ _=>true
 | .p _ _ _=>false
def grOf:Kn→Option Gr
 | .g vo lo hi=>some (vo,lo,hi)
 | .p _ _ _=>none
theorem Zr5 (L:List Kn):L.foldl Zg4 none=none:=by
 induction L with
 | nil=>rfl
 | cons x L ih=>exact ih
theorem Znc:∀ (L:List Kn) (t t':Ti) (gs gs':List Gr),L.foldl Zg4 (some (t,gs))=some (t',gs')→gs'=gs ++ L.filterMap grOf
 | [],t,t',gs,gs',h=>by
  simp only [List.foldl_nil,Option.some.injEq,Prod.mk.injEq] at h
  rw [← h.2];simp
 | x :: L,t,t',gs,gs',h=>by
  rw [List.foldl_cons] at h
  cases x with
  | g vo lo hi =>
   simp only [Zg4] at h
   rw [Znc L _ _ _ _ h,List.filterMap_cons]
   simp [grOf]
  | p A B sm =>
   simp only [Zg4] at h
   split at h
   ·rw [Znc L _ _ _ _ h,List.filterMap_cons]
    rfl
   ·rw [Zr5] at h;cases h
theorem Zu4 (L:List Kn):(L.filterMap grOf).length=L.countP isG:=by
 induction L with
 | nil=>rfl
 | cons x L ih=>cases x <;> simp [List.filterMap_cons,List.countP_cons,grOf,isG,ih]
theorem Zr6 (g0:Gr) (L:List Kn) (t:Ti) (gs:List Gr) (h:Zh6 L g0=some (t,gs)):gs[0]? = some g0∧gs.length=1+L.countP isG∧∀ g∈gs,g=g0∨Kn.g g.1 g.2.1 g.2.2∈L:=by
 have hg:=Znc L _ _ _ _ h
 subst hg
 refine ⟨rfl,?_,fun g hg=>?_⟩
 ·rw [List.length_append,Zu4];rfl
 ·simp only [List.cons_append,List.nil_append,List.mem_cons,List.mem_filterMap] at hg
  rcases hg with rfl | ⟨x,hx,he⟩
  ·exact .inl rfl
  ·cases x with
   | g vo lo hi=>simp only [grOf,Option.some.injEq] at he;subst he;exact .inr hx
   | p A B sm=>cases he
theorem Zqo (ks:List Kn) (set k:Nat):(Ze7 ks set k).countP isG≤(ks.take k).countP isG:=by
 induction k with
 | zero=>simp [Ze7]
 | succ k ih =>
  by_cases h:k < ks.length
  ·rw [Zd8 ks set k h,List.take_succ_eq_append_getElem h,List.countP_append,List.countP_append]
   split
   ·omega
   ·simp;omega
  ·have:Ze7 ks set (k+1)=Ze7 ks set k:=by
    unfold Ze7
    rw [List.range_succ,List.flatMap_append]
    simp [h]
   rw [this,List.take_of_length_le om_]
   rw [List.take_of_length_le om_] at ih
   exact ih
theorem sel_mem {ks:List Kn}{set:Nat}{ws:List Kn}{x:Kn}(h:x∈sel ks set ws):x∈ks ++ ws:=by
 unfold sel at h
 rcases List.mem_append.1 h with h|h
 ·unfold Ze7 at h
  rw [List.mem_flatMap] at h
  obtain ⟨i,-,hi⟩:=h
  cases hk:ks[i]? with
  | none=>simp [hk] at hi
  | some y =>
   simp only [hk] at hi
   split at hi
   ·simp only [List.mem_singleton] at hi;subst hi
    exact List.mem_append_left _ (List.mem_of_getElem? hk)
   ·cases hi
 ·exact List.mem_append_right _ h
def x0:SL:=[0,0,0,0,0,0,0]
theorem rep_x0:Rep (putM [] x0 1) [x0]:=by
 have:=Rep.nil.add (y:=x0) ⟨rfl,by simp [x0]⟩ 1
 simpa [getM] using this
theorem post_ret {P:Program}{fn:Func}{v:Value}{a:Act}{w:World}{R:Ending→World→Prop}(hd:a.defers=[]) (h:(results fn a.tmps).run P w=.ok v w) (hr:R (.returned v) w):Exit.noGoto (Zn6 (bodyPostM Fence.wide 0 P fn R)) .ret a w:=by
 show LeavesInM _ _ _ _ _ _ a.defers _ _
 rw [hd]
 exact ⟨v,h,hr⟩
theorem Zvl {P:Program}{fn:Func}{v:Value}{a:Act}{w:World}{R:Ending→World→Prop}{base:Nat}(hm:Marks base a.defers w)
  (h:∀ w' Ds,(∀ D∈Ds,base≤D∧w.heap[D]? = some (.deferred (some [])))→Off Ds w.heap.size w w'→(results fn a.tmps).run P w'=.ok v w'∧R (.returned v) w'):Exit.noGoto (Zn6 (bodyPostM Fence.wide 0 P fn R)) .ret a w:=by
 show LeavesInM _ _ _ _ _ _ a.defers _ _
 obtain ⟨Ds,h1,h2,h3⟩:=hm
 rw [h1]
 refine Zil (base:=base) Ds w h2 h3 fun w' hw'=>?_
 have:=h w' Ds h3 hw'
 exact ⟨v,this.1,this.2⟩
theorem b_counts (v:Nat) (b:Bn) (V:Nat) (hV:b.V=(V:Int)) (hV8:V≤8) (hlo:0≤b.lo) (hhi:b.hi≤8) (ga:Option Addr) (gc:Nat) (pa:Option Addr) (pc:Nat) (ka:Option Addr) (kc:Nat) (ks ws:List Kn) (set:Nat) (wa:Option Addr) (wcap:Nat) (w:World)
  (hv:VoteAt w v b ga gc pa pc ka ks.length kc) (hk:KnAt w ka ks) (hw:KnAt w wa ws) (hkl:ks.length≤8) (hwl:ws.length≤2) (hset:set < 2 ^ 62) (hok:∀ x∈ks ++ ws,knOk x) (hwc:wa=none→wcap=0) (hgn:ks.countP isG≤4) :
  Calls prog 92 #[.pointer (some ⟨v,0,none⟩),.int .u64 set,.slice wa ws.length wcap] w (Zak (cv (Za6 V b.lo b.hi (sel ks set ws))) w):=by
 refine callsIn_wide.1 (callsIn_of_wp_marks (F:=Fence.wide) (n:=0) func92 rfl trivial (wpIn_wide.2 ?_) rfl)
 simp only [ntmps92,List.size_toArray,List.length_cons,List.length_nil,Nat.reduceAdd,Nat.reduceSub,Array.replicate_succ,
   Array.replicate_zero,List.push_toArray,List.append_toArray,List.nil_append,List.cons_append]
 obtain ⟨h0,h1,h2,h3,h4,h5,h6⟩:=hv
 rw [hV] at h0
 generalize hblo:b.lo=lo at *
 generalize hbhi:b.hi=hi at *
 clear hV
 obtain ⟨i0,hi0,hz0,hz1,hz2⟩:=info_parts Zmf
 go_wp2_with fail
 refine Zd5 ?_
 refine wp_scope_straight ?_
 go_wp2_with fail
 obtain ⟨W1,hW1⟩:∃ W1,W1=(w.alloc (.cells #[.pointer (some ⟨v,0,none⟩)] 143)).alloc (.cells #[(),(),(),(),(),(),(),(),()] 142):=⟨_,rfl⟩
 rw [← hW1]
 generalize hn:w.heap.size=n at *
 have hvn:v < n:=by rw [← hn];exact bl_ w _ h0
 have b3:Blk W1 n #[.pointer (some ⟨v,0,none⟩)] 143:=by rw [hW1];exact (Blk.new' _ _ _ _ hn).alloc _
 have b6:Blk W1 (n+1) #[(),(),(),(),(),(),(),(),()] 142:=by rw [hW1];exact Blk.new' _ _ _ _ (by simp [hn])
 have hB1:Below n w W1:=by rw [hW1];exact bel_
 have hs1:W1.heap.size=n+2:=by rw [hW1];simp [hn]
 clear hW1
 have k3:=b3.cell
 have hi2:i0.bytes * (ks.length+ws.length)≤281474976710656:=by rw [hz2];omega
 have hml:ks.length+ws.length≤maxLen:=by unfold maxLen;omega
 have g6:W1.cell? ⟨v,6,none⟩=some (.slice ka ks.length kc):=(hB1.cell hvn).trans h6
 go_cut [7] from 25 to 38 (fun p wx=>p=.slice ↑(n+2) ks.length (ks.length+ws.length)∧Below (n+2) W1 wx∧wx.heap.size=n+3 ∧
  Blk wx (n+2) (Array.replicate (ks.length+ws.length) .nilIface) 154)
 case first =>
  refine Ord.wp_region [(0,0),(1,0),(2,0),(3,0),(4,0),(5,0),(6,0),(7,0),(8,0),(9,0),(10,0),(11,0),(12,0),(13,2),(14,0)] (fun _=>True) kr_ kr_ (fun c a d v w h=>by cases d <;> exact h) trivial ?_
  go_wp2_with (first
   | ((with_reducible refine Zyg ?_);refine Zyk rfl rfl (fun K hK=>?_))|with_reducible refine Zyi rfl rfl (fun K hK=>?_)|((with_reducible refine Zye ?_);first|refine Zyl rfl rfl (fun W=>by simp [go_sem];rfl) (fun K hK=>?_)|refine Zym rfl rfl (fun K hK=>?_)|refine Zyn rfl rfl (fun K hK=>?_))|with_reducible refine Zyh rfl (by first|(simp;done)|assumption|(go_simp;done)|exact bel_) (fun K hK=>?_)|with_reducible refine Zyo ?_ ?_|with_reducible refine Zyj ?_|(with_reducible refine Zyf (by first|(simp;done)|(go_simp;done)|exact bel_) (fun _=>?_))
   | (refine Zca rfl (.tmp 29) (.tmp 37) 230 rfl 154 i0 .nilIface underlying230 hi0 hz0 hz1 rfl .i64 .i64 _ _ ks.length (ks.length+ws.length) rfl rfl rfl rfl ?_ hi2 hml ?_;(focus omega)))
  go_meet
  refine ⟨rfl,by exact bel_,by simp [hs1],?_⟩
  exact Blk.new' _ _ _ _ hs1
 case rest =>
  obtain ⟨rfl,hB2,hs2,b7⟩:=hcut
  replace b3:=b3.below hB2 om_
  replace b6:=b6.below hB2 om_
  have k3':=b3.cell
  have g6':wc.cell? ⟨v,6,none⟩=some (.slice ka ks.length kc):=(hB2.cell (by show v < n+2;omega)).trans g6
  have hBw:Below n w wc:=hB1.trans (hB2.mono om_)
  clear k3 g6 hB1 hs1
  have hsrc:0 < (ks.map knV).length→(some ⟨n+2,0,none⟩:Option Addr)=some ⟨n+2,0,none⟩∧∃ ad,ka=some ad∧∀ j u,(ks.map knV)[j]? = some u→wc.cell? (ad.add j)=some u:=by
   intro hp
   obtain ⟨kb,ko,hka,-⟩:=hk 0 (by simpa using hp)
   refine ⟨rfl,⟨kb,ko,none⟩,hka,fun j u hu=>?_⟩
   rw [List.getElem?_map] at hu
   cases hj:ks[j]? with
   | none=>simp [hj] at hu
   | some x =>
    simp only [hj,Option.map_some,Option.some.injEq] at hu
    have hjl:=(List.getElem?_eq_some_iff.1 hj).1
    obtain ⟨kb2,ko2,hka2,hc⟩:=hk j hjl
    rw [hka] at hka2
    simp only [Option.some.injEq,Addr.mk.injEq] at hka2
    obtain ⟨rfl,rfl,-⟩:=hka2
    have hx:=(List.getElem?_eq_some_iff.1 hj).2
    rw [hx,hu] at hc
    have:(⟨kb,ko,none⟩:Addr).add j=⟨kb,ko+j,none⟩:=by simp [Addr.add]
    rw [this]
    exact (hBw.cell (by show kb < n;rw [← hn];exact bl_ w _ hc)).trans hc
  have q1:(prog.info? 154).map (·.size)=some 1:=by rw [hi0];simp [hz1]
  have q2:wc.heap[n+2]? = some (.cells (List.replicate (ks.length+ws.length) Value.nilIface).toArray 154 (0,0)):=by
   have:(List.replicate (ks.length+ws.length) Value.nilIface).toArray=Array.replicate (ks.length+ws.length) .nilIface:=by simp
   rw [this];exact b7
  have q3:(ks.map knV).length=Nat.min ks.length ks.length:=by simp [Nat.min_def]
  have q4:0+(ks.map knV).length≤(List.replicate (ks.length+ws.length) Value.nilIface).length:=by simp
  have q6:(List.replicate (ks.length+ws.length) Value.nilIface).length=ks.length+ws.length:=by simp
  have q5:∀ u∈ks.map knV,u.oneCell'=true:=by
   intro u hu
   obtain ⟨x,-,rfl⟩:=List.mem_map.1 hu
   exact Zna x
  obtain ⟨KV,hKV⟩:∃ KV,KV=ks.map knV:=⟨_,rfl⟩
  rw [← hKV] at hsrc q3 q4 q5
  have HKV:=hd_ hKV
  clear hKV
  generalize List.replicate (ks.length+ws.length) Value.nilIface=NL at *
  have HF:=hd_ b_free
  go_wp2_with (first
   | (go_at_call 191;refine (HF.out _).mono ?_;rintro e w8 ⟨rfl,hb8⟩;obtain ⟨c8,f8,z8⟩:=after hb8 rfl)
   | (refine Za1 240 (.tmp 8) (.tmp 45) Zb5 rfl rfl rfl rfl (Blk.new _ _ _) rfl (Zbk _) (Zde _) ?_;intro w9 h9)
   | (refine wpList_copy_splice rfl (.tmp 39) (.tmp 43) 230 230 rfl 154 underlying230 q1 _ _ _ _ _ _ rfl rfl (n+2) 0 NL 154 q2 KV q3 hsrc q4 q5 (n+2) wc br_ nl_ ?_;intro w4 h4 hB4))
  obtain ⟨m,hm⟩:∃ m,w8.heap.size=m:=⟨_,rfl⟩
  have hs4:n+3≤w4.heap.size:=by have:=hB4.size;omega
  have z8':n+3≤m:=by omega
  rw [hm] at h9
  have b3w:Blk w9 n #[.pointer (some ⟨v,0,none⟩)] 143:=h9.other (((b3.below hB4 om_).below hb8 om_).alloc _) om_
  have b6w:=h9.other (((b6.below hB4 om_).below hb8 om_).alloc _) (show n+1≠m by omega)
  have b7w:Blk w9 (n+2) (splice NL 0 KV).toArray 154:=h9.other (((show Blk w4 (n+2) (splice NL 0 KV).toArray 154 from h4.out).below hb8 om_).alloc _) om_
  have b8w:=h9.blk
  have hBw9:Below n w w9:=h9.below ((hBw.trans (hB4.mono om_)).trans (hb8.mono om_) |>.alloc om_ _) om_
  have hs9:w9.heap.size=m+1:=by rw [h9.size];simp [hm]
  have v0:w9.cell? ⟨v,0,none⟩=some (.int .i64 V):=(hBw9.cell hvn).trans h0
  have v2:w9.cell? ⟨v,2,none⟩=some (.int .i64 lo):=(hBw9.cell hvn).trans h2
  have v3:w9.cell? ⟨v,3,none⟩=some (.int .i64 hi):=(hBw9.cell hvn).trans h3
  have v6:w9.cell? ⟨v,6,none⟩=some (.slice ka ks.length kc):=(hBw9.cell hvn).trans h6
  have k3w:=b3w.cell
  clear h9 c8 f8 z8 hb8 hB4 h4 b3 b6 b7 k3' g6' q2 hs4
  go_cut [10] from 46 to 59 (fun p wx=>∃ gb gp:Nat,p=.pointer gp∧m+1≤gb∧m+1≤gp∧gb≠gp∧wx.heap.size=m+3∧Below (m+1) w9 wx ∧
   Blk wx gb #[.int .u64 (2 ^ V - 1:Nat),lo,hi] 234∧Blk wx gp #[.slice gb 1 1] 242)
  case first =>
   refine Ord.wp_fork [(0,1),(1,1),(2,1),(3,1),(4,1),(5,1),(6,1),(7,1),(8,1),(9,1),(10,1),(11,1),(12,1)] 13 [(14,2),(15,2)] 14 [(13,2),(15,2)] (fun W=>Below (m+1) w9 W) kr_ kr_ (fun c a d v w h=>by cases d <;> exact h) br_.drew ?_
   go_wp2_with (first
    | ((with_reducible refine Zyg ?_);refine Zyk rfl rfl (fun K hK=>?_))|with_reducible refine Zyi rfl rfl (fun K hK=>?_)|((with_reducible refine Zye ?_);first|refine Zyl rfl rfl (fun W=>by simp [go_sem];rfl) (fun K hK=>?_)|refine Zym rfl rfl (fun K hK=>?_)|refine Zyn rfl rfl (fun K hK=>?_))|with_reducible refine Zyh rfl (by first|(simp;done)|assumption|(go_simp;done)|exact bel_) (fun K hK=>?_)|with_reducible refine Zyo ?_ ?_|with_reducible refine Zyj ?_|(with_reducible refine Zyf (by first|(simp;done)|(go_simp;done)|exact bel_) (fun _=>?_))
    | ((with_reducible refine Zye ?_);first|(refine Zyq (ad:=⟨n,0,none⟩) (.pointer (some ⟨v,0,none⟩)) rfl rfl ?_ ?_;(focus (intro W hW;obtain ⟨cW,_,zW⟩:=Zbe hW rfl;simp [go_sem,cW,↓IntWalk.iteOmega,k3w];done));intro K hK)|(refine Zyq (ad:=⟨v,0,none⟩) ↑V rfl rfl ?_ ?_;(focus (intro W hW;obtain ⟨cW,_,zW⟩:=Zbe hW rfl;simp [go_sem,cW,↓IntWalk.iteOmega,v0];done));intro K hK)|(refine Zyq (ad:=⟨v,2,none⟩) (.agg #[lo,hi]) rfl rfl ?_ ?_;(focus (intro W hW;obtain ⟨cW,_,zW⟩:=Zbe hW rfl;simp [go_sem,cW,↓IntWalk.iteOmega,v2,v3];done));intro K hK)|(refine Ord.wild_bin (.int .u64 (2 ^ V:Nat)) rfl ?_ ?_;(focus (intro W hW;exact y_shl (.inl rfl) V hV8 rfl rfl W));intro K hK)|(refine Ord.wild_bin (.int .u64 (2 ^ V - 1:Nat)) rfl ?_ ?_;(focus (intro W hW;exact y_sub1 (.inl rfl) V hV8 rfl rfl W));intro K hK))
    | ((with_reducible refine Zye ?_);refine Ord.wild_build (.agg #[.int .u64 (2 ^ V - 1:Nat),lo,hi]) rfl ?_ ?_;(focus (intro W hW;simp [go_sem];done));intro K hK))
   all_goals go_meet
   all_goals (first
    | exact ⟨m+1,m+1+1,rfl,om_,om_,om_,by simp [hs9],by exact bel_,((Blk.new' _ _ _ _ hs9).alloc _).drew,(Blk.new' _ _ _ _ (by simp [hs9])).drew⟩
    | exact ⟨m+1+1,m+1,rfl,om_,om_,om_,by simp [hs9],by exact bel_,(Blk.new' _ _ _ _ (by simp [hs9])).drew,((Blk.new' _ _ _ _ hs9).alloc _).drew⟩)
  case rest =>
   obtain ⟨gb,gp,rfl,hgb,hgp,hgne,hsA,hBA,ca,cb⟩:=hcut
   replace b3w:=b3w.below hBA om_
   replace b6w:=b6w.below hBA om_
   replace b7w:=b7w.below hBA om_
   replace b8w:=b8w.below hBA om_
   have hBnA:Below n w wc:=hBw9.trans (hBA.mono om_)
   have u0:wc.cell? ⟨v,0,none⟩=some (.int .i64 V):=(hBnA.cell hvn).trans h0
   have u6:wc.cell? ⟨v,6,none⟩=some (.slice ka ks.length kc):=(hBnA.cell hvn).trans h6
   clear v0 v2 v3 v6 k3w hBw9 hBw h0 h1 h2 h3 h4 h5 h6 hsrc
   have hspl:(splice NL 0 KV).length=ks.length+ws.length:=by rw [length_splice NL 0 KV q4,q6]
   have hspt:(splice NL 0 KV).take ks.length=KV:=by
    have h3:KV.length=ks.length:=by rw [q3];simp [Nat.min_def]
    unfold splice;rw [List.take_zero,List.nil_append,← h3,List.take_left]
   have hownK:wc.ownsRow (n+2) 154 1 (.slice ↑(n+2) ks.length (ks.length+ws.length)) ks.length KV:=by
    have:=Zm4 b7w nl_ (k:=ks.length) (m:=ks.length+ws.length) (by simp [hspl]) om_ hml
    simpa [hspt] using this
   have hnone:wa=none→ws.length=0∧wcap=0:=by
    intro h
    refine ⟨?_,hwc h⟩
    rcases Nat.eq_zero_or_pos ws.length with h'|h'
    ·exact h'
    ·obtain ⟨_,_,h2,-⟩:=hw 0 h'
     rw [h] at h2;cases h2
   have hnews:=kn_src hw (hn ▸ hBnA)
   have hones:∀ u∈ws.map knV,u.oneCell'=true:=by
    intro u hu
    obtain ⟨x,-,rfl⟩:=List.mem_map.1 hu
    exact Zna x
   have HNW:=hd_ hnews
   have HON:=hd_ hones
   clear hnews hones
   generalize hWV:ws.map knV=WV at *
   have hWVl:WV.length=ws.length * 1:=by rw [← hWV];simp
   have HWV:=hd_ hWV
   clear hWV
   go_wp2_with (first
    | (at_builtin;refine wpList_append_fits_any _ rfl (.tmp 60) (.tmp 61) 230 rfl (n+2) 154 i0 1 underlying230 hi0 hz1 (n+2) ks.length (ks.length+ws.length) KV rfl hownK wa ws.length wcap WV rfl hWVl hnone HNW.out HON.out nl_ ?_;refine Za2 ?_))
   unfold Stop
   intro w5 hown5 hgrow5
   go_wp2_with fail
   have hg0:GOwn w5 (m+1) (.slice gb 1 1) [((2 ^ V - 1:Nat),lo,hi)] :=
    ⟨rfl,.inr ⟨gb,1,_,rfl,hgb,(hgrow5.block gb (by rw [hsA];have:=ca.lt;omega) (fun e=>by simp at e;omega)).trans ca,Nat.le_refl _,by unfold maxLen;omega,rfl,rfl⟩⟩
   have hO5:Off [n+2] wc.heap.size wc w5:=(Off.refl _ _ _).grown hgrow5 nl_ (fun g hg=>.inl (by simp at hg;simp [hg]))
   have b3x:=hO5.blk b3w b3w.lt sp_
   have b6x:=hO5.blk b6w b6w.lt sp_
   have b8x:=hO5.blk b8w b8w.lt (by simp;omega)
   have cbx:=hO5.blk cb cb.lt (by simp;omega)
   have u0x:w5.cell? ⟨v,0,none⟩=some (.int .i64 V):=(hO5.cell (a:=⟨v,0,none⟩) (by show v < _;omega) (by simp;omega)).trans u0
   have u6x:w5.cell? ⟨v,6,none⟩=some (.slice ka ks.length kc):=(hO5.cell (a:=⟨v,6,none⟩) (by show v < _;omega) (by simp;omega)).trans u6
   have bkx:=own_blk hown5
   have hBn5:Below n w w5:=hBnA.trans (hO5.below om_ sp_)
   have hKA:∀ (i:Nat) (x:Kn),(ks ++ ws)[i]? = some x→(KV ++ WV).toArray[i]? = some (knV x):=by
    intro i x hx
    rw [HKV.out,← HWV.out,← List.map_append,List.getElem?_toArray,List.getElem?_map,hx];rfl
   have hs5:wc.heap.size≤w5.heap.size:=hgrow5.size
   refine Zx7 _ w5 (m+1) v n m gp (n+1) (n+2) ka kc (ks.length+ws.length) ks ws set (2 ^ V - 1,lo,hi) (KV ++ WV).toArray (.slice gb 1 1) hkl hwl hset hok b3x u6x b6x bkx hKA om_ om_ om_ om_ om_ hgp om_ om_ om_ om_
    ⟨Off.refl _ _ _,Nat.le_refl _,rfl,b8x,cbx,hg0,TiOk.free,sp_,sp_⟩ ?_ ?_
   ·intro x9 x11 x12 x13 x14 x64 x65 x66 x67 x68 x69 x70 x71 x72 x73 x74 x75 x76 x77 x78 x79 x80 x81 x82 x83 x84 x85 x86 x87 x88 x89 x90 x91 x92 x93 x94 x95 x96 x97 x98 x99 x100 x101 x102 w6 t gs vs h1
    have hfold:=h1.fold
    rw [Zoq] at hfold
    obtain ⟨hgs0,hgl,hgm⟩:=Zr6 _ _ _ _ hfold
    have hgl7:gs.length≤7:=by
     have:=Zqo ks set ks.length
     rw [List.take_length] at this
     have h2:(sel ks set ws).countP isG≤ks.countP isG+ws.length:=by
      unfold sel;rw [List.countP_append]
      have:=List.countP_le_length (p:=isG) (l:=ws)
      omega
     omega
    have hvo:∀ g∈gs,g.1 < 2 ^ 62:=by
     intro g hg
     rcases hgm g hg with rfl|h
     ·show 2 ^ V - 1 < 2 ^ 62
      have:=Nat.pow_le_pow_right (show 0 < 2 by omega) (show V≤62 by omega)
      omega
     ·have:=hok _ (sel_mem h)
      simp only [knOk] at this
      omega
    have hcN:Hid (∀ S,S.Perm (Zaz gs t V V)→Za6 V lo hi (sel ks set ws)=outN gs S):=by
     intro S hS
     funext j
     unfold Za6
     rw [hfold]
     exact (Zp0 hS j).symm
    clear hgm hfold hgl
    obtain ⟨gb2,gc2,rfl,hgb2,bg2⟩:=h1.own.at h1.pos
    have hO6:=h1.off
    have b3y:=hO6.blk b3x om_ (by simp;omega)
    have b6y:=hO6.blk b6x om_ (by simp;omega)
    have u0y:w6.cell? ⟨v,0,none⟩=some (.int .i64 V):=(hO6.cell (a:=⟨v,0,none⟩) (by show v < _;omega) (by simp;omega)).trans u0x
    have b8y:=h1.b8
    have b10y:=h1.b10
    have hBn6:Below n w w6:=hBn5.trans (hO6.below om_ (by simp;omega))
    have hpos:=h1.pos
    have hm6:m+1≤w6.heap.size:=by have:=b10y.lt;omega
    clear h1
    have hmm:=@run_makeMap prog
    go_wp2_with (first
     | (refine Zdb (.tmp 103) (.tmp 104) (.const (.int .i64 1)) rfl (.inr rfl) rfl (k:=x0) rfl (v:=1) rfl (MapIs.new _) MapOk.nil ⟨rfl,by simp [x0]⟩ ?_;intro w7 ht7 hm7;have HT7:=hd_ ht7;clear ht7;refine Za2 ?_))
    unfold Stop
    have hO7:Off [] w6.heap.size w6 w7:=((Off.refl _ _ _).alloc nl_ _).turn HT7.out (.inr nl_)
    have hs7:w7.heap.size=w6.heap.size+1:=by rw [HT7.out.size];simp
    have b3z:=hO7.blk b3y b3y.lt sp_
    have b6z:=hO7.blk b6y b6y.lt sp_
    have u0z:w7.cell? ⟨v,0,none⟩=some (.int .i64 V):=(hO7.cell (a:=⟨v,0,none⟩) (bl_ w6 _ u0y) sp_).trans u0y
    have b8z:=hO7.blk b8y b8y.lt sp_
    have b10z:=hO7.blk b10y b10y.lt sp_
    have bg2z:=bg2.off hO7 (by
     obtain ⟨b,o,h0,h1,-⟩:=bg2 0 hpos
     simp only [Option.some.injEq,Addr.mk.injEq] at h0
     obtain ⟨rfl,-,-⟩:=h0
     exact bl_ w6 _ h1) sp_
    have hBn7:Below n w w7:=hBn6.trans (hO7.below om_ sp_)
    have c3z:=b3z.cell
    have HS7:=hd_ hs7
    clear hs7
    go_wp2_with fail
    refine wp_label ?_
    go_wp2_with fail
    refine Zx6 _ ?_ w7 (m+1) v n V m gp gb2 gc2 w6.heap.size t gs (putM [] x0 1) hV8 hgl7 hvo ⟨b3z,u0z,b8z,b10z,bg2z,hpos⟩ hm7 rep_x0 (by simp [putM,x0]) (by simp [putM]) (Marks.nil _ _) (by have:=HS7.out;omega) ?_
    ·exact fun c a w h=>h
    intro ds' y16 y17 y18 y19 y111 y112 y113 y114 y115 y116 y117 y118 y119 y120 y121 y122 y123 y124 y125 y126 y127 y128 y166 y167 w8 sm' l hmk hO8 hm8 hl8 hll8 hsm
    have hsm8:=hm8.lt
    have hs78:=hO8.size
    go_wp2_with (first
     | (refine Zeq (.tmp 168) rfl rfl rfl hm8 ?_;intro w9x hw9 hit9 hm9;have HW9:=hd_ hw9;clear hw9;refine Za2 ?_))
    unfold Stop
    have hO9:Off [] w8.heap.size w8 w9x:=by rw [HW9.out];exact (Off.refl _ _ _).alloc nl_ _
    have b6a:=hO9.blk (hO8.blk b6z b6z.lt sp_) (by have:=b6z.lt;omega) sp_
    have b10a:=hO9.blk (hO8.blk b10z b10z.lt sp_) (by have:=b10z.lt;omega) sp_
    have hgb2z:gb2 < w7.heap.size:=by
     obtain ⟨b,o,h0,h1,-⟩:=bg2z 0 hpos
     simp only [Option.some.injEq,Addr.mk.injEq] at h0
     obtain ⟨rfl,-,-⟩:=h0
     exact bl_ w7 _ h1
    have bg2a:=(bg2z.off hO8 hgb2z sp_).off hO9 om_ sp_
    have hmk9:=hmk.off hO9 sp_
    have hBn9:Below n w w9x:=(hBn7.trans (hO8.below om_ sp_)).trans (hO9.below om_ sp_)
    go_wp2_with fail
    refine Zx3 _ ?_ w9x (n+1) gp gb2 gc2 w8.heap.size sm' gs l (Zaz gs t V V) hgl7 ⟨_,hgs0,hlo,hhi⟩ b10a bg2a om_ om_ hl8 (Nat.le_trans (Zev gs t V V) (by have:=Nat.pow_le_pow_right (show 0 < 2 by omega) hV8;simpa using this)) hll8
     ⟨Off.refl _ _ _,hit9,List.nodup_nil,sp_,hm9,b6a⟩ ?_
    ·exact fun c a w h=>h
    intro z23 z24 z170 z171 z172 z173 z174 z175 z176 z177 z178 z179 z180 z181 z182 z183 z184 z185 z186 z187 z188 z189 wE ho10 hbo10
    have o1:(Zb2 (outN gs (Zaz gs t V V))).size=9:=rfl
    have o2:(Zb2 (outN gs (Zaz gs t V V))).all (·.oneCell')=true:=by simp [Zb2,Value.oneCell']
    have hmkE:Marks (m+1) ds' wE:=hmk9.off ho10 (by
     intro k hk x
     simp at hk
     rcases hk with rfl|rfl
     ·rw [show w9x.heap[n+1]? = _ from b6a];simp
     ·exact hit9.noD x)
    have hBnE:Below n w wE:=hBn9.trans (ho10.below (by have:=hBn9.size;omega) (by simp;omega))
    clear hit9 hm9 hm8
    generalize hOC:Zb2 (outN gs (Zaz gs t V V))=OC at *
    have HOC:=hd_ hOC
    clear hOC
    go_wp2_with (first
     | (refine Za0 142 (.tmp 6) Zap rfl rfl rfl hbo10 o1 ?_)
     | (refine Za1 142 (.tmp 6) (.tmp 190) Zap rfl rfl rfl rfl hbo10 o1 o1 o2 ?_;intro wF hF))
    go_frame
    have hmF:Marks (m+1) ds' wF:=hmkE.off (T:=[n+1]) ((Off.refl _ _ _).rowed hF (.inl sp_)) (by
     intro k hk x
     simp at hk;subst hk
     rw [show wE.heap[n+1]? = _ from hbo10];simp)
    have hBnF:Below n w wF:=hF.below hBnE om_
    refine Zvl hmF fun w' Ds hDs hO=>⟨Za5 (p:=6) rfl _ Zap rfl (hO.blk hF.blk hF.blk.lt (fun e=>by have:=(hDs _ e).1;omega)) o1,by rw [hcN.out _ (List.Perm.refl _),← HOC.out];rfl,?_⟩
    rw [hn]
    exact hBnF.trans (hO.below (by have:=hBnF.size;omega) (fun D hD=>by have:=(hDs D hD).1;omega))
   ·intro x9 x11 x12 x13 x14 x64 x65 x66 x67 x68 x69 x70 x71 x72 x73 x74 x75 x76 x77 x78 x79 x80 x81 x82 x83 x84 x85 x86 x87 x88 x89 x90 x91 x92 x93 x94 x95 x96 x97 x98 x99 x100 x101 x102 w6 ho6 hs6 hbo6 hkf
    have hcN:Za6 V lo hi (sel ks set ws)=fun _=>0:=by funext j;unfold Za6;rw [hkf]
    have hBn6:Below n w w6:=hBn5.trans (ho6.below om_ (by simp;omega))
    go_wp2_with fail
    rw [hcN]
    exact post_ret rfl (Za5 (p:=6) rfl _ Zap rfl hbo6 rfl) ⟨rfl,by rw [hn];exact hBn6⟩
theorem Zc0 (p:Option Addr) (w:World) :
  Calls prog 82 #[.nilIface,.pointer p] w (Same (.tuple #[]) w):=by
 go_enter func82,ntmps82
 go_wp2
 go_end0
 exact ⟨rfl,rfl⟩
def Caught (e:Int) (pb:Nat) (w:World) (w':World):Prop:=Off [pb] w.heap.size w w'∧Blk w' pb #[e] 31
theorem Zbr (e:Int) (pb:Nat) (w:World) (hb:Blk w pb #[()] 31) :
  Calls prog 82 #[Zfy e,.pointer pb] w fun x w'=>x=.returned (.tuple #[])∧Caught e pb w w':=by
 have r0:=hb.cell
 have r1:=hb.free
 have hlt:=hb.lt
 have hta:∀ w,(Instr.typeAssert (Zfy e) 20 228 true).run prog w=.ok (.tuple #[.agg #[e],.bool true]) w:=fun _=>by kernel_rfl
 have heq:∀ w,(Go.binOp .eql 20 (Zfy e) .nilIface).run prog w=.ok (.bool false) w:=fun _=>by kernel_rfl
 unfold Zfy at *
 go_enter func82,ntmps82
 go_wp2
 go_end0
 refine ⟨rfl,((Off.refl _ _ _).setCell (.inl sp_) _).alloc sp_ _,(hb.set 0 _).alloc _⟩
def Zur (K:FuncId):Prop :=
 (∀ (e:Int) (pb:Nat) (w:World),Blk w pb #[()] 31→CallsD prog K #[.pointer pb] (.panicking [{ v:=Zfy e,recovered:=false }]) w
  fun x u' w'=>x=.returned (.tuple #[])∧u'=.panicking [{ v:=Zfy e,recovered:=true }]∧Caught e pb w w') ∧
 (∀ (pb:Nat) (w:World),CallsD prog K #[.pointer pb] .returning w fun x u' w'=>x=.returned (.tuple #[])∧u'=.returning∧w'=w)
theorem Zfa:Zur 81:=by
 refine ⟨fun e pb w hb=>?_,fun pb w=>?_⟩
 ·have HS:=hd_ (Zbr e pb w hb)
  unfold Zfy at *
  refine callsD_of_wpS func81 rfl fun c₀ cs hu=>?_
  apply wpS_region
  simp [wpOpsS,go_sem,recoverD,hu,ntmps81]
  refine HS.out.mono ?_
  rintro x w' ⟨rfl,h2⟩
  simp [bodyPostS,results,results81,go_sem]
  exact h2
 ·have HS:=hd_ (Zc0 (some ⟨pb,0,none⟩) w)
  refine callsD_of_wpS func81 rfl fun c₀ cs hu=>?_
  apply wpS_region
  simp [wpOpsS,go_sem,recoverD,hu,ntmps81]
  refine HS.out.mono ?_
  rintro x w' ⟨rfl,rfl⟩
  cases c₀
  simp_all [bodyPostS,results,results81,go_sem]
theorem Zgq:Zur 87:=by
 refine ⟨fun e pb w hb=>?_,fun pb w=>?_⟩
 ·have HS:=hd_ (Zbr e pb w hb)
  unfold Zfy at *
  refine callsD_of_wpS func87 rfl fun c₀ cs hu=>?_
  apply wpS_region
  simp [wpOpsS,go_sem,recoverD,hu,ntmps87]
  refine HS.out.mono ?_
  rintro x w' ⟨rfl,h2⟩
  simp [bodyPostS,results,results87,go_sem]
  exact h2
 ·have HS:=hd_ (Zc0 (some ⟨pb,0,none⟩) w)
  refine callsD_of_wpS func87 rfl fun c₀ cs hu=>?_
  apply wpS_region
  simp [wpOpsS,go_sem,recoverD,hu,ntmps87]
  refine HS.out.mono ?_
  rintro x w' ⟨rfl,rfl⟩
  cases c₀
  simp_all [bodyPostS,results,results87,go_sem]
theorem Zgr:Zur 95:=by
 refine ⟨fun e pb w hb=>?_,fun pb w=>?_⟩
 ·have HS:=hd_ (Zbr e pb w hb)
  unfold Zfy at *
  refine callsD_of_wpS func95 rfl fun c₀ cs hu=>?_
  apply wpS_region
  simp [wpOpsS,go_sem,recoverD,hu,ntmps95]
  refine HS.out.mono ?_
  rintro x w' ⟨rfl,h2⟩
  simp [bodyPostS,results,results95,go_sem]
  exact h2
 ·have HS:=hd_ (Zc0 (some ⟨pb,0,none⟩) w)
  refine callsD_of_wpS func95 rfl fun c₀ cs hu=>?_
  apply wpS_region
  simp [wpOpsS,go_sem,recoverD,hu,ntmps95]
  refine HS.out.mono ?_
  rintro x w' ⟨rfl,rfl⟩
  cases c₀
  simp_all [bodyPostS,results,results95,go_sem]
theorem Zfe:Zur 97:=by
 refine ⟨fun e pb w hb=>?_,fun pb w=>?_⟩
 ·have HS:=hd_ (Zbr e pb w hb)
  unfold Zfy at *
  refine callsD_of_wpS func97 rfl fun c₀ cs hu=>?_
  apply wpS_region
  simp [wpOpsS,go_sem,recoverD,hu,ntmps97]
  refine HS.out.mono ?_
  rintro x w' ⟨rfl,h2⟩
  simp [bodyPostS,results,results97,go_sem]
  exact h2
 ·have HS:=hd_ (Zc0 (some ⟨pb,0,none⟩) w)
  refine callsD_of_wpS func97 rfl fun c₀ cs hu=>?_
  apply wpS_region
  simp [wpOpsS,go_sem,recoverD,hu,ntmps97]
  refine HS.out.mono ?_
  rintro x w' ⟨rfl,rfl⟩
  cases c₀
  simp_all [bodyPostS,results,results97,go_sem]
theorem Zk6:Zur 369:=by
 refine ⟨fun e pb w hb=>?_,fun pb w=>?_⟩
 ·have HS:=hd_ (Zbr e pb w hb)
  unfold Zfy at *
  refine callsD_of_wpS func369 rfl fun c₀ cs hu=>?_
  apply wpS_region
  simp [wpOpsS,go_sem,recoverD,hu,ntmps369]
  refine HS.out.mono ?_
  rintro x w' ⟨rfl,h2⟩
  simp [bodyPostS,results,results369,go_sem]
  exact h2
 ·have HS:=hd_ (Zc0 (some ⟨pb,0,none⟩) w)
  refine callsD_of_wpS func369 rfl fun c₀ cs hu=>?_
  apply wpS_region
  simp [wpOpsS,go_sem,recoverD,hu,ntmps369]
  refine HS.out.mono ?_
  rintro x w' ⟨rfl,rfl⟩
  cases c₀
  simp_all [bodyPostS,results,results369,go_sem]
theorem Zft:Zur 99:=by
 refine ⟨fun e pb w hb=>?_,fun pb w=>?_⟩
 ·have HS:=hd_ (Zbr e pb w hb)
  unfold Zfy at *
  refine callsD_of_wpS func99 rfl fun c₀ cs hu=>?_
  apply wpS_region
  simp [wpOpsS,go_sem,recoverD,hu,ntmps99]
  refine HS.out.mono ?_
  rintro x w' ⟨rfl,h2⟩
  simp [bodyPostS,results,results99,go_sem]
  exact h2
 ·have HS:=hd_ (Zc0 (some ⟨pb,0,none⟩) w)
  refine callsD_of_wpS func99 rfl fun c₀ cs hu=>?_
  apply wpS_region
  simp [wpOpsS,go_sem,recoverD,hu,ntmps99]
  refine HS.out.mono ?_
  rintro x w' ⟨rfl,rfl⟩
  cases c₀
  simp_all [bodyPostS,results,results99,go_sem]
theorem Zwr (n i:Nat) (h:i < n):hasB (2 ^ n - 1) i=true:=Q2o
theorem Zgw (ks ws:List Kn):sel ks (2 ^ ks.length - 1) ws=ks ++ ws:=by
 unfold sel
 congr 1
 have:∀ k,k≤ks.length→Ze7 ks (2 ^ ks.length - 1) k=ks.take k:=by
  intro k
  induction k with
  | zero=>intro _;simp [Ze7]
  | succ k ih =>
   intro h
   rw [Zd8 ks _ k om_,ih om_,Zwr _ _ om_,if_pos rfl,List.take_succ_eq_append_getElem om_]
 rw [this _ nl_,List.take_length]
structure Vt (w:World) (v:Nat) (b:Bn) (V:Nat) (ks:List Kn) (ga:Option Addr) (gc:Nat) (pa:Option Addr) (pc:Nat) (ka:Option Addr) (kc:Nat):Prop where
 va:VoteAt w v b ga gc pa pc ka ks.length kc
 kn:KnAt w ka ks
 hV:b.V=(V:Int)
 hV1:1≤V
 hV8:V≤8
 hlo:0≤b.lo
 hhi:b.hi≤8
 hkl:ks.length≤8
 hok:∀ x∈ks,knOk x
 hgn:ks.countP isG≤4
theorem Vt.below {w w':World}{v:Nat}{b:Bn}{V:Nat}{ks:List Kn}{ga:Option Addr}{gc:Nat}{pa:Option Addr}{pc:Nat}{ka:Option Addr}{kc:Nat}(h:Vt w v b V ks ga gc pa pc ka kc) (hb:w w'):Vt w' v b V ks ga gc pa pc ka kc :=
 ⟨VoteAt.below h.va hb,h.kn.below hb,h.hV,h.hV1,h.hV8,h.hlo,h.hhi,h.hkl,h.hok,h.hgn⟩
theorem Zx8 (V:Nat) (hV:V≤8) (lo hi:Int) (L:List Kn) (n:Nat):Za6 V lo hi L n≤256:=by
 unfold Za6
 split
 ·omega
 ·rename_i t gs _
  have h1:=Zvx gs (Zaz gs t V V) n
  have h2:=Zev gs t V V
  have h3:=Nat.pow_le_pow_right (show 0 < 2 by omega) hV
  have h4:(2:Nat) ^ 8=256:=rfl
  omega
theorem Zbb (V:Nat) (hV:V≤8) (lo hi:Int) (L:List Kn):csum (Za6 V lo hi L)≤2304:=by
 have h:=Zx8 V hV lo hi L
 have:=h 0;have:=h 1;have:=h 2;have:=h 3;have:=h 4;have:=h 5;have:=h 6;have:=h 7;have:=h 8
 unfold csum;omega
section
variable {w:World}{v:Nat}{b:Bn}{V:Nat}{ks:List Kn}{ga:Option Addr}{gc:Nat}{pa:Option Addr}{pc:Nat}{ka:Option Addr}{kc:Nat}
theorem Vt.counts (h:Vt w v b V ks ga gc pa pc ka kc) (ws:List Kn) (wa:Option Addr) (wcap:Nat) (set:Nat) (hset:set < 2 ^ 62) (hw:KnAt w wa ws) (hwl:ws.length≤2) (hwo:∀ x∈ws,knOk x) (hwc:wa=none→wcap=0) :
  Calls prog 92 #[.pointer v,.int .u64 set,.slice wa ws.length wcap] w (Zak (cv (Za6 V b.lo b.hi (sel ks set ws))) w) :=
 b_counts v b V h.hV h.hV8 h.hlo h.hhi ga gc pa pc ka kc ks ws set wa wcap w h.va h.kn hw h.hkl hwl hset (by intro x hx;rcases List.mem_append.1 hx with hx|hx;exact h.hok x hx;exact hwo x hx) hwc h.hgn
theorem Vt.full (h:Vt w v b V ks ga gc pa pc ka kc):2 ^ ks.length - 1 < 2 ^ 62:=by
 have:=Nat.pow_le_pow_right (show 0 < 2 by omega) h.hkl
 have h2:(2:Nat) ^ 8=256:=rfl
 omega
theorem Vt.every (h:Vt w v b V ks ga gc pa pc ka kc):Calls prog 93 #[.pointer v] w (Same (.int .u64 ((2 ^ ks.length - 1:Nat):Int)) w) :=
 b_every v w ka ks.length kc h.hkl h.va.c6
theorem Vt.all (h:Vt w v b V ks ga gc pa pc ka kc):Calls prog 92 #[.pointer v,.int .u64 ((2 ^ ks.length - 1:Nat):Int),.slice none 0 0] w (Zak (cv (Za6 V b.lo b.hi ks)) w):=by
 have:=h.counts [] none 0 (2 ^ ks.length - 1) h.full (by intro i hi;simp at hi) sp_ sp_ (fun _=>rfl)
 rwa [Zgw,List.append_nil] at this
end
theorem Zf7 (c:Nat→Nat):(Zb2 c).size=9:=rfl
theorem Zf8 (c:Nat→Nat):(Zb2 c).all (·.oneCell')=true:=by simp [Zb2,Value.oneCell']
theorem Zd9 {w:World}{v:Nat}{b:Bn}{V:Nat}{ks:List Kn}{ga:Option Addr}{gc:Nat}{pa:Option Addr}{pc:Nat}{ka:Option Addr}{kc:Nat}(h:Vt w v b V ks ga gc pa pc ka kc) (hs:0 < csum (Za6 V b.lo b.hi ks)) :
  Calls prog 85 #[.pointer v] w (Zak (cv (Za6 V b.lo b.hi ks)) w):=by
 have hle:=Zbb V h.hV8 b.lo b.hi ks
 have HE:=hd_ (fun w' (hb:Below w.heap.size w w')=>(h.below hb).every)
 have HC:=hd_ (fun w' (hb:Below w.heap.size w w')=>(h.below hb).all)
 have HA:=hd_ (Zrr (Za6 V b.lo b.hi ks) om_)
 have HM:=hd_ Zib
 have q1:=Zf7 (Za6 V b.lo b.hi ks)
 have q2:=Zf8 (Za6 V b.lo b.hi ks)
 have hgt:((csum (Za6 V b.lo b.hi ks):Int) > 0):=by omega
 have hcv:Hid (cv (Za6 V b.lo b.hi ks)=.agg (Zb2 (Za6 V b.lo b.hi ks))):=rfl
 generalize csum (Za6 V b.lo b.hi ks)=S at *
 generalize cv (Za6 V b.lo b.hi ks)=CV at *
 generalize Zb2 (Za6 V b.lo b.hi ks)=OC at *
 obtain rfl:=hcv.out
 go_enter func85,ntmps85
 go_wp2_with (first
  | (go_at_call 93;refine (HE.out _ bel_).mono ?_;rintro e w' ⟨rfl,rfl⟩)
  | (go_at_call 92;refine (HC.out _ bel_).mono ?_;rintro e w1 ⟨rfl,hb1⟩)
  | (go_at_call 90;refine (HA.out _).mono ?_;rintro e w3 ⟨rfl,hb3⟩;have b3:=h2.blk.below hb3 h2.blk.lt;have b2:=h2.other (((Blk.new w (Zb2 fun _=>0) 142).below hb1 sp_).alloc _) (by have:=hb1.size;simp at this;omega);have b0:=b2.below hb3 b2.lt)
  | (go_at_call 102;refine (HM.out _ _).mono ?_;rintro e w' ⟨rfl,rfl⟩)
  | (refine Za1 142 (.tmp 3) (.tmp 7) Zap rfl rfl rfl rfl (Blk.new _ _ _) rfl q1 q2 ?_;intro w2 h2)
  | (refine Za1 142 (.tmp 2) (.tmp 12) Zap rfl rfl rfl rfl b0 rfl q1 q2 ?_;intro w5 h5;refine Za2 ?_)
  | (refine Za0 142 (.tmp 3) Zap rfl rfl rfl b3 q1 ?_)
  | (refine Za0 142 (.tmp 3) Zap rfl rfl rfl h2.blk q1 ?_))
 unfold Stop
 go_wp2_with fail
 (try simp only [Exit.inBlock,Exit.then])
 refine bodyPost_ret (v:=.agg OC) (Za5 rfl _ Zap rfl h5.blk q1) rfl ⟨rfl,?_⟩
 have hb4:w w2:=h2.below (((br_.alloc nl_ _).trans (hb1.mono sp_)).alloc (by have:=hb1.size;simp at this;omega) _) (by have:=hb1.size;simp at this;omega)
 exact h5.below (hb4.trans (hb3.mono hb4.size)) nl_
end Go.Proofs.YtbapgefodmmikaaGreatDoor
