/- Parts of a proof. -/
import Derived.Test.YtbapgefodmmikaaGreatDoorLMin
import Derived.Test.YtbapgefodmmikaaGreatDoorL21
set_option linter.unusedVariables false
set_option linter.unusedSimpArgs false
set_option maxHeartbeats 40000000
set_option maxRecDepth 100000
namespace Go.Proofs.YtbapgefodmmikaaGreatDoor
open Go.RowKit Go.Proofs Go.Ord Tryz
attribute [local irreducible] Ord.walk
theorem Zcs {P:Program}{ops:Array Oper}{rest:List Oper}{o:Oper}{a:Act}{w:World}{Q:Exit→Act→World→Prop}(hg:o.guard=none) (l:Operand) (t:TypeId) (hop:o.op=Op.makeSlice t l l) (e:TypeId) (i:TypeInfo) (z:Value) (h1:P.underlying t=some (.slice e)) (h2:P.info? e=some i) (h3:i.zero=some z)
  (k:Nat) (hl:a.eval l=↑k) (b2:i.bytes * k≤281474976710656) (b3:k≤9223372036854775807)
  (hK:∀ A:Array Value,A.size=k * i.size→wpList P ops Q rest (a.put o.dst (.slice w.heap.size k k)) (w.alloc (.cells A e))) :
  wpList P ops Q (o :: rest) a w:=by
 refine wpList_plain hg fun K hK'=>?_
 have hb':(i.bytes:Int) * (k:Int)≤281474976710656:=by
  have h:((i.bytes * k:Nat):Int)≤281474976710656:=by omega
  rwa [Int.natCast_mul] at h
 have hr:=run_make (P:=P) w t e i z h1 h2 h3 .i64 .i64 k k om_ om_ hb' om_
 simp only [Int.toNat_natCast] at hr
 unfold Oper.wp
 simp [execOp,hop,hl,hr,Result.andThen]
 exact hK' _ _ (hK _ (size_madeCells _ _))
theorem Zrk (c:Cl) (ba:Option Addr) (bc:Nat) (i:Int) (w:World) (hr:RowsAt w ba 3 Zbf c.bs) (hlen:c.bs.length≤9223372036854775807) (hk:clOk c=false∨Zac c i=false) :
  Calls prog 41 #[.agg (clV c ba bc),i] w (Zat ↑() (.int .i64 (errC c (Zac c i))) w):=by
 have hmf:=hmf_ prog
 have HO:Hid (∀ W,Below w.heap.size w W→Blk W (w.heap.size+1) #[i] 3→Calls prog 117 #[.agg (clV c ba bc),.func (.func 123) #[] #[.pointer ↑(w.heap.size+1)]] W (Zhh (errC c (Zac c i)) W)):=fun W hb b1 =>
  (Zeo c (Zac c i) ba bc 123 #[.pointer ↑(w.heap.size+1)] W (hr.below hb) hlen (fun args W=>call123 args W) (fun w' T mb hb' hc hO=>Zhc i _ hc hO (b1.below hb' b1.lt))).mono fun e w' h=>Zfp h hk
 generalize errC c (Zac c i)=E at *
 clear hr hlen hk
 have bm0:Blk (w.alloc (.cells (clV c ba bc) 62)) w.heap.size (clV c ba bc) 62:=Blk.new _ _ _
 obtain ⟨W5,hW5⟩:∃ W5,(((w.alloc (.cells (clV c ba bc) 62)).alloc (.cells #[i] 3)).alloc (.cells #[()] 31))=W5:=⟨_,rfl⟩
 have hB5:Below w.heap.size w W5:=by rw [← hW5];exact bel_
 have bm:Blk W5 w.heap.size (clV c ba bc) 62:=by rw [← hW5];exact (bm0.alloc _).alloc _
 have b1:Blk W5 (w.heap.size+1) #[i] 3:=by rw [← hW5];exact (Blk.new' _ _ _ _ sp_).alloc _
 have b4:Blk W5 (w.heap.size+1+1) #[()] 31:=by rw [← hW5];exact Blk.new' _ _ _ _ sp_
 have hs5:W5.heap.size=w.heap.size+3:=by rw [← hW5];simp
 have hs5a:W5.heap.size≤w.heap.size+3∧w.heap.size+3≤W5.heap.size:=by omega
 clear hs5 bm0
 have HO5:=hd_ (HO.out W5 hB5 b1)
 unfold clV at *
 generalize c.bs.length=nl at *
 refine callsIn_wide.1 (callsIn_of_wp_marks (F:=Fence.wide) (n:=0) func41 rfl trivial (wpIn_wide.2 ?_) rfl)
 simp only [ntmps41,List.size_toArray,List.length_cons,List.length_nil,Nat.reduceAdd,Nat.reduceSub,Array.replicate_succ,Array.replicate_zero,List.push_toArray,List.append_toArray,List.nil_append,List.cons_append]
 go_wp2_with (first
  | (refine Za0 62 (.tmp 2) Zah rfl rfl rfl bm rfl ?_)
  | (go_at_call 117;refine Za2 ?_))
 unfold Stop
 clear hW5
 refine HO5.out.mono ?_
 rintro e w6 ⟨rfl,hb6⟩
 have hB6:w w6:=hB5.trans (hb6.mono om_)
 refine Zal (pb:=w.heap.size+1+1) (v:=.tuple #[(),E]) Zcm (fun W=>by simp [go_sem]) rfl (b4.below hb6 b4.lt) fun w' hl hb=>⟨?_,rfl,Za3 hB6 hl (by have:=hb6.size;omega) (fun _ _ _=>om_)⟩
 have r4:=hb.cell
 simp [results,results41,go_sem,r4]
theorem Zpv (c:Cl) (ba:Option Addr) (bc:Nat) (i:Int) (w:World) (hr:RowsAt w ba 3 Zbf c.bs) (hlen:c.bs.length≤9223372036854775807) (hk:clOk c=true) (hi:Zac c i=true) (hcan:canC c (Zag c.bs)=false) :
  Calls prog 41 #[.agg (clV c ba bc),i] w (Zat ↑() (.int .i64 10) w):=by
 have hmf:=hmf_ prog
 have HO:Hid (∀ W,Below w.heap.size w W→Blk W (w.heap.size+1) #[i] 3→Calls prog 117 #[.agg (clV c ba bc),.func (.func 123) #[] #[.pointer ↑(w.heap.size+1)]] W (fun e w'=>∃ T mb,e=.returned (.pointer (some ⟨T,0,none⟩))∧Below W.heap.size W w'∧Zb4 w' T c ba bc mb∧W.heap.size≤T∧W.heap.size≤mb)):=fun W hb b1 =>
  (Zeo c (Zac c i) ba bc 123 #[.pointer ↑(w.heap.size+1)] W (hr.below hb) hlen (fun args W=>call123 args W) (fun w' T mb hb' hc hO=>Zhc i _ hc hO (b1.below hb' b1.lt))).mono fun e w' h=>Zdr h hk hi
 have HEv:Hid (∀ {W0:World}{T mb:Nat},Zb4 W0 T c ba bc mb→∀ W,Ln W0 mb c W→Calls prog 126 #[.pointer (some ⟨T,0,none⟩)] W (Same (.int .u64 (Zag c.bs:Nat)) W)):=fun hO W hW=>Zgs hO (Zar hk) W hW
 have HCn:Hid (∀ {W0:World}{T mb:Nat},Zb4 W0 T c ba bc mb→∀ W,Ln W0 mb c W→Calls prog 125 #[.pointer (some ⟨T,0,none⟩),.int .u64 (Zag c.bs:Nat)] W (Zcw W0 mb c (.bool (canC c (Zag c.bs))) W)):=fun hO W hW=>Zuc hO (Zar hk) _ (Zec (Zar hk)) W hW
 rw [hcan] at HCn
 generalize Zag c.bs=ev at *
 have HN:=hd_ Zfv
 clear hr hlen hk hi hcan
 have bm0:Blk (w.alloc (.cells (clV c ba bc) 62)) w.heap.size (clV c ba bc) 62:=Blk.new _ _ _
 obtain ⟨W5,hW5⟩:∃ W5,(((w.alloc (.cells (clV c ba bc) 62)).alloc (.cells #[i] 3)).alloc (.cells #[()] 31))=W5:=⟨_,rfl⟩
 have hB5:Below w.heap.size w W5:=by rw [← hW5];exact bel_
 have bm:Blk W5 w.heap.size (clV c ba bc) 62:=by rw [← hW5];exact (bm0.alloc _).alloc _
 have b1:Blk W5 (w.heap.size+1) #[i] 3:=by rw [← hW5];exact (Blk.new' _ _ _ _ sp_).alloc _
 have b4:Blk W5 (w.heap.size+1+1) #[()] 31:=by rw [← hW5];exact Blk.new' _ _ _ _ sp_
 have hs5:W5.heap.size=w.heap.size+3:=by rw [← hW5];simp
 have hs5a:W5.heap.size≤w.heap.size+3∧w.heap.size+3≤W5.heap.size:=by omega
 clear hs5 bm0
 have HO5:=hd_ (HO.out W5 hB5 b1)
 unfold clV at *
 generalize c.bs.length=nl at *
 refine callsIn_wide.1 (callsIn_of_wp_marks (F:=Fence.wide) (n:=0) func41 rfl trivial (wpIn_wide.2 ?_) rfl)
 simp only [ntmps41,List.size_toArray,List.length_cons,List.length_nil,Nat.reduceAdd,Nat.reduceSub,Array.replicate_succ,Array.replicate_zero,List.push_toArray,List.append_toArray,List.nil_append,List.cons_append]
 go_wp2_with (first
  | (refine Za0 62 (.tmp 2) Zah rfl rfl rfl bm rfl ?_)
  | (go_at_call 117;refine Za2 ?_))
 unfold Stop
 clear hW5
 refine HO5.out.mono ?_
 rintro e w6 ⟨T,mb,rfl,hb6,hOp,hT,hmb⟩
 have hB6:w w6:=hB5.trans (hb6.mono om_)
 go_wp2_with (first
  | (go_at_call 126;refine (HEv.out hOp _ (Ln.start hOp)).mono ?_;rintro e w7 ⟨rfl,rfl⟩)
  | (go_at_call 125;refine (HCn.out hOp _ (Ln.start hOp)).mono ?_;rintro e w7 ⟨rfl,hW7,hl7⟩)
  | (go_at_call 124;refine (HN.out _ _).mono ?_;rintro e w8 ⟨rfl,rfl⟩;refine Za2 ?_))
 unfold Stop
 refine Zal (pb:=w.heap.size+1+1) (v:=.tuple #[(),.int .i64 10]) Zcm (fun W=>by simp [go_sem]) rfl (hl7.blk (b4.below hb6 b4.lt) om_) fun w' hl hb=>⟨?_,rfl,Za3 (Za3 hB6 hl7 (by have:=hb6.size;omega) (fun _ _ _=>om_)) hl (by have:=hb6.size;have:=hl7.size;omega) (fun _ _ _=>om_)⟩
 have r4:=hb.cell
 simp [results,results41,go_sem,r4]
theorem _root_.Q19 {p:Prop}(h:p:=by
 refine ⟨by rw [← hw8];exact Blk.new' _ _ _ _ sp_,bm7.below hb78 bm7.lt,b17.below hb78 b17.lt,(HR.out.below (hB7.trans (hb78.mono hB7.size))),⟨A,by rw [← hw8];exact (Blk.new _ _ _).alloc _,by rw [hA,hz1]⟩,om_,by have:=bm7.lt;omega,by have:=b17.lt;omega,fun gb go e=>by have:=HRL.out gb go e;omega⟩):p:=h
theorem _root_.Q21 {p:Prop}(h:p:=by
 obtain ⟨gb',go',h0,h1⟩:=hr i hib
 rw [e] at h0
 simp only [Option.some.injEq,Addr.mk.injEq] at h0
 obtain ⟨rfl,rfl,-⟩:=h0
 exact bl_ w _ (h1 0 _ rfl)):p:=h
theorem Zrl (c:Cl) (ba:Option Addr) (bc:Nat) (i:Nat) (w:World) (hr:RowsAt w ba 3 Zbf c.bs) (hlen:c.bs.length≤9223372036854775807) (hk:clOk c=true) (hi:Zac c (i:Int)=true) (hib:i < c.bs.length) (hcan:canC c (Zag c.bs)=true)
  (m:Nat) (hm:(m:Int)=(c.bs.getD i (0,0,0)).1 - (c.bs.getD i (0,0,0)).2.1+1) (n:Nat) (hn:n < m) (hlo:∀ j,j < n→Zc5 c i j=false) (hhi:Zc5 c i n=true) :
  Calls prog 41 #[.agg (clV c ba bc),i] w (Zat (.int .i64 (n:Int)) ↑() w):=by
 have hmf:=hmf_ prog
 have HO:Hid (∀ W,Below w.heap.size w W→Blk W (w.heap.size+1) #[i] 3→Calls prog 117 #[.agg (clV c ba bc),.func (.func 123) #[] #[.pointer ↑(w.heap.size+1)]] W (fun e w'=>∃ T mb,e=.returned (.pointer (some ⟨T,0,none⟩))∧Below W.heap.size W w'∧Zb4 w' T c ba bc mb∧W.heap.size≤T∧W.heap.size≤mb)):=fun W hb b1 =>
  (Zeo c (Zac c (i:Int)) ba bc 123 #[.pointer ↑(w.heap.size+1)] W (hr.below hb) hlen (fun args W=>call123 args W) (fun w' T mb hb' hc hO=>Zhc (i:Int) _ hc hO (b1.below hb' b1.lt))).mono fun e w' h=>Zdr h hk hi
 have HEv:Hid (∀ {W0:World}{T mb:Nat},Zb4 W0 T c ba bc mb→∀ W,Ln W0 mb c W→Calls prog 126 #[.pointer (some ⟨T,0,none⟩)] W (Same (.int .u64 (Zag c.bs:Nat)) W)):=fun hO W hW=>Zgs hO (Zar hk) W hW
 have HCn:Hid (∀ {W0:World}{T mb:Nat},Zb4 W0 T c ba bc mb→∀ W,Ln W0 mb c W→Calls prog 125 #[.pointer (some ⟨T,0,none⟩),.int .u64 (Zag c.bs:Nat)] W (Zcw W0 mb c (.bool (canC c (Zag c.bs))) W)):=fun hO W hW=>Zuc hO (Zar hk) _ (Zec (Zar hk)) W hW
 rw [hcan] at HCn
 have HY:=hd_ Ze2
 have hLl:=Zar hk
 have hbin:=Zcy hLl hib
 have hm31:m≤31:=by unfold Ze4 at hbin;omega
 have HM2:Hid (∀ {p1 p2 p3 og:Nat}(n:Nat),n < m→∀ W,Zbx W c i ba bc p1 p2 p3 og→Calls prog 127 #[.int .i64 (n:Int),.pointer p1,.pointer p2,.pointer p3] W (fun e w'=>e=.returned (.bool (Zc5 c i n))∧Zbx w' c i ba bc p1 p2 p3 og∧Lets (fun k _=>k=og) W w')):=fun n hn W hW=>Zxj hLl hib n om_ W hW
 have HNu:=hd_ (fun W=>Zpr m om_ W)
 obtain ⟨i0,hi0,hz0,hz1,hz2⟩:=Zbp Zh8
 have hli6:(c.bs.length:Int)≤6:=by have:=hLl.len;omega
 have hl6:c.bs.length≤6:=hLl.len.2
 have hLc:=hLl.len.1
 generalize Zag c.bs=ev at *
 have HR:=hd_ hr
 have hrl:∀ gb go,ba=some ⟨gb,go,none⟩→gb < w.heap.size:=fun gb go e=>by exact Q21
 have HRL:=hd_ hrl
 clear hr hlen hk hi hcan hLl hrl
 have bm0:Blk (w.alloc (.cells (clV c ba bc) 62)) w.heap.size (clV c ba bc) 62:=Blk.new _ _ _
 obtain ⟨W5,hW5⟩:∃ W5,(((w.alloc (.cells (clV c ba bc) 62)).alloc (.cells #[i] 3)).alloc (.cells #[()] 31))=W5:=⟨_,rfl⟩
 have hB5:Below w.heap.size w W5:=by rw [← hW5];exact bel_
 have bm:Blk W5 w.heap.size (clV c ba bc) 62:=by rw [← hW5];exact (bm0.alloc _).alloc _
 have b1:Blk W5 (w.heap.size+1) #[i] 3:=by rw [← hW5];exact (Blk.new' _ _ _ _ sp_).alloc _
 have b4:Blk W5 (w.heap.size+1+1) #[()] 31:=by rw [← hW5];exact Blk.new' _ _ _ _ sp_
 have hs5:W5.heap.size=w.heap.size+3:=by rw [← hW5];simp
 have hs5a:W5.heap.size≤w.heap.size+3∧w.heap.size+3≤W5.heap.size:=by omega
 clear hs5 bm0
 have HO5:=hd_ (HO.out W5 hB5 b1)
 refine callsIn_wide.1 (callsIn_of_wp_marks (F:=Fence.wide) (n:=0) func41 rfl trivial (wpIn_wide.2 ?_) rfl)
 simp only [ntmps41,List.size_toArray,List.length_cons,List.length_nil,Nat.reduceAdd,Nat.reduceSub,Array.replicate_succ,Array.replicate_zero,List.push_toArray,List.append_toArray,List.nil_append,List.cons_append]
 go_wp2_with (first
  | (refine Za0 62 (.tmp 2) Zah rfl rfl rfl bm rfl ?_)
  | (go_at_call 117;refine Za2 ?_))
 unfold Stop
 clear hW5
 refine HO5.out.mono ?_
 rintro e w6 ⟨T,mb,rfl,hb6,hOp,hT,hmb⟩
 have hB6:w w6:=hB5.trans (hb6.mono om_)
 have bm6:=bm.below hb6 bm.lt
 have b16:=b1.below hb6 b1.lt
 have b46:=b4.below hb6 b4.lt
 have hs56:=hb6.size
 clear HO5 HO hb6 bm b1 b4
 go_wp2_with (first
  | (go_at_call 126;refine (HEv.out hOp _ (Ln.start hOp)).mono ?_;rintro e w7 ⟨rfl,rfl⟩)
  | (go_at_call 125;refine (HCn.out hOp _ (Ln.start hOp)).mono ?_;rintro e w7 ⟨rfl,hW7,hl7⟩)
  | (go_at_call 124;refine (HY.out _ _).mono ?_;rintro e w8 ⟨rfl,rfl⟩;refine Za2 ?_))
 unfold Stop
 have bm7:=hl7.blk bm6 om_
 have b17:=hl7.blk b16 om_
 have b47:=hl7.blk b46 om_
 have hB7:w w7:=Za3 hB6 hl7 om_ (fun _ _ _=>om_)
 have hs67:=hl7.size
 have rm7:=bm7.cell
 unfold clV at rm7
 clear hl7 hW7 bm6 b16 b46 hB6
 go_wp2_with (first
  | (refine Zcs rfl (.tmp 19) 60 rfl 139 i0 _ underlying60 hi0 hz0 c.bs.length rfl (by rw [hz2];omega) om_ ?_;intro A hA;refine Za2 ?_))
 unfold Stop
 obtain ⟨w8,hw8⟩:∃ w8,(w7.alloc (.cells A 139)).alloc (.cells #[.slice w7.heap.size c.bs.length c.bs.length] 60)=w8:=⟨_,rfl⟩
 have hb78:Below w7.heap.size w7 w8:=by rw [← hw8];exact bel_
 have hM8:Zbx w8 c i ba bc (w7.heap.size+1) w.heap.size (w.heap.size+1) w7.heap.size:=Q19
 have b48:=b47.below hb78 b47.lt
 have hB8:Below w.heap.size w w8:=hB7.trans (hb78.mono hB7.size)
 have hs8:w8.heap.size=w7.heap.size+2:=by rw [← hw8];simp
 have hs8a:w7.heap.size+2≤w8.heap.size∧w8.heap.size≤w7.heap.size+2:=by omega
 obtain ⟨gb,go,hgo,hq⟩:=hM8.rows i hib
 have q0:=hq 0 _ rfl
 have q1:=hq 1 _ rfl
 rw [Nat.add_zero] at q0
 have hBi:c.bs[i]=c.bs.getD i (0,0,0):=by rw [List.getD_eq_getElem?_getD,List.getElem?_eq_getElem hib];rfl
 rw [hBi] at q0 q1
 obtain ⟨F1,hF1⟩:∃ F1,(c.bs.getD i (0,0,0)).1=F1:=⟨_,rfl⟩
 obtain ⟨L1,hL1⟩:∃ L1,(c.bs.getD i (0,0,0)).2.1=L1:=⟨_,rfl⟩
 unfold Ze4 at hbin
 rw [hF1,hL1] at hm
 rw [hF1,hL1] at hbin
 rw [hF1] at q0
 rw [hL1] at q1
 have hii:(i:Int) < (c.bs.length:Int):=by omega
 have rm8:=hM8.b2.cell
 have r38:=hM8.b3.cell
 unfold clV at rm8
 subst hgo
 have HB:=hd_ hbin
 have hF30:F1≤30∧0≤L1∧L1≤F1:=by omega
 have HM:=hd_ hm
 clear hq hBi hF1 hL1 hbin hm hs8 rm7 b17 bm7 b47 hB7
 rw [show w7.heap.size+1=w7.heap.size+1 from rfl] at *
 go_wp2_with fail
 skip
 clear hw8
 refine Zyu [(0,0),(1,0),(2,0),(3,0),(4,0),(5,0),(6,0),(7,0),(8,0),(9,0),(10,0),(11,0),(12,0),(13,0),(15,1),(16,1),(14,2),(17,2),(18,0),(19,2)] (fun _=>True) kr_ kr_ trivial ?_
 go_wp2_with (first
  | (with_reducible refine Zyp ?_)
  | (go_at_call 131;rw [← HM.out];refine (HNu.out _).mono ?_;rintro e w9 ⟨rfl,hb9,hU9⟩;refine Za2 ?_)
  | ((with_reducible refine Zye ?_);refine Zyt rfl (.agg #[.func (.func 127) #[] #[.pointer ↑(w7.heap.size+1),.pointer w.heap.size,.pointer ↑(w.heap.size+1)]]) ?_ ?_;(focus (intro W _;simp [go_sem,Zyr,Zys];done));intro K hK)
  | (refine o_ ?_;intro K hK)|(with_reducible first|refine Zyo ?_ ?_|refine Zyj ?_|refine Zyf bn_ (fun _=>?_)))
 unfold Stop
 have hM9:∀ W,Below w9.heap.size w9 W→Zbx W c i (some ⟨gb,go,none⟩) bc (w7.heap.size+1) w.heap.size (w.heap.size+1) w7.heap.size:=fun W hW=>((hM8.below (br_.drew.trans hb9)).below hW)
 have hHP:Hid (∀ W x,x∈List.range m→Zbx W c i (some ⟨gb,go,none⟩) bc (w7.heap.size+1) w.heap.size (w.heap.size+1) w7.heap.size→Calls prog 127 (#[.int .i64 (x:Nat)] ++ #[.pointer ↑(w7.heap.size+1),.pointer w.heap.size,.pointer ↑(w.heap.size+1)]) W (fun e w''=>e=.returned (.bool (Zc5 c i x))∧Zbx w'' c i (some ⟨gb,go,none⟩) bc (w7.heap.size+1) w.heap.size (w.heap.size+1) w7.heap.size∧Lets (fun k _=>k=w7.heap.size) W w'')):=fun W x hx hW=>HM2.out x (List.mem_range.1 hx) W hW
 have hcf:∀ (args:Array Value) (W:World),(callFunc 127 args).run prog W=.ok (.enter 127 args) W:=fun args W=>call127 args W
 have hb89:Below w8.heap.size w8 w9:=br_.drew.trans hb9
 have hs89:=hb89.size
 have hgl9:w8.heap.size < w9.heap.size:=by
  have:=hU9 0 (by have:=HM.out;simp;omega)
  exact bl_ w9 _ this
 have hFi:=hd_ (Zpt 127 #[.pointer ↑(w7.heap.size+1),.pointer w.heap.size,.pointer ↑(w.heap.size+1)] (Zc5 c i) _ (fun k _=>k=w7.heap.size) (List.range m) w8.heap.size m n w9 (by simp;omega) (by simpa using hn) (fun j h=>by simpa using hlo j h) (by simpa using hhi) hcf hU9 (fun _ e=>om_) hgl9 hM9 hHP.out)
 simp only [List.length_range] at hFi
 have b49:=b48.below hb89 b48.lt
 have hB9:w w9:=hB8.trans (hb89.mono hB8.size)
 have hvn:((List.range m)[n]'(by simpa using hn):Nat)=n:=by simp
 simp only [hvn] at hFi
 clear hM9 hHP hcf hU9 hb89 hM8 b48 hB8 hs8a q0 q1 rm8 r38
 go_wp2_with (first
  | (with_reducible refine Zyp ?_)
  | (go_at_call 130;refine hFi.out.mono ?_;rintro e w10 ⟨rfl,hM10,hl10⟩;refine Za2 ?_)
  | (refine o_ ?_;intro K hK)|(with_reducible first|refine Zyo ?_ ?_|refine Zyj ?_|refine Zyf bn_ (fun _=>?_)))
 unfold Stop
 have hs910:=hl10.size
 have b410:=hl10.blk b49 om_
 have r410:=b410.cell
 have f410:=b410.free
 have l410:=b410.lt
 have hB10:w w10:=Za3 hB9 hl10 (by have:=hB9.size;omega) (fun _ _ e=>om_)
 clear hl10 hM10 b49 hB9 hFi
 go_wp2_with (first
  | (with_reducible refine Zyp ?_)
  | (refine o_ ?_;intro K hK)|(with_reducible first|refine Zyo ?_ ?_|refine Zyj ?_|refine Zyf bn_ (fun _=>?_)))
 obtain ⟨Wf,hWf⟩:∃ Wf,w10.setCell ⟨w.heap.size+1+1,0,none⟩ ↑()=Wf:=⟨_,rfl⟩
 have r4f:=(by rw [← hWf];exact b410.set 0 _:Blk Wf (w.heap.size+1+1) #[()] 31).cell
 have hbf:Below w.heap.size w Wf:=by rw [← hWf];exact hB10.setCell (by simp only;omega) _
 change bodyPostM Fence.wide 0 prog _ _ .ret _ (w10.setCell ⟨w.heap.size+1+1,0,none⟩ ↑())
 rw [hWf]
 refine Zcd (pb:=w.heap.size+1+1) (v:=.tuple #[.int .i64 n,()]) Zcm (fun W=>by simp [go_sem]) rfl ?_ ⟨rfl,hbf⟩
 simp [results,results41,go_sem,r4f]
theorem Zrm (c:Cl) (ba:Option Addr) (bc:Nat) (i:Nat) (w:World) (hr:RowsAt w ba 3 Zbf c.bs) (hlen:c.bs.length≤9223372036854775807) (hk:clOk c=true) (hi:Zac c (i:Int)=true) (hib:i < c.bs.length) (hcan:canC c (Zag c.bs)=true)
  (m:Nat) (hm:(m:Int)=(c.bs.getD i (0,0,0)).1 - (c.bs.getD i (0,0,0)).2.1+1) (hlo:∀ j,j < m→Zc5 c i j=false) :
  Calls prog 41 #[.agg (clV c ba bc),i] w (Zat ↑() (.int .i64 4) w):=by
 have hmf:=hmf_ prog
 have HO:Hid (∀ W,Below w.heap.size w W→Blk W (w.heap.size+1) #[i] 3→Calls prog 117 #[.agg (clV c ba bc),.func (.func 123) #[] #[.pointer ↑(w.heap.size+1)]] W (fun e w'=>∃ T mb,e=.returned (.pointer (some ⟨T,0,none⟩))∧Below W.heap.size W w'∧Zb4 w' T c ba bc mb∧W.heap.size≤T∧W.heap.size≤mb)):=fun W hb b1 =>
  (Zeo c (Zac c (i:Int)) ba bc 123 #[.pointer ↑(w.heap.size+1)] W (hr.below hb) hlen (fun args W=>call123 args W) (fun w' T mb hb' hc hO=>Zhc (i:Int) _ hc hO (b1.below hb' b1.lt))).mono fun e w' h=>Zdr h hk hi
 have HEv:Hid (∀ {W0:World}{T mb:Nat},Zb4 W0 T c ba bc mb→∀ W,Ln W0 mb c W→Calls prog 126 #[.pointer (some ⟨T,0,none⟩)] W (Same (.int .u64 (Zag c.bs:Nat)) W)):=fun hO W hW=>Zgs hO (Zar hk) W hW
 have HCn:Hid (∀ {W0:World}{T mb:Nat},Zb4 W0 T c ba bc mb→∀ W,Ln W0 mb c W→Calls prog 125 #[.pointer (some ⟨T,0,none⟩),.int .u64 (Zag c.bs:Nat)] W (Zcw W0 mb c (.bool (canC c (Zag c.bs))) W)):=fun hO W hW=>Zuc hO (Zar hk) _ (Zec (Zar hk)) W hW
 rw [hcan] at HCn
 have HY:=hd_ Ze2
 have hLl:=Zar hk
 have hbin:=Zcy hLl hib
 have hm31:m≤31:=by unfold Ze4 at hbin;omega
 have HM2:Hid (∀ {p1 p2 p3 og:Nat}(n:Nat),n < m→∀ W,Zbx W c i ba bc p1 p2 p3 og→Calls prog 127 #[.int .i64 (n:Int),.pointer p1,.pointer p2,.pointer p3] W (fun e w'=>e=.returned (.bool (Zc5 c i n))∧Zbx w' c i ba bc p1 p2 p3 og∧Lets (fun k _=>k=og) W w')):=fun n hn W hW=>Zxj hLl hib n om_ W hW
 have HNu:=hd_ (fun W=>Zpr m om_ W)
 obtain ⟨i0,hi0,hz0,hz1,hz2⟩:=Zbp Zh8
 have hli6:(c.bs.length:Int)≤6:=by have:=hLl.len;omega
 have hl6:c.bs.length≤6:=hLl.len.2
 have hLc:=hLl.len.1
 generalize Zag c.bs=ev at *
 have HR:=hd_ hr
 have hrl:∀ gb go,ba=some ⟨gb,go,none⟩→gb < w.heap.size:=fun gb go e=>by exact Q21
 have HRL:=hd_ hrl
 clear hr hlen hk hi hcan hLl hrl
 have bm0:Blk (w.alloc (.cells (clV c ba bc) 62)) w.heap.size (clV c ba bc) 62:=Blk.new _ _ _
 obtain ⟨W5,hW5⟩:∃ W5,(((w.alloc (.cells (clV c ba bc) 62)).alloc (.cells #[i] 3)).alloc (.cells #[()] 31))=W5:=⟨_,rfl⟩
 have hB5:Below w.heap.size w W5:=by rw [← hW5];exact bel_
 have bm:Blk W5 w.heap.size (clV c ba bc) 62:=by rw [← hW5];exact (bm0.alloc _).alloc _
 have b1:Blk W5 (w.heap.size+1) #[i] 3:=by rw [← hW5];exact (Blk.new' _ _ _ _ sp_).alloc _
 have b4:Blk W5 (w.heap.size+1+1) #[()] 31:=by rw [← hW5];exact Blk.new' _ _ _ _ sp_
 have hs5:W5.heap.size=w.heap.size+3:=by rw [← hW5];simp
 have hs5a:W5.heap.size≤w.heap.size+3∧w.heap.size+3≤W5.heap.size:=by omega
 clear hs5 bm0
 have HO5:=hd_ (HO.out W5 hB5 b1)
 refine callsIn_wide.1 (callsIn_of_wp_marks (F:=Fence.wide) (n:=0) func41 rfl trivial (wpIn_wide.2 ?_) rfl)
 simp only [ntmps41,List.size_toArray,List.length_cons,List.length_nil,Nat.reduceAdd,Nat.reduceSub,Array.replicate_succ,Array.replicate_zero,List.push_toArray,List.append_toArray,List.nil_append,List.cons_append]
 go_wp2_with (first
  | (refine Za0 62 (.tmp 2) Zah rfl rfl rfl bm rfl ?_)
  | (go_at_call 117;refine Za2 ?_))
 unfold Stop
 clear hW5
 refine HO5.out.mono ?_
 rintro e w6 ⟨T,mb,rfl,hb6,hOp,hT,hmb⟩
 have hB6:w w6:=hB5.trans (hb6.mono om_)
 have bm6:=bm.below hb6 bm.lt
 have b16:=b1.below hb6 b1.lt
 have b46:=b4.below hb6 b4.lt
 have hs56:=hb6.size
 clear HO5 HO hb6 bm b1 b4
 go_wp2_with (first
  | (go_at_call 126;refine (HEv.out hOp _ (Ln.start hOp)).mono ?_;rintro e w7 ⟨rfl,rfl⟩)
  | (go_at_call 125;refine (HCn.out hOp _ (Ln.start hOp)).mono ?_;rintro e w7 ⟨rfl,hW7,hl7⟩)
  | (go_at_call 124;refine (HY.out _ _).mono ?_;rintro e w8 ⟨rfl,rfl⟩;refine Za2 ?_))
 unfold Stop
 have bm7:=hl7.blk bm6 om_
 have b17:=hl7.blk b16 om_
 have b47:=hl7.blk b46 om_
 have hB7:w w7:=Za3 hB6 hl7 om_ (fun _ _ _=>om_)
 have hs67:=hl7.size
 have rm7:=bm7.cell
 unfold clV at rm7
 clear hl7 hW7 bm6 b16 b46 hB6
 go_wp2_with (first
  | (refine Zcs rfl (.tmp 19) 60 rfl 139 i0 _ underlying60 hi0 hz0 c.bs.length rfl (by rw [hz2];omega) om_ ?_;intro A hA;refine Za2 ?_))
 unfold Stop
 obtain ⟨w8,hw8⟩:∃ w8,(w7.alloc (.cells A 139)).alloc (.cells #[.slice w7.heap.size c.bs.length c.bs.length] 60)=w8:=⟨_,rfl⟩
 have hb78:Below w7.heap.size w7 w8:=by rw [← hw8];exact bel_
 have hM8:Zbx w8 c i ba bc (w7.heap.size+1) w.heap.size (w.heap.size+1) w7.heap.size:=Q19
 have b48:=b47.below hb78 b47.lt
 have hB8:Below w.heap.size w w8:=hB7.trans (hb78.mono hB7.size)
 have hs8:w8.heap.size=w7.heap.size+2:=by rw [← hw8];simp
 have hs8a:w7.heap.size+2≤w8.heap.size∧w8.heap.size≤w7.heap.size+2:=by omega
 obtain ⟨gb,go,hgo,hq⟩:=hM8.rows i hib
 have q0:=hq 0 _ rfl
 have q1:=hq 1 _ rfl
 rw [Nat.add_zero] at q0
 have hBi:c.bs[i]=c.bs.getD i (0,0,0):=by rw [List.getD_eq_getElem?_getD,List.getElem?_eq_getElem hib];rfl
 rw [hBi] at q0 q1
 obtain ⟨F1,hF1⟩:∃ F1,(c.bs.getD i (0,0,0)).1=F1:=⟨_,rfl⟩
 obtain ⟨L1,hL1⟩:∃ L1,(c.bs.getD i (0,0,0)).2.1=L1:=⟨_,rfl⟩
 unfold Ze4 at hbin
 rw [hF1,hL1] at hm
 rw [hF1,hL1] at hbin
 rw [hF1] at q0
 rw [hL1] at q1
 have hii:(i:Int) < (c.bs.length:Int):=by omega
 have rm8:=hM8.b2.cell
 have r38:=hM8.b3.cell
 unfold clV at rm8
 subst hgo
 have HB:=hd_ hbin
 have hF30:F1≤30∧0≤L1∧L1≤F1:=by omega
 have HM:=hd_ hm
 clear hq hBi hF1 hL1 hbin hm hs8 rm7 b17 bm7 b47 hB7
 rw [show w7.heap.size+1=w7.heap.size+1 from rfl] at *
 go_wp2_with fail
 skip
 clear hw8
 have b18:Blk w8 (w.heap.size+1) #[i] 3:=hM8.b3
 refine wp_mono (Q:=PanE refC [{ target:=.fn (.func 116) #[],args:=#[.pointer ↑(w.heap.size+1+1)] }] 4 5 ↑() (.pointer ↑(w.heap.size+1+1)) 4 (fun W=>Below w.heap.size w W∧Blk W (w.heap.size+1+1) #[()] 31)) ?_ ?_
 ·refine Ord.wp_regionE 64 [(0,0),(1,0),(2,0),(3,0),(4,0),(5,0),(6,0),(7,0),(8,0),(9,0),(10,0),(11,0),(12,0),(13,0),(15,1),(16,1),(14,2),(17,2),(18,0),(19,2)] (· == 18) (fun _=>True) kr_ kr_ kr_ ?_ trivial ?_
  ·rintro c ⟨tm,ds⟩ k o v u ho hk h
   have hd:o.dst≠some 4∧o.dst≠some 5:=by
    have hlt:k < 20:=by
     have:=(Array.getElem?_eq_some_iff.1 ho).1
     simpa using this
    have hk18:k≠18:=by simpa using hk
    clear h
    (rcases k with _|_|_|_|_|_|_|_|_|_|_|_|_|_|_|_|_|_|_|_|k) <;> first|omega|(simp at ho;subst ho;exact ⟨sp_,sp_⟩)
   unfold PanE at *
   rcases hdd:o.dst with _|d
   ·rw [hdd] at h;simpa [Act.put] using h
   ·rw [hdd] at h hd
    have d4:d≠4:=fun e=>hd.1 (by rw [e])
    have d5:d≠5:=fun e=>hd.2 (by rw [e])
    simpa [Act.put,Array.getD_eq_getD_getElem?,Array.getElem?_setIfInBounds,d4,d5] using h
  go_wp2_with (first
   | (go_at_call 131;rw [← HM.out];refine (HNu.out _).mono ?_;rintro e w9 ⟨rfl,hb9,hU9⟩;refine Za2 ?_)
   | ((with_reducible refine Zye ?_);refine Zyt rfl (.agg #[.func (.func 127) #[] #[.pointer ↑(w7.heap.size+1),.pointer w.heap.size,.pointer ↑(w.heap.size+1)]]) ?_ ?_;(focus (intro W _;simp [go_sem,Zyr,Zys];done));intro K hK)
   | (refine o_ ?_;intro K hK)|(with_reducible first|refine Zyo ?_ ?_|refine Zyj ?_|refine Zyf bn_ (fun _=>?_)))
  unfold Stop
  have hM9:∀ W,Below w9.heap.size w9 W→Zbx W c i (some ⟨gb,go,none⟩) bc (w7.heap.size+1) w.heap.size (w.heap.size+1) w7.heap.size:=fun W hW=>((hM8.below (br_.drew.trans hb9)).below hW)
  have hHP:Hid (∀ W x,x∈List.range m→Zbx W c i (some ⟨gb,go,none⟩) bc (w7.heap.size+1) w.heap.size (w.heap.size+1) w7.heap.size→Calls prog 127 (#[.int .i64 (x:Nat)] ++ #[.pointer ↑(w7.heap.size+1),.pointer w.heap.size,.pointer ↑(w.heap.size+1)]) W (fun e w''=>e=.returned (.bool (Zc5 c i x))∧Zbx w'' c i (some ⟨gb,go,none⟩) bc (w7.heap.size+1) w.heap.size (w.heap.size+1) w7.heap.size∧Lets (fun k _=>k=w7.heap.size) W w'')):=fun W x hx hW=>HM2.out x (List.mem_range.1 hx) W hW
  have hcf:∀ (args:Array Value) (W:World),(callFunc 127 args).run prog W=.ok (.enter 127 args) W:=fun args W=>call127 args W
  have hb89:Below w8.heap.size w8 w9:=br_.drew.trans hb9
  have hs89:=hb89.size
  have hgl9:w8.heap.size < w9.heap.size:=by
   have:=hU9 0 (by have:=HM.out;simp;omega)
   exact bl_ w9 _ this
  have hFi:=hd_ (Zrj 127 #[.pointer ↑(w7.heap.size+1),.pointer w.heap.size,.pointer ↑(w.heap.size+1)] (Zc5 c i) _ (fun k _=>k=w7.heap.size) (List.range m) w8.heap.size m w9 (by simp;omega) (fun j h=>by simpa using hlo j (by simpa using h)) hcf hU9 (fun _ e=>om_) hgl9 hM9 hHP.out)
  simp only [List.length_range] at hFi
  have b49:=b48.below hb89 b48.lt
  have hB9:w w9:=hB8.trans (hb89.mono hB8.size)
  clear hM9 hHP hcf hU9 hb89 hM8 b48 hB8 hs8a q0 q1 rm8 r38
  go_wp2_with (first
   | (go_at_call 130;refine hFi.out.mono ?_;rintro e w10 ⟨rfl,hM10,hl10⟩;exact ⟨rfl,rfl,rfl,rfl,Za3 hB9 hl10 (by have:=hB9.size;omega) (fun _ _ e=>om_),hl10.blk b49 om_⟩)
   | (refine o_ ?_;intro K hK)|(with_reducible first|refine Zyo ?_ ?_|refine Zyj ?_|refine Zyf bn_ (fun _=>?_)))
 rintro e ⟨tm,ds⟩ wz ⟨rfl,rfl,h4,h5,hb8,he8⟩
 refine Zal (v:=.tuple #[(),.int .i64 4]) Zcm (fun W=>by simp [go_sem]) rfl he8 fun w' hl hb=>⟨?_,rfl,Za3 hb8 hl om_ (fun _ _ _=>om_)⟩
 simp only [Array.getD_eq_getD_getElem?] at h4 h5
 have r4:=hb.cell
 simp [results,results41,go_sem,h4,h5,r4]
def lenM (c:Cl) (i:Nat):Nat:=((c.bs.getD i (0,0,0)).1 - (c.bs.getD i (0,0,0)).2.1+1).toNat
def Zwv (c:Cl) (i:Nat):Int × Int:=match (List.range (lenM c i)).find? (Zc5 c i) with
  | some n=>((n:Int),0)
  | none=>(0,4)
theorem moreR_eq (c:Cl) (i:Int):Zgn c i=if errC c (Zac c i)=0 then Zwv c i.toNat else (0,errC c (Zac c i)):=by
 unfold Zgn Zwv lenM errC Zac
 by_cases h1:clOk c=false
 ·simp [h1]
 by_cases h2:i < 0∨(c.bs.length:Int)≤i
 ·have h2':¬ (0≤i∧i≤(c.bs.length:Int) - 1):=by omega
  simp [h1,h2,h2']
 ·have h2':(0≤i∧i≤(c.bs.length:Int) - 1):=by omega
  by_cases h3:canC c (Zag c.bs)=false
  ·simp [h1,h2,h2',h3]
  ·simp [h1,h2,h2',h3];rfl
theorem c_More (c:Cl) (ba:Option Addr) (bc:Nat) (i:Int) (w:World) (hr:RowsAt w ba 3 Zbf c.bs) (hlen:c.bs.length≤9223372036854775807) :
  Calls prog 41 #[.agg (clV c ba bc),i] w (Zat (.int .i64 (Zgn c i).1) (.int .i64 (Zgn c i).2) w):=by
 rw [moreR_eq]
 rcases Zi1 c (Zac c i) with ⟨h1,h2,-⟩ | ⟨hv,hi,hk,h2⟩ | ⟨hv,hi,hk,h2⟩
 ·rw [if_neg h2];exact Zrk c ba bc i w hr hlen h1
 ·rw [h2,if_neg sp_];exact Zpv c ba bc i w hr hlen hv hi hk
 ·rw [if_pos h2]
  obtain ⟨n,rfl,hn⟩:=Zhw hi
  simp only [Int.toNat_natCast]
  have hbin:=Zcy (Zar hv) hn
  have hm:((lenM c n:Nat):Int)=(c.bs.getD n (0,0,0)).1 - (c.bs.getD n (0,0,0)).2.1+1:=by
   unfold Ze4 at hbin;unfold lenM;omega
  unfold Zwv
  rcases hf:(List.range (lenM c n)).find? (Zc5 c n) with _|k
  ·have h0:=List.find?_eq_none.1 hf
   exact Zrm c ba bc n w hr hlen hv hi hn hk _ hm fun j hj=>by simpa using h0 j (List.mem_range.2 hj)
  ·have hk1:Zc5 c n k=true:=List.find?_some hf
   have hk2:k < lenM c n:=List.mem_range.1 (List.mem_of_find?_eq_some hf)
   refine Zrl c ba bc n w hr hlen hv hi hn hk _ hm k hk2 (fun j hj=>?_) hk1
   obtain ⟨-,l1,l2,h3,h4⟩:=List.find?_eq_some_iff_append.1 hf
   have hjm:j∈l1:=by
    have e1:(List.range (lenM c n))[l1.length]? = some k:=by rw [h3];simp
    have e2:l1.length < lenM c n:=by
     have:=congrArg List.length h3;simp only [List.length_range,List.length_append,List.length_cons] at this;omega
    have e3:l1.length=k:=by simpa [e2] using e1
    have e4:(List.range (lenM c n))[j]? = some j:=by rw [List.getElem?_range om_]
    rw [h3,List.getElem?_append_left om_] at e4
    exact List.mem_of_getElem? e4
   simpa using h4 j hjm
def Zdz (e:Int):Value:=.iface 256 (.agg #[e])
def Zkk (e:Int) (w:World) (x:Ending) (w':World):Prop:=x=.panicked [{ v:=Zdz e,recovered:=false }]∧w w'
def StopsTS (e:Int) (w:World) (x:Ending) (w':World):Prop:=x=.panicked [{ v:=Zdz e,recovered:=false }]∧w=w'
theorem Zix (n lo hi:Int) (w:World) :
  Calls prog 196 #[n,lo,hi] w (Same (.bool (decide (lo≤n∧n≤hi))) w):=by
 go_enter func196,ntmps196
 go_wp2
 all_goals go_ret
 all_goals (refine ⟨Zd3 ?_,rfl⟩;simp;try omega)
theorem Zhl (e:Int) (w:World) :
  Calls prog 195 #[.bool true,e] w (Same (.tuple #[]) w):=by
 go_enter func195,ntmps195
 go_wp2
 go_end0
 exact ⟨rfl,rfl⟩
theorem Zgt (e:Int) (w:World) :
  Calls prog 195 #[.bool false,e] w (StopsTS e w):=by
 go_enter func195,ntmps195
 go_wp2
 exact ⟨rfl,rfl,rfl⟩
theorem Zs9 (v:Value) (w:World) :
  Calls prog 113 #[v] w (Same (.bool true) w):=by
 go_enter func113,ntmps113
 go_wp2
 go_ret
 exact ⟨rfl,rfl⟩
def Zjh (s:Int × Int) (lo hi:Int):Bool:=decide (lo≤s.1∧s.1≤s.2∧s.2≤hi)
theorem Zs8 (a b lo hi:Int) (w:World) :
  Calls prog 197 #[.agg #[a,b],lo,hi] w (Zak (.bool (Zjh (a,b) lo hi)) w):=by
 go_enter func197,ntmps197
 go_wp2
 all_goals go_ret
 all_goals (refine ⟨Zd3 ?_,by exact bel_⟩;first|(simp [Zjh];omega)|(simp [Zjh, *];done)|(simp_all [Zjh];done))
theorem Zd2 (p:Option Addr) (w:World) :
  Calls prog 105 #[.nilIface,.pointer p] w (Same (.tuple #[]) w):=by
 go_enter func105,ntmps105
 go_wp2
 go_end0
 exact ⟨rfl,rfl⟩
theorem _root_.Q2f {p:Prop}(h:p:=by
 go_wp2
 go_end0
 refine ⟨rfl,?_,(hb.set 0 _).alloc _⟩
 exact ((Lets.refl _ _).setCell rfl _).trans (Lets.of_below ((br_.alloc nl_ _)))):p:=h
theorem Zcr (e:Int) (pb:Nat) (w:World) (hb:Blk w pb #[()] 31) :
  Calls prog 105 #[Zdz e,.pointer pb] w fun x w'=>x=.returned (.tuple #[])∧Zo6 e pb w w':=by
 have r0:=hb.cell
 have r1:=hb.free
 have hlt:=hb.lt
 have hta:∀ w,(Instr.typeAssert (Zdz e) 20 256 true).run prog w=.ok (.tuple #[.agg #[e],.bool true]) w:=fun _=>by kernel_rfl
 have heq:∀ w,(Go.binOp .eql 20 (Zdz e) .nilIface).run prog w=.ok (.bool false) w:=fun _=>by kernel_rfl
 unfold Zdz at *
 go_enter func105,ntmps105
 exact Q2f
theorem Zfb:Zip Zdz 104:=by
 refine ⟨fun e pb w hb=>?_,fun pb w=>?_⟩
 ·have HS:=hd_ (Zcr e pb w hb)
  unfold Zdz at *
  refine Zb0 func104 rfl fun c₀ cs hu=>?_
  apply wpS_region
  simp [wpOpsS,go_sem,recoverD,hu,ntmps104]
  refine HS.out.mono ?_
  rintro x w' ⟨rfl,h2⟩
  simp [bodyPostS,results,results104,go_sem]
  exact h2
 ·have HS:=hd_ (Zd2 (some ⟨pb,0,none⟩) w)
  refine Zb0 func104 rfl fun c₀ cs hu=>?_
  apply wpS_region
  simp [wpOpsS,go_sem,recoverD,hu,ntmps104]
  refine HS.out.mono ?_
  rintro x w' ⟨rfl,rfl⟩
  cases c₀
  simp_all [bodyPostS,results,results104,go_sem]
theorem Zi7:Zip Zdz 110:=by
 refine ⟨fun e pb w hb=>?_,fun pb w=>?_⟩
 ·have HS:=hd_ (Zcr e pb w hb)
  unfold Zdz at *
  refine Zb0 func110 rfl fun c₀ cs hu=>?_
  apply wpS_region
  simp [wpOpsS,go_sem,recoverD,hu,ntmps110]
  refine HS.out.mono ?_
  rintro x w' ⟨rfl,h2⟩
  simp [bodyPostS,results,results110,go_sem]
  exact h2
 ·have HS:=hd_ (Zd2 (some ⟨pb,0,none⟩) w)
  refine Zb0 func110 rfl fun c₀ cs hu=>?_
  apply wpS_region
  simp [wpOpsS,go_sem,recoverD,hu,ntmps110]
  refine HS.out.mono ?_
  rintro x w' ⟨rfl,rfl⟩
  cases c₀
  simp_all [bodyPostS,results,results110,go_sem]
theorem Zfc:Zip Zdz 112:=by
 refine ⟨fun e pb w hb=>?_,fun pb w=>?_⟩
 ·have HS:=hd_ (Zcr e pb w hb)
  unfold Zdz at *
  refine Zb0 func112 rfl fun c₀ cs hu=>?_
  apply wpS_region
  simp [wpOpsS,go_sem,recoverD,hu,ntmps112]
  refine HS.out.mono ?_
  rintro x w' ⟨rfl,h2⟩
  simp [bodyPostS,results,results112,go_sem]
  exact h2
 ·have HS:=hd_ (Zd2 (some ⟨pb,0,none⟩) w)
  refine Zb0 func112 rfl fun c₀ cs hu=>?_
  apply wpS_region
  simp [wpOpsS,go_sem,recoverD,hu,ntmps112]
  refine HS.out.mono ?_
  rintro x w' ⟨rfl,rfl⟩
  cases c₀
  simp_all [bodyPostS,results,results112,go_sem]
theorem Zfd:Zip Zdz 365:=by
 refine ⟨fun e pb w hb=>?_,fun pb w=>?_⟩
 ·have HS:=hd_ (Zcr e pb w hb)
  unfold Zdz at *
  refine Zb0 func365 rfl fun c₀ cs hu=>?_
  apply wpS_region
  simp [wpOpsS,go_sem,recoverD,hu,ntmps365]
  refine HS.out.mono ?_
  rintro x w' ⟨rfl,h2⟩
  simp [bodyPostS,results,results365,go_sem]
  exact h2
 ·have HS:=hd_ (Zd2 (some ⟨pb,0,none⟩) w)
  refine Zb0 func365 rfl fun c₀ cs hu=>?_
  apply wpS_region
  simp [wpOpsS,go_sem,recoverD,hu,ntmps365]
  refine HS.out.mono ?_
  rintro x w' ⟨rfl,rfl⟩
  cases c₀
  simp_all [bodyPostS,results,results365,go_sem]
end Go.Proofs.YtbapgefodmmikaaGreatDoor
