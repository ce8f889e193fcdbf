/- Parts of a proof. -/
import Derived.Test.YtbapgefodmmikaaGreatDoorLMin
import Derived.Laws.CopyRow
import Derived.Test.YtbapgefodmmikaaGreatDoorL20
set_option linter.unusedVariables false
set_option linter.unusedSimpArgs false
set_option maxHeartbeats 40000000
set_option maxRecDepth 100000
namespace Go.Proofs.YtbapgefodmmikaaGreatDoor
open Go.RowKit Go.Proofs Go.Ord Tryz
attribute [local irreducible] Ord.walk
section
variable {P:Program}
theorem Zex (w:World) (dT sT ty elem:TypeId) (i:TypeInfo) (g dLen dCap sLen:Nat) (sv:Value) (cur:Array Value) (t:TypeId) (cs:List Value)
  (hu:P.underlying dT=some (.slice elem)) (hi:P.info? elem=some i)
  (hg:w.heap[g]? = some (.cells cur t (0,0))) (hs:Zy9 w sv sLen i.size cs) (hd:sLen=dLen) (hfit:cs.length=cur.size) (h1:∀ v∈cs,v.oneCell'=true) :
  (Builtin.copy_ #[dT,sT] ty #[.slice g dLen dCap,sv]).run P w=.ok (goInt sLen) (w.setRow g cs.toArray):=by
 subst hd
 obtain ⟨hl,⟨c,rfl,rfl⟩ | ⟨ad,c,rfl,hc⟩⟩:=hs
 ·have hcs:cs=[]:=List.eq_nil_of_length_eq_zero (by simpa using hl)
  subst hcs
  have hcur:cur=#[]:=by simpa using hfit.symm
  subst hcur
  simp [Builtin.copy_,run_underlying hu,Builtin.lenOf,Builtin.firstCells,sizeOf,typeInfo,hi,storeCells]
  exact (setRow_self w g #[] t (0,0) hg).symm
 ·have hld:=run_loadCells_list (P:=P) w ad cs hc
  have hst:=run_storeCells_at P g 0 t cs 0 cur w hg om_ h1
  simp only [Nat.add_zero,List.take_zero,List.nil_append,Nat.zero_add] at hst
  rw [List.drop_eq_nil_of_le (by simp;omega),List.append_nil] at hst
  have hmin:Nat.min sLen sLen=sLen:=Nat.min_self _
  simp [Builtin.copy_,run_underlying hu,Builtin.lenOf,Builtin.firstCells,sizeOf,typeInfo,hi,hmin,← hl,hld,hst]
end
end Go.Proofs.YtbapgefodmmikaaGreatDoor
namespace Go.Proofs.YtbapgefodmmikaaGreatDoor
open Go.RowKit Go.Proofs Go.Ord Tryz
attribute [local irreducible] Ord.walk
attribute [local go_sem] Oper.semAt_some
structure Zbx (w:World) (c:Cl) (i:Nat) (ba:Option Addr) (bc p1 p2 p3 og:Nat):Prop where
 b1:Blk w p1 #[.slice og c.bs.length c.bs.length] 60
 b2:Blk w p2 (clV c ba bc) 62
 b3:Blk w p3 #[i] 3
 rows:RowsAt w ba 3 Zbf c.bs
 own:∃ A,Blk w og A 139∧A.size=c.bs.length * 3
 ne1:og≠p1
 ne2:og≠p2
 ne3:og≠p3
 nea:∀ gb go,ba=some ⟨gb,go,none⟩→gb≠og
namespace Zbx
variable {w w':World}{c:Cl}{i:Nat}{ba:Option Addr}{bc p1 p2 p3 og:Nat}
theorem lets (h:Zbx w c i ba bc p1 p2 p3 og) (hl:Lets (fun k _=>k=og) w w') (ho:∃ A,Blk w' og A 139∧A.size=c.bs.length * 3):Zbx w' c i ba bc p1 p2 p3 og where
 b1:=hl.blk h.b1 (Ne.symm h.ne1)
 b2:=hl.blk h.b2 (Ne.symm h.ne2)
 b3:=hl.blk h.b3 (Ne.symm h.ne3)
 rows:=fun j hj=>by
  obtain ⟨gb,go,h0,h1⟩:=h.rows j hj
  exact ⟨gb,go,h0,fun k u hu=>hl.cell (h1 k u hu) (h.nea gb go h0)⟩
 own:=ho
 ne1:=h.ne1
 ne2:=h.ne2
 ne3:=h.ne3
 nea:=h.nea
theorem below (h:Zbx w c i ba bc p1 p2 p3 og) (hb:w w'):Zbx w' c i ba bc p1 p2 p3 og :=
 h.lets (Lets.of_below hb) (by obtain ⟨A,h1,h2⟩:=h.own;exact ⟨A,h1.below hb h1.lt,h2⟩)
end Zbx
theorem Zdk (b:Int × Int × Int):(Zbf b).length=3:=rfl
theorem Zhv (c:Cl) (i n:Nat):(Zel c i n).length=c.bs.length:=by simp [Zel]
theorem Zw8 {c:Cl}(h:Zc3 c) {i n:Nat}(hi:i < c.bs.length) (hn:((c.bs.getD i (0,0,0)).2.1+(n:Int))≤(c.bs.getD i (0,0,0)).1):Zc3 { c with bs:=Zel c i n } where
 len:=by show 1≤(Zel c i n).length∧(Zel c i n).length≤6;rw [Zhv];exact h.len
 may:=h.may
 drift:=h.drift
 mist:=h.mist
 bales:=by
  intro b hb
  change b∈c.bs.set i _ at hb
  rcases List.mem_or_eq_of_mem_set hb with hb|rfl
  ·exact h.bales b hb
  ·have:=Zcy h hi
   unfold Ze4 at *
   simp only
   omega
def Zxy (l:List Nat) (m:Int) (k:Nat):Prop:=(l.take k).all (fun k=>decide ((k:Int)≤m))=true
theorem Zh8:(prog.info? 139).map (fun i=>(i.zero,i.size,i.bytes))=some (some (.agg #[(),(),()]),3,24):=by kernel_rfl
theorem more_set (c:Cl) (i n:Nat) (hi:i < c.bs.length):Zbf ((c.bs.getD i (0,0,0)).1,(c.bs.getD i (0,0,0)).2.1+(n:Int),(c.bs.getD i (0,0,0)).2.2)=(Zbf c.bs[i]).set 1 (.int .i64 ((c.bs.getD i (0,0,0)).2.1+(n:Int))):=by
 have:c.bs.getD i (0,0,0)=c.bs[i]:=by rw [List.getD_eq_getElem?_getD,List.getElem?_eq_getElem hi];rfl
 rw [this];rfl
theorem Zxj {c:Cl}{i:Nat}{ba:Option Addr}{bc p1 p2 p3 og:Nat}(hL:Zc3 c) (hi:i < c.bs.length) (n:Nat) (hn:((c.bs.getD i (0,0,0)).2.1+(n:Int))≤(c.bs.getD i (0,0,0)).1) (w:World) (hM:Zbx w c i ba bc p1 p2 p3 og) :
  Calls prog 127 #[n,.pointer p1,.pointer p2,.pointer p3] w (fun e w'=>e=.returned (.bool (Zc5 c i n))∧Zbx w' c i ba bc p1 p2 p3 og∧Lets (fun k _=>k=og) w w'):=by
 have hL2:=Zw8 hL hi hn
 obtain ⟨c2,hc2⟩:∃ c2,({ c with bs:=Zel c i n }:Cl)=c2:=⟨_,rfl⟩
 have hc2b:c2.bs=Zel c i n:=by rw [← hc2]
 have hc2l:c2.bs.length=c.bs.length:=by rw [hc2b,Zhv]
 obtain ⟨R,hRR⟩:∃ R,Zc5 c i n=R:=⟨_,rfl⟩
 rw [hRR]
 have HRR:=hd_ hRR
 clear hRR
 have HC2:=hd_ hc2
 have HC2b:=hd_ hc2b
 have HC2l:=hd_ hc2l
 clear hc2 hc2b hc2l
 have hlen:=hL.len
 obtain ⟨i0,hi0,hz0,hz1,hz2⟩:=Zbp Zh8
 refine callsIn_wide.1 (callsIn_of_wp_marks (F:=Fence.wide) (n:=0) func127 rfl trivial (wpIn_wide.2 ?_) rfl)
 simp only [ntmps127,List.size_toArray,List.length_cons,List.length_nil,Nat.reduceAdd,Nat.reduceSub,Array.replicate_succ,Array.replicate_zero,List.push_toArray,List.append_toArray,List.nil_append,List.cons_append]
 go_upto_region 1 with fail
 obtain ⟨w1,hw1⟩:∃ w1,w.alloc (.cells #[.bool false] 4)=w1:=⟨_,rfl⟩
 rw [hw1]
 have hb1:Below w.heap.size w w1:=by rw [← hw1];exact bel_
 have b5:Blk w1 w.heap.size #[.bool false] 4:=by rw [← hw1];exact Blk.new _ _ _
 have hs1:w1.heap.size=w.heap.size+1:=by rw [← hw1];simp
 clear hw1
 have hM1:=hM.below hb1
 have r1:=hM1.b1.cell
 have r2:=hM1.b2.cell
 unfold clV at r2
 obtain ⟨A,bA,hA⟩:=hM1.own
 go_wp2_with fail
 rw [Zex w1 60 60 _ 139 i0 og c.bs.length c.bs.length c.bs.length (.slice ba c.bs.length bc) A 139 (c.bs.flatMap Zbf) underlying60 hi0 bA (by rw [hz1];exact hM1.rows.src Zdk om_ bc) rfl (by rw [Zau Zdk,hA]) (by intro v hv;obtain ⟨b,_,hb⟩:=List.mem_flatMap.1 hv;simp [Zbf] at hb;rcases hb with rfl|rfl|rfl <;> rfl)]
 obtain ⟨w2,hw2⟩:∃ w2,w1.setRow og (c.bs.flatMap Zbf).toArray=w2:=⟨_,rfl⟩
 rw [hw2]
 have hl2:Lets (fun k _=>k=og) w1 w2:=by rw [← hw2];exact ⟨rfl,rfl,rfl,sp_,fun k _ hk=>Go.setRow_other w1 og k _ hk⟩
 have hR2:RB w2 og 139 3 Zbf c.bs:=by
  rw [← hw2]
  exact ⟨_,bA.setRow _,List.take_of_length_le (by simp [Zau Zdk])⟩
 have hM2:Zbx w2 c i ba bc p1 p2 p3 og:=hM1.lets hl2 (by rw [← hw2];exact ⟨_,bA.setRow _,by simp [Zau Zdk]⟩)
 have b52:Blk w2 w.heap.size #[.bool false] 4:=hl2.blk b5 (by have:=hM.own;obtain ⟨A',h1,_⟩:=this;have:=h1.lt;omega)
 clear hw2 hM1 bA r1 r2 b5
 have r1:=hM2.b1.cell
 have r3:=hM2.b3.cell
 have fo:=hR2.free
 have lo:=hR2.lt
 obtain ⟨gb,go,hgo,hq⟩:=(hR2.rows Zdk) i hi
 simp only [Option.some.injEq,Addr.mk.injEq] at hgo
 obtain ⟨rfl,rfl,-⟩:=hgo
 have q1:=hq 1 _ rfl
 rw [Nat.zero_add] at q1
 have hBi:c.bs.getD i (0,0,0)=c.bs[i]:=by rw [List.getD_eq_getElem?_getD,List.getElem?_eq_getElem hi];rfl
 obtain ⟨L,hLL⟩:∃ L,(c.bs.getD i (0,0,0)).2.1=L:=⟨_,rfl⟩
 have hbin:=Zcy hL hi
 rw [← hBi,hLL] at q1
 have hLn:0≤L∧L+(n:Int)≤30:=by unfold Ze4 at hbin;omega
 have hset:=hR2.set Zdk hi (show 1 < 3 by omega) (more_set c i n hi) rfl
 rw [hLL] at hset
 rw [show c.bs.set i ((c.bs.getD i (0,0,0)).1,L+(n:Int),(c.bs.getD i (0,0,0)).2.2)=c2.bs by rw [HC2b.out,← hLL];rfl] at hset
 have hii:(i:Int) < (c.bs.length:Int):=by omega
 have hli6:(c.bs.length:Int)≤6:=by omega
 have HSet:=hd_ hset
 clear hset hBi hLL hq hbin
 go_upto_region 3 with fail
 obtain ⟨w3,hw3⟩:∃ w3,w2.setCell ⟨og,i * 3+1,none⟩ (.int .i64 (L+(n:Int)))=w3:=⟨_,rfl⟩
 rw [hw3]
 have hl3:Lets (fun k _=>k=og) w2 w3:=by rw [← hw3];exact (Lets.refl _ _).setCell rfl _
 have hR3:RB w3 og 139 3 Zbf c2.bs:=by rw [← hw3];exact HSet.out
 have hM3:Zbx w3 c i ba bc p1 p2 p3 og:=hM2.lets hl3 (by
  obtain ⟨A',h1,h2⟩:=hM2.own
  rw [← hw3]
  exact ⟨_,h1.set _ _,by simp [h2]⟩)
 have hne5:w.heap.size≠og:=by obtain ⟨A',h1,_⟩:=hM.own;have:=h1.lt;omega
 have b53:=hl3.blk b52 hne5
 have hl03:Lets (fun k _=>k=og) w w3:=((Lets.of_below hb1).trans hl2).trans hl3
 have hs3:w.heap.size < w3.heap.size:=b53.lt
 clear hw3 hM2 r1 r3 q1 fo lo hR2 b52 HSet hl2 hl3 hb1 hs1
 have b23:=hM3.b2
 go_wp2_with (first
  | (refine Za0 62 (.tmp 2) Zah rfl rfl rfl b23 rfl ?_)
  | (refine Za1 62 (.tmp 6) (.tmp 22) Zah rfl rfl rfl rfl (Blk.new _ _ _) rfl rfl (by simp [clV,Value.oneCell']) ?_;intro w4 h4;refine Za2 ?_))
 unfold Stop
 have b64:=h4.blk
 have hb34:Below w3.heap.size w3 w4:=h4.below (br_.alloc nl_ _) nl_
 have hM4:=hM3.below hb34
 obtain ⟨cur,bR3,hR3b⟩:=hR3
 have hR4:RB w4 og 139 3 Zbf c2.bs:=⟨cur,bR3.below hb34 bR3.lt,hR3b⟩
 have b54:=b53.below hb34 b53.lt
 have hl04:=hl03.trans (Lets.of_below hb34)
 have hlt34:w3.heap.size < w4.heap.size:=b64.lt
 generalize hp6:w3.heap.size=p6 at *
 clear h4 hb34 hM3 b23 bR3 hR3b b53 hl03 hp6
 have r1:=hM4.b1.cell
 have r6:=b64.cell
 unfold clV at r6
 have f6:=b64.free
 go_upto_region 5 with fail
 obtain ⟨w5,hw5⟩:∃ w5,w4.setCell ⟨p6,0,none⟩ (.slice og c.bs.length c.bs.length)=w5:=⟨_,rfl⟩
 rw [hw5]
 have hogp:og < p6:=by obtain ⟨A',h1,_⟩:=hM.own;have:=h1.lt;omega
 have hl5:Lets (fun k _=>k=p6) w4 w5:=by rw [← hw5];exact (Lets.refl _ _).setCell rfl _
 have b65:Blk w5 p6 (clV c2 og c.bs.length) 62:=by
  rw [← hw5]
  have:=b64.set 0 (.slice og c.bs.length c.bs.length)
  rw [← HC2.out]
  unfold clV at this ⊢
  simp only [Zhv]
  exact this
 have hM5:Zbx w5 c i ba bc p1 p2 p3 og:=by
  have hlp:p1 < p6∧p2 < p6∧p3 < p6:=⟨by have:=hM.b1.lt;omega,by have:=hM.b2.lt;omega,by have:=hM.b3.lt;omega⟩
  refine ⟨hl5.blk hM4.b1 om_,hl5.blk hM4.b2 om_,hl5.blk hM4.b3 om_,fun j hj=>?_,?_,hM.ne1,hM.ne2,hM.ne3,hM.nea⟩
  ·obtain ⟨gb,go,h0,h1⟩:=hM4.rows j hj
   obtain ⟨gb',go',h0',h1'⟩:=hM.rows j hj
   rw [h0] at h0'
   simp only [Option.some.injEq,Addr.mk.injEq] at h0'
   obtain ⟨rfl,rfl,-⟩:=h0'
   have hlt:=bl_ w _ (h1' 0 _ rfl)
   simp only at hlt
   exact ⟨gb,go,h0,fun k u hu=>hl5.cell (h1 k u hu) (by simp only;omega)⟩
  ·obtain ⟨A',h1,h2⟩:=hM4.own
   exact ⟨A',hl5.blk h1 om_,h2⟩
 obtain ⟨cur,bR4,hR4b⟩:=hR4
 have hR5:RB w5 og 139 3 Zbf c2.bs:=⟨cur,hl5.blk bR4 om_,hR4b⟩
 have b55:=hl5.blk b54 om_
 have hl05:Lets (fun k _=>k=og) w w5:=hl04.next hl5 (fun k hk _=>om_)
 have hp65:p6 < w5.heap.size:=b65.lt
 clear hw5 hM4 bR4 hR4b b54 b64 hl04 hl5 r1 r6 f6
 have hmm:=@run_makeMap prog
 have hum:=underlying176
 have b65u:=b65
 unfold clV at b65u
 go_wp2_with (first
  | (refine Za0 62 (.tmp 6) Zah rfl rfl rfl b65u rfl ?_))
 obtain ⟨w7,hw7⟩:∃ w7,(w5.alloc (.map #[] 0)).alloc (.cells (tabV c2 og c.bs.length w5.heap.size) 178)=w7:=⟨_,rfl⟩
 unfold tabV at hw7
 rw [hw7]
 have hb57:Below w5.heap.size w5 w7:=by rw [← hw7];exact bel_
 have hO7:Zb4 w7 (w5.heap.size+1) c2 og c.bs.length w5.heap.size:=by
  refine ⟨⟨by rw [← hw7];exact Blk.new' _ _ _ _ sp_,(hR5.rows Zdk).below hb57⟩,⟨[],by rw [← hw7];exact (MapG.MapAt.new w5).alloc _,MapG.MapOk.nil,sp_⟩⟩
 have hM7:=hM5.below hb57
 have b57:=b55.below hb57 b55.lt
 have hl07:=hl05.trans (Lets.of_below hb57)
 have hs7:w5.heap.size+2=w7.heap.size:=by rw [← hw7];simp
 clear hw7 hmm hum hb57 hM5 hR5 b55 hl05 b65 b65u
 generalize hp8:w5.heap.size=p8 at *
 clear hp8
 have hc2m:c2.may=c.may∧c2.mist=c.mist∧dC c2=dC c:=by rw [← HC2.out];exact ⟨rfl,rfl,rfl⟩
 have hev:Zag c2.bs=Zag c.bs:=by unfold Zag;rw [HC2l.out]
 have hL2':Zc3 c2:=by rw [← HC2.out];exact hL2
 have hi2:i < c2.bs.length:=by rw [HC2l.out];exact hi
 have HE:=hd_ (fun W (hW:Ln w7 p8 c2 W)=>Zgs hO7 hL2' W hW)
 have HT:=hd_ (fun W (hW:Ln w7 p8 c2 W)=>Zpq hO7 hL2' i hi2 _ (Zec hL2') W hW)
 have HU:=hd_ c_upTo
 obtain ⟨G,hG⟩:∃ G,Zbg (dC c2) c2.bs i (Zag c2.bs)=G:=⟨_,rfl⟩
 have hRG:R=(upL G c.mist).all (fun k=>decide ((k:Int)≤c.may)):=by
  rw [← HRR.out,← hG,hc2m.2.2,hev,HC2b.out]
  unfold Zc5 upL
  rw [Bool.eq_iff_iff]
  simp only [List.all_eq_true,List.mem_filter,List.mem_range,decide_eq_true_eq,and_imp]
  constructor
  ·intro h k hk hle
   rcases h k hk with h|h
   ·exact absurd hle (by show ¬ Zbg (dC c) (Zel c i n) i (Zag c.bs) k≤c.mist;change c.mist < Zbg (dC c) (Zel c i n) i (Zag c.bs) k at h;omega)
   ·exact h
  ·intro h k hk
   by_cases hle:Zbg (dC c) (Zel c i n) i (Zag c.bs) k≤c.mist
   ·exact .inr (h k hk hle)
   ·left;change c.mist < Zbg (dC c) (Zel c i n) i (Zag c.bs) k;omega
 have HRG:=hd_ hRG
 rw [hG] at HT
 generalize Zag c2.bs=ev at *
 have hLn7:Ln w7 p8 c2 w7:=Ln.start hO7
 have hLn7d:=hLn7.drew
 have bT7:=hO7.tab.blk
 have hl77:=(Lets.refl (fun k _=>k=p8) w7).drew
 have r3:=hM7.b3.cell
 have hmis:=hc2m.2.1
 clear hL2 HC2 HC2b HC2l hG hRG hc2m hev hL2' hi2 hLn
 go_wp2_with fail
 refine Zyu [(0,0),(1,0),(2,0),(3,0),(5,1),(6,1),(7,1),(8,1),(9,1),(4,2),(10,2)] (fun W=>Lets (fun k _=>k=p8) w7 W) kr_ kr_ hl77 ?_
 go_wp2_with (first
  | (with_reducible refine Zyp ?_)
  | ((with_reducible refine Zye ?_);refine Zyq (ad:=⟨p8+1,3,none⟩) (.int .i64 c2.mist) rfl rfl ?_ ?_;(focus (intro W hW;have r:=(hW.blk bT7 om_).cell 3;simp [go_sem,r,tabV];done));intro K hK)
  | (go_at_call 128;refine (HT.out _ hLn7d).mono ?_;rintro e w8 ⟨rfl,hLn8,hl8⟩;have hl78:=hl77.trans hl8)
  | (go_at_call 129;refine (HU.out _ _ _).mono ?_;rintro e w9 ⟨rfl,rfl⟩;refine Za2 ?_)
  | (refine o_ ?_;intro K hK)|(with_reducible first|refine Zyo ?_ ?_|refine Zyj ?_|refine Zyf bn_ (fun _=>?_))
  | ((with_reducible refine Zyg ?_);refine Zyv rfl (fun W=>call126 _ W) (HE.out _ hLn7d) (fun K hK=>?_)))
 unfold Stop
 obtain ⟨wA,hwA⟩:∃ wA,(w8.alloc (.cells (cs G) 182)).alloc (.cells #[c.mist] 3)=wA:=⟨_,rfl⟩
 rw [hwA]
 have hb8A:Below w8.heap.size w8 wA:=by rw [← hwA];exact bel_
 have bt0:Blk wA w8.heap.size (cs G) 182:=by rw [← hwA];exact (Blk.new _ _ _).alloc _
 have bt1:Blk wA (w8.heap.size+1) #[c.mist] 3:=by rw [← hwA];exact Blk.new' _ _ _ _ sp_
 have hl7A:=hl78.trans (Lets.of_below hb8A)
 have b5A:=hl7A.blk b57 om_
 have hownA:∃ A,Blk wA og A 139∧A.size=c.bs.length * 3:=by
  obtain ⟨A',h1,h2⟩:=hM7.own
  exact ⟨A',hl7A.blk h1 om_,h2⟩
 have hl0A:Lets (fun k _=>k=og) w wA:=hl07.next hl7A (fun k hk _=>om_)
 have hsA:w8.heap.size+2≤wA.heap.size:=by rw [← hwA];simp
 have hN5:w.heap.size < w8.heap.size:=by have:=hl78.size;omega
 have hp2:=hM.b2.lt
 have hopA:og < w.heap.size:=by obtain ⟨A',h1,_⟩:=hM.own;exact h1.lt
 go_wp2_with (first
  | (with_reducible refine Zyp ?_)
  | (refine o_ ?_;intro K hK)|(with_reducible first|refine Zyo ?_ ?_|refine Zyj ?_|refine Zyf bn_ (fun _=>?_)))
 clear hwA hb8A hl7A hl78 hl8 hl77 hLn8 hLn7 hLn7d hM7 bT7 b57 hl07 HE HT HU r3 hmis
 generalize hp6:w8.heap.size=P6 at *
 refine (wpIn_wide (n:=0)).1 (Zcq (encs:=fun k:Nat=>#[.int .i64 (k:Int)]) (xs:=upL G c.mist) (XI:=fun _ _=>False) (XB:=fun k _=>k=w.heap.size) (Mid:=fun _=>True)
  (fun k A=>Zxy (upL G c.mist) c.may k∧Blk A w.heap.size #[.bool false] 4∧Lets (fun k _=>k=w.heap.size∨wA.heap.size≤k) wA A)
  (fun cd A=>cd=.ret∧R=false∧Blk A w.heap.size #[.bool false] 4∧Lets (fun k _=>k=w.heap.size∨wA.heap.size≤k) wA A)
  rfl call214 (fun _=>rfl)
  (fun W1 hb1 hs1=>?seq)
  (fun j o h1 h2 e=>e) (fun j o h1 h2 e=>om_)
  (fun k A B h hl=>⟨h.1,hl.blk h.2.1 (fun e=>e),h.2.2.trans (hl.mono fun _ _ e=>e.elim)⟩)
  (fun cd A B h hl=>⟨h.1,h.2.1,hl.blk h.2.2.1 (fun e=>e),h.2.2.2.trans (hl.mono fun _ _ e=>e.elim)⟩)
  (fun k A B h hl=>⟨h.1,hl.blk h.2.1 (fun e=>om_),h.2.2.trans (hl.mono fun _ _ e=>om_)⟩)
  (fun cd A B h hl=>⟨h.1,h.2.1,hl.blk h.2.2.1 (fun e=>om_),h.2.2.2.trans (hl.mono fun _ _ e=>om_)⟩)
  (fun A B h hl=>trivial) ⟨by simp [Zxy],b5A,Lets.refl _ _⟩ ?round ?done ?stop)
 case seq =>
  exact Zs4 G c.mist P6 (wA.heap.size+1) W1 (bt0.below hb1 bt0.lt) (bt1.below hb1 bt1.lt) _ (fun k o e=>om_)
 case round =>
  intro k hk A' hI hMm hsz hrec
  have hxm:(upL G c.mist)[k]∈upL G c.mist:=List.getElem_mem hk
  have htk:(upL G c.mist).take (k+1)=(upL G c.mist).take k ++ [(upL G c.mist)[k]]:=List.take_succ_eq_append_getElem hk
  have hnx:Hid (((upL G c.mist)[k]:Int)≤c.may→Zxy (upL G c.mist) c.may (k+1)):=fun h=>by
   have h1:=hI.1
   unfold Zxy at h1 ⊢
   rw [htk,List.all_append,h1];simpa using h
  have hbad:Hid (¬ ((upL G c.mist)[k]:Int)≤c.may→R=false):=fun h=>by
   rw [HRG.out,List.all_eq_false]
   exact ⟨_,hxm,by simpa using h⟩
  clear htk hxm
  generalize (upL G c.mist)[k]=x at *
  clear hI
  unfold Zcp
  gi_wp2_with fail
  refine ⟨Lets.refl _ _,fun W₂ hl2 hs3 ha b52 hLt2=>?_⟩
  have hc2:Blk W₂ p2 (clV c ba bc) 62:=hLt2.blk (hl0A.blk hM.b2 (Ne.symm hM.ne2)) (fun e=>by have:=hl0A.size;omega)
  have r2:=hc2.cell
  unfold clV at r2
  have hs2:w.heap.size < W₂.heap.size:=by have:=hLt2.size;omega
  by_cases hx:(x:Int)≤c.may
  ·gi_wp2_with fail
   exact ⟨Lets.refl _ _,trivial,hnx.out hx,b52,hLt2⟩
  ·have r5:=b52.cell
   have f5:=b52.free
   have l5:=b52.lt
   gi_wp2_with fail
   have hX:Lets (fun k _=>k=w.heap.size) W₂ (W₂.setCell ⟨w.heap.size,0,none⟩ (.bool false)):=(Lets.refl _ _).setCell rfl _
   exact ⟨hX,trivial,rfl,hbad.out hx,b52.set 0 _,hLt2.trans (hX.mono fun _ _ e=>.inl e)⟩
 case done =>
  intro W hI hMm hD
  obtain ⟨hall,bR,hLt⟩:=hI
  unfold Zxy at hall
  rw [List.take_length] at hall
  have hRt:R=true:=HRG.out.trans hall
  have rR:=bR.cell
  have fR:=bR.free
  have lR:=bR.lt
  simp only [Exit.inBlock,Exit.then]
  clear hall
  go_wp2_with fail
  obtain ⟨Wf,hWf⟩:∃ Wf,W.setCell ⟨w.heap.size,0,none⟩ (.bool true)=Wf:=⟨_,rfl⟩
  have bf:Blk Wf w.heap.size #[.bool true] 4:=by rw [← hWf];exact bR.set 0 _
  have hlf:Lets (fun k _=>k=w.heap.size∨wA.heap.size≤k) wA Wf:=by rw [← hWf];exact hLt.setCell (.inl rfl) _
  have hDf:Wf.heap[wA.heap.size]? = some (.deferred (some [])):=by rw [← hWf];exact (Below.heap_setCell W _ _ _ (by simp only;have:=hl0A.size;omega)).trans hD
  change bodyPostM Fence.wide 0 prog _ _ .ret _ (W.setCell ⟨w.heap.size,0,none⟩ (.bool true))
  rw [hWf]
  refine Zbu (v:=.bool R) rfl hDf fun w' hl hs=>?_
  have rf:=(Zc8 bf hl (fun _=>by have:=hl0A.size;omega)).cell
  have hl2:Lets (fun k _=>k=w.heap.size∨wA.heap.size≤k) wA w':=hlf.trans (hl.mono fun _ _ e=>om_)
  have hl3:Lets (fun k _=>k=og) w w':=hl0A.next hl2 (fun i hi _ e=>by have:=hl0A.size;omega)
  refine ⟨by simp [results,results127,go_sem,rf,hRt],rfl,hM.lets hl3 ?_,hl3⟩
  obtain ⟨A',h1,h2⟩:=hownA
  exact ⟨A',hl2.blk h1 (fun e=>by have:=h1.lt;omega),h2⟩
 case stop =>
  rintro cd W ⟨rfl,hR,bR,hlf⟩ hMm hD
  refine wpIn_ret ?_
  simp only [Exit.inBlock,Exit.noGoto]
  refine Zbu (v:=.bool R) rfl hD fun w' hl hs=>?_
  have rf:=(Zc8 bR hl (fun _=>by have:=hl0A.size;omega)).cell
  have hl2:Lets (fun k _=>k=w.heap.size∨wA.heap.size≤k) wA w':=hlf.trans (hl.mono fun _ _ e=>om_)
  have hl3:Lets (fun k _=>k=og) w w':=hl0A.next hl2 (fun i hi _ e=>by have:=hl0A.size;omega)
  refine ⟨by simp [results,results127,go_sem,rf,hR],rfl,hM.lets hl3 ?_,hl3⟩
  obtain ⟨A',h1,h2⟩:=hownA
  exact ⟨A',hl2.blk h1 (fun e=>by have:=h1.lt;omega),h2⟩
end Go.Proofs.YtbapgefodmmikaaGreatDoor
namespace Go.Ord
variable {P:Program}{ops:Array Oper}{Q:Exit→Act→World→Prop}{H:World→Prop}{eff:Nat→Bool}
def soleP (ops:Array Oper) (so:Nat→Bool):List (Nat × Nat)→Array Bool→Bool
 | [],_=>true
 | (k,_) :: l,listed=>(!so k || decide (Region.ready .any ops listed=[k])) && soleP ops so l (listed.setIfInBounds k true)
theorem Zio (F:Nat) {R:Act→World→Prop}{m:Nat}{L:Array Bool}(hs:Region.noSelect ops=true) (so:Nat→Bool) (hQ:∀ c a k o v w,ops[k]? = some o→so k=false→Q (.panic c) (a.put o.dst v) w→Q (.panic c) a w)
  (hR:∀ a w,H w→R a w→any P ops eff H Q m L a w):∀ (l:List (Nat × Nat)) (listed:Array Bool) (a:Act) (w:World),listed.size=ops.size→H w →
  soleP ops so l listed=true→Zd4 F ops eff l listed=some L→walk P ops H (Qn Q R) l a w→any P ops eff H Q (l.length+m) listed a w
 | [],listed,a,w,_,hw,hS,hB,h=>by exact Q1i
 | (k,c) :: l,listed,a,w,hsz,hw,hS,hB,h=>by
  simp only [soleP,Bool.and_eq_true,Bool.or_eq_true,Bool.not_eq_true',decide_eq_true_eq] at hS
  obtain ⟨hS1,hS2⟩:=hS
  rw [Zd4] at hB
  split at hB
  ·rename_i hb
   unfold okP at hb
   rw [walk] at h
   cases ho:ops[k]? with
   | none=>simp only [ho] at h
   | some o =>
    simp only [ho] at h
    have hsz':(listed.setIfInBounds k true).size=ops.size:=by simp [hsz]
    have ih:∀ a w,H w→walk P ops H (Qn Q R) l a w→any P ops eff H Q (l.length+m) (listed.setIfInBounds k true) a w:=fun a w h1 h2=>Zio F hs so hQ hR l _ a w hsz' h1 hS2 hB h2
    have hlen:((k,c) :: l).length+m=l.length+m+1:=by simp;omega
    rw [hlen]
    cases he:eff k with
    | true =>exact Qp
    | false =>
     simp only [he,Bool.false_eq_true,if_false,Bool.and_eq_true,Bool.or_eq_true,beq_iff_eq,decide_eq_true_eq] at hb
     obtain ⟨hc2,hb2⟩:=hb
     have hb3:Region.ready .any ops listed=[k]∨(so k=false∧((k∈Region.ready .any ops listed∧Region.free .any ops listed k=true)∧(c=1∨Znq F ops eff k listed=true))):=by
      rcases hS1 with h1|h1
      ·rcases hb2 with h2|h2
       ·exact .inl h2
       ·exact .inr ⟨h1,by simpa using h2⟩
      ·exact .inl h1
     rcases hb3 with hone | ⟨hso,⟨hr,hf⟩,hcc⟩
     ·exact Q5
     have hr':k∈Region.ready .any ops listed:=by simpa using hr
     by_cases hwt:Region.wanted o (yielded ops a.tmps)=true
     ·simp only [hwt,if_true] at h
      match c,hc2,h with
      | 0,_,h =>
       obtain ⟨v,h1,h2⟩:=h
       have hcalm:Znq F ops eff k listed=true:=hcc.resolve_left sp_
       obtain ⟨L',hL⟩:=Zfu hsz hcalm
       exact any_calm ho he (Region.noSelect_spec hs) (fun c a w=>hQ c a k o _ w ho hso) (l.length+m) listed a hL (Region.free_spec ho hf) hr' (.inl ⟨hwt,fun w' e=>by subst e;exact h1⟩) (ih _ _ hw h2)
      | 1,_,h =>
       obtain ⟨v,h1,h2⟩:=h
       exact any_first ho he (Region.noSelect_spec hs) (fun c a w=>hQ c a k o _ w ho hso) (l.length+m) listed a w hw (Region.free_spec ho hf) hr' (.inl ⟨hwt,h1⟩) (ih _ _ hw h2)
      | (n+2),hc2,_=>exact absurd hc2 om_
     ·have hwt':Region.wanted o (yielded ops a.tmps)=false:=by simpa using hwt
      simp only [hwt',Bool.false_eq_true,if_false] at h
      exact any_first ho he (Region.noSelect_spec hs) (fun c a w=>hQ c a k o _ w ho hso) (l.length+m) listed a w hw (Region.free_spec ho hf) hr' (.inr ⟨hwt',rfl⟩) (ih _ _ hw h)
  ·cases hB
theorem wp_regionE {id:Nat}{a:Act}{w:World}{lo:List Oper}(F:Nat) (l:List (Nat × Nat)) (so:Nat→Bool) (H:World→Prop) (hm:P.follows .mixedOrders=true) (hp:Zjp F lo.toArray (.leaf l)=true) (hso:soleP lo.toArray so l (Array.replicate lo.toArray.size false)=true)
  (hQ:∀ c a k o v w,lo.toArray[k]? = some o→so k=false→Q (.panic c) (a.put o.dst v) w→Q (.panic c) a w) (hH:H w.drew) (h:walk P lo.toArray H Q l a w.drew):(Code.region id lo.toArray true).wp P Q a w:=by
 simp only [Zjp,Bool.and_eq_true,beq_iff_eq] at hp
 obtain ⟨⟨hs,hl⟩,hp⟩:=hp
 refine wp_region_any hm (wpAny_of_any (H:=H) (eff:=fun i=>(Pl.leaf l).effs.contains i) _ _ _ _ ?_)
 rw [Zjo] at hp
 cases hpp:Zd4 F lo.toArray (fun i=>(Pl.leaf l).effs.contains i) l (Array.replicate lo.toArray.size false) with
 | none=>rw [hpp] at hp;cases hp
 | some L =>
  rw [hpp] at hp
  have h2:=Zio (m:=0) (H:=H) (eff:=fun i=>(Pl.leaf l).effs.contains i) F hs so hQ (fun a w _ h=>⟨by simpa using hp,h⟩) l (Array.replicate lo.toArray.size false) a _ sp_ hH hso hpp (Zqg l h)
  rw [show l.length+0=lo.toArray.size by simpa [Pl.len] using hl] at h2
  exact h2
end Go.Ord
