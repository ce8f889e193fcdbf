/- Parts of a proof. -/
import Derived.Test.YtbapgefodmmikaaGreatDoorLMin
import Derived.Test.YtbapgefodmmikaaGreatDoorL24
set_option linter.unusedVariables false
set_option linter.unusedSimpArgs false
set_option maxHeartbeats 40000000
set_option maxRecDepth 100000
namespace Go.Proofs.YtbapgefodmmikaaGreatDoor
open Go.RowKit Go.Proofs Go.Ord Tryz
attribute [local irreducible] Ord.walk
section
variable {W:World}{Y:Nat}{t:Ty}{sa:Option Addr}{sc:Nat}{ca:Option Addr}{cc mb:Nat}
theorem t_bounds (Y:Nat) (set:Nat) (w:World) :
  Calls prog 269 #[.pointer Y,.int .u64 (set:Int)] w (fun e w'=>e=.returned (.func (.func 303) #[] #[.pointer w.heap.size,.pointer ↑(w.heap.size+1)])∧w'=(w.alloc (.cells #[.pointer Y] 161)).alloc (.cells #[.int .u64 (set:Int)] 151)):=by
 go_enter func269,ntmps269
 go_wp2
 go_ret
 exact ⟨rfl,rfl⟩
structure TyIn (t:Ty) (s:Nat):Prop where
 sh:t.sh=(s:Int)
 one:1≤s
 five:s≤5
 most:0≤t.most∧t.most≤60
 strays:t.strays.length+1=s
 calls:t.calls.length≤8
 spans:∀ x∈t.strays,-3≤x.1∧x.1≤x.2∧x.2≤3
 call:∀ c∈t.calls,Zcv s c=true
theorem bit_eq:∀ set:Nat,set < 256→∀ n:Nat,n < 8→(bits .and .u64 ((set:Int) / 2 ^ n) 1 == 0) = !set.testBit n:=by decide +kernel
theorem Ztg {w:World}(h:YardAt w Y t sa sc ca cc mb) (s:Nat) (hs:t.sh=(s:Int)) (h5:s≤5) (c:Int × Int × Int × Int) (hc:Zcv s c=true) (p:Nat) (hp:Blk w p #[.pointer Y] 161) :
  Calls prog 304 #[Zk2 s c,.agg #[.int .i64 c.2.2.1,.int .i64 c.2.2.2],.pointer p] w (Zak (.agg (Zas (Zpp s c))) w):=by
 obtain ⟨k,a,lo,hi⟩:=c
 simp only [Zcv,Bool.and_eq_true,Bool.or_eq_true,decide_eq_true_eq] at hc
 unfold Zk2 Zpp
 simp only
 by_cases h0:k=0
 ·rw [if_pos h0,if_pos h0];exact Zhm h _ _ lo hi p hp
 rw [if_neg h0,if_neg h0]
 by_cases h1:k=1
 ·rw [if_pos h1,if_pos h1];exact Zjb h s hs _ _ om_ om_ lo hi p hp
 ·rw [if_neg h1,if_neg h1];exact Zhm h _ _ lo hi p hp
theorem _root_.Qa {p:Prop}(h:p:=by
 refine OrdI.walkS_nil ?_
 go_wp2_with (first
  | (with_reducible refine Zyp ?_)
  | (with_reducible refine Ord.at_qn ?_)
  | (refine o_ ?_;intro K hK)|(with_reducible first|refine Zyo ?_ ?_|refine Zyj ?_|refine Zyf bn_ (fun _=>?_)))
 exact Q3k):p:=h
theorem Zug (s:Nat) (hT:TyIn t s) (set:Nat) (hset:set < 256) (tb l:Nat) (W:World) (hy:YardAt W Y t sa sc ca cc mb) (h0b:Blk W tb #[.pointer Y] 161) (h1b:Blk W (tb+1) #[.int .u64 (set:Int)] 151) (XR:Nat→Option Obj→Prop)
  (hXo:∀ k o,XR k o→k < W.heap.size) (hX:∀ wr,Lets XR W wr→YardAt wr Y t sa sc ca cc mb∧Blk wr tb #[.pointer Y] 161∧Blk wr (tb+1) #[.int .u64 (set:Int)] 151) :
  Zyb prog 303 #[.pointer tb,.pointer ↑(tb+1)] (fun x=>#[.agg (Zas x)]) (Zb7 t set) (fun _ _=>False) XR (fun _=>True) l W:=by
 intro J Jx hJ hJx hY h0
 have HJ:=hd_ hJ
 have HYx:Hid (∀ (j:Nat) (x:Nat × Nat × Int × Int),(Zb7 t set)[j]? = some x→∀ W1,J j W1→YieldAt Fence.wide 0 prog l #[.agg (Zas x)] W1 fun e W'=>Lets XR W1 W'∧((e=.returned (.bool true)∧J (j+1) W')∨(e=.returned (.bool false)∧Jx W'))):=by
  intro j x hx W1 hj
  obtain ⟨hh,h2⟩:=List.getElem?_eq_some_iff.1 hx
  have:=hY j hh W1 hj trivial
  rw [h2] at this
  exact Q34
 have HY1:Hid (∀ i,i < s→∀ W1,J (2 * i) W1→_):=fun i hi=>HYx.out (2 * i) _ (Zkb t set s hT.sh i hi).1
 have HY2:Hid (∀ i,i < s→∀ W1,J (2 * i+1) W1→_):=fun i hi=>HYx.out (2 * i+1) _ (Zkb t set s hT.sh i hi).2
 have HY3:Hid (∀ i (hi:i < t.strays.length),∀ W1,J (2 * s+i) W1→_):=fun i hi=>HYx.out (2 * s+i) _ (Zrn t set s hT.sh i hi)
 have HY4:Hid (∀ k (hk:k < t.calls.length),set.testBit k=true→∀ W1,J (2 * s+t.strays.length+cntB t set k) W1→_):=fun k hk hb=>HYx.out _ _ (Zhd t set s hT.sh k hk hb).1
 have HN4:Hid (∀ k (hk:k < t.calls.length),set.testBit k=true→cntB t set (k+1)=cntB t set k+1):=fun k hk hb=>(Zhd t set s hT.sh k hk hb).2
 have HN5:Hid (∀ k (hk:k < t.calls.length),set.testBit k=false→cntB t set (k+1)=cntB t set k):=fun k hk hb=>cntB_no t set k hk hb
 have HL:Hid ((Zb7 t set).length=2 * s+t.strays.length+cntB t set t.calls.length):=by show _=_;rw [Zro t set s hT.sh,cntB_all]
 have HZ:Hid (cntB t set 0=0):=Zxb t set
 have HT:=hd_ hT
 have HX:=hd_ hX
 have HXo:=hd_ hXo
 have HBy1:=hd_ (fun (wr:World) (hl:YardAt wr Y t sa sc ca cc mb) (a b:Nat) (lo hi:Int) (p:Nat) hp=>Zhm hl a b lo hi p hp)
 have HBy2:=hd_ (fun (wr:World) (hl:YardAt wr Y t sa sc ca cc mb) (a b:Nat) (ha:a≤6) (hb:b≤6) (lo hi:Int) (p:Nat) hp=>Zjb hl s hT.sh a b ha hb lo hi p hp)
 clear hY HYx hJ hT hX hXo
 generalize cntB t set=cn at *
 refine callsIn_of_wp func303 rfl trivial ?_ rfl
 simp only [ntmps303,List.size_toArray,List.length_cons,List.length_nil,Nat.reduceAdd,Nat.reduceSub,Array.replicate_succ,Array.replicate_zero,List.push_toArray,List.append_toArray,List.nil_append,List.cons_append]
 gi_wp2_with fail
 refine wpIn_wide.2 (wp_scope_straight ?_)
 have b0:=h0b.cell
 have y0:=hy.blk.cell
 have lb0:=h0b.lt
 have ly0:=hy.blk.lt
 unfold Ze5 at y0
 rw [HT.out.sh] at y0
 go_wp2_with fail
 refine (wpIn_wide (n:=0)).1 ?_
 gi_loopw [5,6,17] (fun x5 x6 x17 wr=>∃ i:Nat,i≤s∧x17=.int .i64 (i:Int)∧Lets XR W wr∧Hid (J (2 * i) wr)) (fun _ _ x17 _=>s - (intOf x17).toNat)
 case atStart=>exact ⟨0,om_,rfl,Lets.refl _ _,h0⟩
 case round =>
  obtain ⟨k,hk,rfl,hLt,hj⟩:=hrel
  obtain ⟨hY',k0,k1⟩:=HX.out wr hLt
  by_cases hlt:k < s
  ·have hlti:(k:Int) < (s:Int):=by omega
   have hs5:=HT.out.five
   have lk0:=k0.lt
   have r0:=k0.cell
   have ly:=hY'.blk.lt
   have ry:=hY'.blk.cell
   unfold Ze5 at ry
   clear b0 y0 lb0 ly0
   have hwN:wr.heap.size < (wr.alloc (.cells #[.int .i64 (k:Int),.int .i64 ((k:Int)+1)] 166)).heap.size:=by simp
   have hBn:Below wr.heap.size wr (wr.alloc (.cells #[.int .i64 (k:Int),.int .i64 ((k:Int)+1)] 166)):=br_.alloc nl_ _
   have bn:Blk (wr.alloc (.cells #[.int .i64 (k:Int),.int .i64 ((k:Int)+1)] 166)) wr.heap.size #[.int .i64 (k:Int),.int .i64 ((k:Int)+1)] 166:=Blk.new _ _ _
   have BN:=hd_ bn
   have HBn:=hd_ hBn
   clear bn hBn hwN
   gi_wp2_with fail
   obtain ⟨w1,hw1⟩:∃ w1,wr.alloc (.cells #[.int .i64 (k:Int),.int .i64 ((k:Int)+1)] 166)=w1:=⟨_,rfl⟩
   rw [hw1] at BN HBn ⊢
   have bn:=BN.out
   have hB1:=HBn.out
   clear BN HBn hw1
   have hY1:YardAt w1 Y t sa sc ca cc mb:=hY'.below hB1
   have k01:=k0.below hB1 k0.lt
   have hLt1:Lets XR W w1:=hLt.trans (Lets.of_below hB1)
   have hj1:Hid (J (2 * k) w1):=HJ.out _ _ _ hj.out (Lets.of_below hB1)
   have k01c:=k01.cell
   have bnc:=bn.cell
   have lbn:=bn.lt
   have lk01:=k01.lt
   have lY1:=hY1.blk.lt
   have ry1:=hY1.blk.cell
   unfold Ze5 at ry1
   clear ry r0
   refine OrdI.wpIn_regionSN 64 [([(0,1),(1,0),(2,0),(3,0),(4,0),(5,0),(6,0),(7,0),(8,0),(9,0),(10,2)],11),([(12,0),(13,0),(14,1),(15,0),(16,0),(17,0),(18,0),(19,0),(20,2)],21)] [(22,0),(23,0)] (fun _=>True) kr_ kr_ trivial ?_
   refine OrdI.walkS_cons ?_
   have HBk:Hid (Calls prog 304 #[Zga k (k+1),.agg #[(),t.most],.pointer tb] w1.drew (Zak (.agg (Zas (k+1,k,0,t.most))) w1.drew)):=HBy1.out _ (hY1.below br_.drew) k (k+1) 0 t.most tb k01.drew
   unfold Zga at HBk
   rw [show ((k+1:Nat):Int)=(k:Int)+1 from by omega] at HBk
   go_wp2_with (first
    | (with_reducible refine Zyp ?_)
    | (with_reducible refine Ord.at_qn ?_)
    | (go_at_call 304;refine HBk.out.mono ?_;rintro e w2 ⟨rfl,hb2⟩)
    | (refine o_ ?_;intro K hK)|(with_reducible first|refine Zyo ?_ ?_|refine Zyj ?_|refine Zyf bn_ (fun _=>?_)))
   have hb12:Below w1.heap.size w1 w2:=br_.drew.trans (by simpa using hb2)
   have hj2:Hid (J (2 * k) w2):=HJ.out _ _ _ hj1.out (Lets.of_below hb12)
   have hLt2:=hLt1.trans (Lets.of_below hb12)
   obtain ⟨fn,tmps,asg,bo,hy1,hR⟩:=HY1.out k hlt w2 hj2.out
   have bn2:=bn.below hb12 bn.lt
   refine OrdI.rd_list rfl trivial fun K' hK'=>?_
   gi_wp2_with fail
   refine ⟨rfl,hR.mono ?_⟩
   clear hy1 hR HBk
   rintro e W3 ⟨hL3,⟨rfl,hj3⟩ | ⟨rfl,hjx⟩⟩
   ·have bn3:Blk W3 wr.heap.size #[.int .i64 (k:Int),.int .i64 ((k:Int)+1)] 166:=hL3.blk bn2 (fun e=>absurd (HXo.out _ _ e) (by have:=hLt.size;omega))
    have hLt3:=hLt2.trans hL3
    obtain ⟨hY3,k03,-⟩:=HX.out W3 hLt3
    have bnc3:=bn3.cell
    have lbn3:=bn3.lt
    clear bnc k01c lbn lk01 lY1 ry1
    gi_wp2_with fail
    refine hK' _ _ trivial ?_
    refine OrdI.walkS_cons ?_
    have HBk:Hid (Calls prog 304 #[Zf4 k (k+1),.agg #[(),.int .i64 65536],.pointer tb] W3 (Zak (.agg (Zas (Zbl s (k+1),Zbl s k,0,65536))) W3)):=HBy2.out _ hY3 k (k+1) om_ om_ 0 65536 tb k03
    unfold Zf4 at HBk
    rw [show ((k+1:Nat):Int)=(k:Int)+1 from by omega] at HBk
    go_wp2_with (first
     | (with_reducible refine Zyp ?_)
     | (with_reducible refine Ord.at_qn ?_)
     | (go_at_call 304;refine HBk.out.mono ?_;rintro e w4 ⟨rfl,hb4⟩)
     | (refine o_ ?_;intro K hK)|(with_reducible first|refine Zyo ?_ ?_|refine Zyj ?_|refine Zyf bn_ (fun _=>?_)))
    have hj4:Hid (J (2 * k+1) w4):=HJ.out _ _ _ hj3 (Lets.of_below hb4)
    have hLt4:=hLt3.trans (Lets.of_below hb4)
    obtain ⟨fn,tmps,asg,bo,hy1,hR⟩:=HY2.out k hlt w4 hj4.out
    refine OrdI.rd_list rfl trivial fun K2 hK2=>?_
    gi_wp2_with fail
    refine ⟨rfl,hR.mono ?_⟩
    clear hy1 hR HBk hK'
    rintro e W5 ⟨hL5,⟨rfl,hj5⟩ | ⟨rfl,hjx⟩⟩
    ·gi_wp2_with fail
     refine hK2 _ _ trivial ?_
     refine OrdI.walkS_nil ?_
     go_wp2_with (first
      | (with_reducible refine Zyp ?_)
      | (with_reducible refine Ord.at_qn ?_)
      | (refine o_ ?_;intro K hK)|(with_reducible first|refine Zyo ?_ ?_|refine Zyj ?_|refine Zyf bn_ (fun _=>?_)))
     have hLt5:=hLt4.trans hL5
     gi_wp2_with fail
     exact ⟨⟨k+1,om_,by go_num,hLt5,by rw [show 2 * (k+1)=2 * k+1+1 by omega];exact hj5⟩,by simp [intOf];omega⟩
    ·gi_wp2_with fail
     refine hK2 _ _ trivial ?_
     exact Qa
   ·gi_wp2_with fail
    refine hK' _ _ trivial ?_
    refine OrdI.walkS_cons ?_
    go_wp2_with (first
     | (with_reducible refine Zyp ?_)
     | (with_reducible refine Ord.at_qn ?_)
     | (refine o_ ?_;intro K hK)|(with_reducible first|refine Zyo ?_ ?_|refine Zyj ?_|refine Zyf bn_ (fun _=>?_)))
    refine OrdI.rd_list rfl trivial fun K2 hK2=>?_
    gi_wp2_with fail
    refine ⟨fun f hf=>(nomatch hf),?_⟩
    gi_wp2_with fail
    refine hK2 _ _ trivial ?_
    exact Qa
  ·have hlti:¬ (k:Int) < (s:Int):=by omega
   obtain rfl:k=s:=by omega
   clear hlt hk
   have lk0:=k0.lt
   have r0:=k0.cell
   have ly:=hY'.blk.lt
   have ry:=hY'.blk.cell
   unfold Ze5 at ry
   clear b0 y0 lb0 ly0
   clear hY' k0 k1 h0b h1b hy HBy1 HY1 HY2
   gi_wp2_with fail
   go_wp2_with fail
   refine (wpIn_wide (n:=0)).1 ?_
   gi_loopw [7,8,55] (fun x7 x8 x55 wr=>∃ i:Nat,i≤t.strays.length∧x55=.int .i64 (i:Int)∧Lets XR W wr∧Hid (J (2 * k+i) wr)) (fun _ _ x55 _=>t.strays.length - (intOf x55).toNat)
   case atStart=>exact ⟨0,om_,rfl,hLt,hj⟩
   case round =>
    clear lk0 r0 ly ry hLt hj
    obtain ⟨i,hi,rfl,hLt,hj⟩:=hrel
    obtain ⟨hY',k0,k1⟩:=HX.out wr hLt
    have hs5:=HT.out.five
    have hst:=HT.out.strays
    have lk0:=k0.lt
    have r0:=k0.cell
    have ly:=hY'.blk.lt
    have ry:=hY'.blk.cell
    unfold Ze5 at ry
    by_cases hlt:i < t.strays.length
    ·have hlti:(i:Int) < (t.strays.length:Int):=by omega
     obtain ⟨gb,go,hgo,hq⟩:=hY'.strays i hlt
     have q0:=hq 0 _ rfl
     have q1:=hq 1 _ rfl
     rw [Nat.add_zero] at q0
     have lg:=bl_ wr _ q0
     have HYi:=hd_ (HY3.out i hlt)
     generalize t.strays[i]=x at *
     obtain ⟨lo,hi2⟩:=x
     simp only at q0 q1 HYi
     clear hq
     have bn:Blk (wr.alloc (.cells #[lo,hi2] 23)) wr.heap.size #[lo,hi2] 23:=Blk.new _ _ _
     have hBn:Below wr.heap.size wr (wr.alloc (.cells #[lo,hi2] 23)):=br_.alloc nl_ _
     have BN:=hd_ bn
     have HBn:=hd_ hBn
     clear bn hBn
     subst hgo
     gi_wp2_with fail
     obtain ⟨w1,hw1⟩:∃ w1,wr.alloc (.cells #[lo,hi2] 23)=w1:=⟨_,rfl⟩
     rw [hw1] at BN HBn ⊢
     have bn:=BN.out
     have hB1:=HBn.out
     clear BN HBn hw1
     have hY1:YardAt w1 Y t _ sc ca cc mb:=hY'.below hB1
     have k01:=k0.below hB1 k0.lt
     have hLt1:Lets XR W w1:=hLt.trans (Lets.of_below hB1)
     have hj1:Hid (J (2 * k+i) w1.drew):=HJ.out _ _ _ hj.out (Lets.of_below hB1.drew)
     have k01c:=k01.cell
     have bnc:=bn.cell
     have lbn:=bn.lt
     have lk01:=k01.lt
     have HP:Hid (Calls prog 305 #[.pointer Y,.int .i64 ((i:Int)+1)] w1.drew (Same (.int .i64 (Zbl k (i+1):Nat)) w1.drew)):=by
      have:=t_pens (hY1.below br_.drew) k HT.out.sh (i+1) om_
      rwa [show ((i+1:Nat):Int)=(i:Int)+1 from by omega] at this
     obtain ⟨fn,tmps,asg,bo,hy1,hR⟩:=HYi.out w1.drew hj1.out
     unfold Zas at hy1
     simp only [show ((i+1:Nat):Int)=(i:Int)+1 from by omega] at hy1
     clear r0 ry
     refine OrdI.wpIn_regionSN 64 [([(0,0),(1,0),(2,0),(3,0),(4,0),(5,0),(6,0),(7,0),(8,0)],9)] [(10,0)] (fun _=>True) kr_ kr_ trivial ?_
     refine OrdI.walkS_cons ?_
     go_wp2_with (first
      | (with_reducible refine Zyp ?_)
      | (with_reducible refine Ord.at_qn ?_)
      | (refine o_ ?_;intro K hK)|(with_reducible first|refine Zyo ?_ ?_|refine Zyj ?_|refine Zyf bn_ (fun _=>?_))
      | ((with_reducible refine Zyg ?_);refine Zyv rfl (fun W=>call305 _ W) HP.out (fun K hK=>?_)))
     refine OrdI.rd_list rfl trivial fun K2 hK2=>?_
     gi_wp2_with fail
     refine ⟨rfl,hR.mono ?_⟩
     clear hy1 hR
     rintro e W5 ⟨hL5,⟨rfl,hj5⟩ | ⟨rfl,hjx⟩⟩
     ·gi_wp2_with fail
      refine hK2 _ _ trivial ?_
      refine OrdI.walkS_nil ?_
      go_wp2_with (first
       | (with_reducible refine Zyp ?_)
       | (with_reducible refine Ord.at_qn ?_)
       | (refine o_ ?_;intro K hK)|(with_reducible first|refine Zyo ?_ ?_|refine Zyj ?_|refine Zyf bn_ (fun _=>?_)))
      have hLt5:=(hLt.trans (Lets.of_below hB1.drew)).trans hL5
      gi_wp2_with fail
      exact ⟨⟨i+1,om_,by go_num,hLt5,hj5⟩,by simp [intOf];omega⟩
     ·gi_wp2_with fail
      refine hK2 _ _ trivial ?_
      exact Qa
    ·have hlti:¬ (i:Int) < (t.strays.length:Int):=by omega
     obtain rfl:i=t.strays.length:=by omega
     clear hlt hi
     clear hY' k0 k1 HY3 HBy2
     gi_wp2_with fail
     go_wp2_with fail
     refine wp_label ?_
     go_wp2_with fail
     refine (wpIn_wide (n:=0)).1 ?_
     gi_loopw [9,10,78] (fun x9 x10 x78 wr=>∃ i:Nat,i≤t.calls.length∧x78=.int .i64 (i:Int)∧Lets XR W wr∧Hid (J (2 * k+t.strays.length+cn i) wr)) (fun _ _ x78 _=>t.calls.length - (intOf x78).toNat)
     case atStart=>exact ⟨0,om_,rfl,hLt,by rw [HZ.out];exact hj⟩
     case round =>
      clear lk0 r0 ly ry hLt hj
      obtain ⟨i,hi,rfl,hLt,hj⟩:=hrel
      obtain ⟨hY',k0,k1⟩:=HX.out wr hLt
      have hc8:=HT.out.calls
      have lk0:=k0.lt
      have r0:=k0.cell
      have lk1:=k1.lt
      have r1:=k1.cell
      have ly:=hY'.blk.lt
      have ry:=hY'.blk.cell
      unfold Ze5 at ry
      by_cases hlt:i < t.calls.length
      ·have hlti:(i:Int) < (t.calls.length:Int):=by omega
       obtain ⟨gb,go,hgo,hq⟩:=hY'.calls i hlt
       have q0:=hq 0 _ rfl
       have q1:=hq 1 _ rfl
       have q2:=hq 2 _ rfl
       have q3:=hq 3 _ rfl
       rw [Nat.add_zero] at q0
       have lg:=bl_ wr _ q0
       have hok:=HT.out.call _ (List.getElem_mem hlt)
       have HYi:=hd_ (HY4.out i hlt)
       have HNi:=hd_ (HN4.out i hlt)
       have HNo:=hd_ (HN5.out i hlt)
       have hbit:=bit_eq set hset i om_
       generalize t.calls[i]=x at *
       obtain ⟨x1,x2,x3,x4⟩:=x
       simp only at q0 q1 q2 q3
       clear hq
       subst hgo
       have bn:Blk (wr.alloc (.cells #[x1,x2,x3,x4] 137)) wr.heap.size #[x1,x2,x3,x4] 137:=Blk.new _ _ _
       have hBn:Below wr.heap.size wr (wr.alloc (.cells #[x1,x2,x3,x4] 137)):=br_.alloc nl_ _
       have BN:=hd_ bn
       have HBn:=hd_ hBn
       clear bn hBn
       cases hb:set.testBit i
       ·rw [hb] at hbit
        gi_wp2_with fail
        exact ⟨⟨i+1,om_,by go_num,hLt.trans (Lets.of_below HBn.out),by rw [HNo.out hb];exact HJ.out _ _ _ hj.out (Lets.of_below HBn.out)⟩,by simp [intOf];omega⟩
       ·rw [hb] at hbit
        gi_wp2_with fail
        obtain ⟨w1,hw1⟩:∃ w1,wr.alloc (.cells #[x1,x2,x3,x4] 137)=w1:=⟨_,rfl⟩
        rw [hw1] at BN HBn ⊢
        have bn:=BN.out
        have hB1:=HBn.out
        clear BN HBn hw1
        have hY1:YardAt w1 Y t sa sc _ cc mb:=hY'.below hB1
        have k01:=k0.below hB1 k0.lt
        have hLt1:Lets XR W w1:=hLt.trans (Lets.of_below hB1)
        have hj1:Hid (J (2 * k+t.strays.length+cn i) w1):=HJ.out _ _ _ hj.out (Lets.of_below hB1)
        have k01c:=k01.cell
        have bnc:=bn.cell
        have lbn:=bn.lt
        have lk01:=k01.lt
        have HCn:Hid (Calls prog 306 #[.pointer Y,.agg #[x1,x2,x3,x4]] w1.drew (Zak (Zk2 k (x1,x2,x3,x4)) w1.drew)):=t_counts (hY1.below br_.drew) k HT.out.sh (x1,x2,x3,x4) hok HT.out.five
        have HBy:Hid (∀ w2,Below w1.heap.size w1 w2→Calls prog 304 #[Zk2 k (x1,x2,x3,x4),.agg #[x3,x4],.pointer tb] w2 (Zak (.agg (Zas (Zpp k (x1,x2,x3,x4)))) w2)):=fun w2 h2=>Ztg (hY1.below h2) k HT.out.sh HT.out.five (x1,x2,x3,x4) hok tb (k01.below h2 k01.lt)
        have HYj:=hd_ (HYi.out hb)
        have bnd:=bn.drew
        generalize Zpp k (x1,x2,x3,x4)=cb at *
        generalize Zk2 k (x1,x2,x3,x4)=cv at *
        clear r0 ry r1
        refine OrdI.wpIn_regionSN 64 [([(0,1),(1,1),(2,0),(3,0),(5,1),(6,1),(4,2),(7,2)],8)] [(9,0)] (fun W=>Blk W wr.heap.size #[x1,x2,x3,x4] 137) kr_ kr_ bn.drew ?_
        refine OrdI.walkS_cons ?_
        go_wp2_with (first
         | (with_reducible refine Zyp ?_)
         | (with_reducible refine Ord.at_qn ?_)
         | ((with_reducible refine Zye ?_);refine Zyq (ad:=⟨wr.heap.size,2,none⟩) (.agg #[x3,x4]) rfl rfl ?_ ?_;(focus (intro W hW;have r2:=hW.cell 2;have r3:=hW.cell 3;simp [go_sem,r2,r3];done));intro K hK)
         | (go_at_call 306;refine HCn.out.mono ?_;rintro e w2 ⟨rfl,hb2⟩;have hb12:Below w1.heap.size w1 w2:=br_.drew.trans (by simpa using hb2);have hbn2:=bn.below hb12 bn.lt)
         | (go_at_call 304;refine (HBy.out _ hb12).mono ?_;rintro e w3 ⟨rfl,hb3⟩;have hb13:=hb12.trans (hb3.mono hb12.size);have hbn3:=bn.below hb13 bn.lt)
         | (refine o_ ?_;intro K hK)|(with_reducible first|refine Zyo ?_ ?_|refine Zyj ?_|refine Zyf bn_ (fun _=>?_)))
        have hj3:Hid (J (2 * k+t.strays.length+cn i) w3):=HJ.out _ _ _ hj1.out (Lets.of_below hb13)
        have hLt3:=hLt1.trans (Lets.of_below hb13)
        obtain ⟨fn,tmps,asg,bo,hy1,hR⟩:=HYj.out w3 hj3.out
        refine OrdI.rd_list rfl hbn3 fun K2 hK2=>?_
        gi_wp2_with fail
        refine ⟨rfl,hR.mono ?_⟩
        clear hy1 hR
        rintro e W5 ⟨hL5,⟨rfl,hj5⟩ | ⟨rfl,hjx⟩⟩
        ·have hbn5:Blk W5 wr.heap.size #[x1,x2,x3,x4] 137:=hL5.blk hbn3 (fun e=>absurd (HXo.out _ _ e) (by have:=hLt.size;omega))
         gi_wp2_with fail
         refine hK2 _ _ hbn5 ?_
         refine OrdI.walkS_nil ?_
         go_wp2_with (first
          | (with_reducible refine Zyp ?_)
          | (with_reducible refine Ord.at_qn ?_)
          | (refine o_ ?_;intro K hK)|(with_reducible first|refine Zyo ?_ ?_|refine Zyj ?_|refine Zyf bn_ (fun _=>?_)))
         have hLt5:=hLt3.trans hL5
         gi_wp2_with fail
         exact ⟨⟨i+1,om_,by go_num,hLt5,by rw [HNi.out hb];exact hj5⟩,by simp [intOf];omega⟩
        ·have hbn5:Blk W5 wr.heap.size #[x1,x2,x3,x4] 137:=hL5.blk hbn3 (fun e=>absurd (HXo.out _ _ e) (by have:=hLt.size;omega))
         gi_wp2_with fail
         refine hK2 _ _ hbn5 ?_
         exact Qa
      ·have hlti:¬ (i:Int) < (t.calls.length:Int):=by omega
       obtain rfl:i=t.calls.length:=by omega
       have hjl:Hid (J (Zb7 t set).length wr):=by show J _ wr;rw [HL.out];exact hj.out
       exact Q2x
end
def ts (f:Nat→Int):Array Value:=((List.range 121).map fun i=>Value.int .i64 (f i)).toArray
def fl (t:Tb) (n:Nat):Int:=t (n / 11) (n % 11)
theorem Zan (f:Nat→Int):(ts f).size=121:=by simp [ts]
theorem Zdp (f:Nat→Int) {i:Nat}(h:i < 121):(ts f)[i]? = some (.int .i64 (f i)):=by simp [ts,h]
theorem ts_congr {f g:Nat→Int}(h:∀ i,i < 121→f i=g i):ts f=ts g:=by
 unfold ts
 congr 1
 exact List.map_congr_left fun i hi=>by rw [h i (List.mem_range.1 hi)]
theorem Zv7 (f:Nat→Int) {k:Nat}(h:k < 121) (v:Int):(ts f).setIfInBounds k ↑v=ts (fun j=>if j=k then v else f j):=by
 apply Array.ext
 ·simp [ts]
 ·intro i h1 h2
  have hi:i < 121:=by simpa [ts] using h1
  simp only [Array.getElem_setIfInBounds,ts,List.getElem_toArray,List.getElem_map,List.getElem_range]
  by_cases e:k=i
  ·subst e;simp
  ·simp [e,Ne.symm e]
theorem Zej (c:Nat→Int):(ts c).all (·.oneCell')=true:=by
 rw [Array.all_eq_true]
 intro i hi
 have h:i < 121:=by simpa [ts] using hi
 simp [ts,Value.oneCell']
def mixT (g f:Nat→Int) (k:Nat):Nat→Int:=fun i=>if i < k then g i else f i
theorem Zjt (g f:Nat→Int):mixT g f 0=f:=by funext i;simp [mixT]
theorem Zju (g f:Nat→Int):ts (mixT g f 121)=ts g:=ts_congr fun i hi=>by simp [mixT,hi]
theorem Zh3 (g f:Nat→Int) (k:Nat):(fun j=>if j=k then g k else mixT g f k j)=mixT g f (k+1):=by
 funext j
 unfold mixT
 exact Q2j
theorem Zg6 (t:Tb) {i k:Nat}(hk:k < 11):fl t (i * 11+k)=t i k:=by
 unfold fl
 rw [show (i * 11+k) / 11=i by omega,show (i * 11+k) % 11=k by omega]
theorem Zaf:Zdw prog 267 121:=⟨_,underlying267,rfl,by kernel_rfl⟩
theorem t_can (t:Tb) (w:World) :
  Calls prog 206 #[.agg (ts (fl t))] w (Zak (.bool (canT t)) w):=by
 have hcan:∀ k,k < 11→¬ (0≤t k k)→canT t=false:=fun k hk h=>by
  simp only [canT,List.all_eq_false,List.mem_range]
  exact ⟨k,hk,by simpa using h⟩
 have hall:(∀ k,k < 11→0≤t k k)→canT t=true:=fun h=>by
  simp only [canT,List.all_eq_true,List.mem_range]
  exact fun k hk=>decide_eq_true (h k hk)
 generalize canT t=v at *
 have b1:Blk (w.alloc (.cells (ts (fl t)) 267)) w.heap.size (ts (fl t)) 267:=Blk.new _ _ _
 have hB:w (w.alloc (.cells (ts (fl t)) 267)):=br_.alloc nl_ _
 go_enter func206,ntmps206
 go_wp2_with fail
 go_loopw [3,4] (fun x3 x4 wr=>∃ k:Nat,k≤11∧x4=.int .i64 (k:Int)∧Below w.heap.size w wr∧Blk wr w.heap.size (ts (fl t)) 267∧(∀ j,j < k→0≤t j j)) (fun _ x4 _=>(11 - intOf x4).toNat)
 case atStart=>exact ⟨0,om_,rfl,hB,b1,fun j hj=>om_⟩
 case round =>
  clear b1 hB
  obtain ⟨k,hk,rfl,hB,b1,hs⟩:=hrel
  by_cases hlt:k < 11
  ·have hlti:(k:Int) < 11:=by omega
   have c1:wr.cell? ⟨w.heap.size,k * 11+k,none⟩=some (.int .i64 (t k k)):=by rw [b1.cell,Zdp _ om_,Zg6 t hlt]
   have l1:=b1.lt
   obtain ⟨x,hx⟩:∃ x,t k k=x:=⟨_,rfl⟩
   rw [hx] at c1
   by_cases h0:0≤x
   ·have h1:¬ x < 0:=by omega
    have hs':∀ j,j < k+1→0≤t j j:=fun j hj=>by
     by_cases e:j=k
     ·subst e;omega
     ·exact hs j om_
    have HS:=hd_ hs'
    clear hs hs' hx
    go_wp2_with fail
    exact ⟨⟨k+1,om_,by go_num,hB,b1,HS.out⟩,by simp [intOf];omega⟩
   ·have h1:x < 0:=by omega
    have hv:v=false:=hcan k hlt om_
    clear hs hcan hall hx
    subst hv
    go_wp2_with fail
    go_ret
    exact ⟨rfl,hB⟩
  ·have hlti:¬ (k:Int) < 11:=by omega
   have hv:v=true:=hall fun j hj=>hs j om_
   clear hs hcan hall
   subst hv
   go_wp2_with fail
   go_ret
   exact ⟨rfl,hB⟩
theorem t_span (t:Tb) (a b:Nat) (lo hi:Int) (ha:a < 11) (hb:b < 11) (w:World) :
  Calls prog 200 #[.agg (ts (fl t)),.agg (Zas (a,b,lo,hi))] w (Zak (.agg #[.int .i64 (Zgv t a b).1,.int .i64 (Zgv t a b).2]) w):=by
 have hai:(a:Int) < 11:=by omega
 have hbi:(b:Int) < 11:=by omega
 go_enter func200,ntmps200
 go_wp2_with fail
 obtain ⟨w1,hw1⟩:∃ w1,((w.alloc (.cells (ts (fl t)) 267)).alloc (.cells (Zas (a,b,lo,hi)) 270)).alloc (.cells #[(),()] 23)=w1:=⟨_,rfl⟩
 rw [hw1]
 have b1:Blk w1 w.heap.size (ts (fl t)) 267:=by rw [← hw1];exact ((Blk.new _ _ _).alloc _).alloc _
 have b2:Blk w1 (w.heap.size+1) (Zas (a,b,lo,hi)) 270:=by rw [← hw1];exact (Blk.new' _ _ _ _ sp_).alloc _
 have b3:Blk w1 (w.heap.size+2) #[(),()] 23:=by rw [← hw1];exact Blk.new' _ _ _ _ sp_
 have c1:w1.cell? ⟨w.heap.size,b * 11+a,none⟩=some (.int .i64 (t b a)):=by rw [b1.cell,Zdp _ om_,Zg6 t ha]
 have c2:w1.cell? ⟨w.heap.size,a * 11+b,none⟩=some (.int .i64 (t a b)):=by rw [b1.cell,Zdp _ om_,Zg6 t hb]
 have hB:Below w.heap.size w w1:=by rw [← hw1];exact bel_
 obtain ⟨x,hx⟩:∃ x,t b a=x:=⟨_,rfl⟩
 obtain ⟨y,hy⟩:∃ y,t a b=y:=⟨_,rfl⟩
 have hsp:Hid (Zgv t a b=(wrap64 (-x),y)):=by show _=_;unfold Zgv;rw [hx,hy]
 rw [hx] at c1
 rw [hy] at c2
 clear hx hy
 have r2:=b2.cell
 have l1:=b1.lt
 have l2:=b2.lt
 have r3:=b3.cell
 have f3:=b3.free
 have l3:=b3.lt
 unfold Zas at *
 simp only at r2
 have HB:=hd_ hB
 have B3:=hd_ b3
 clear b1 b2 b3 hw1 hB
 refine Zyu [(0,0),(1,0),(2,0),(3,0),(4,0),(5,0),(6,0),(7,0),(8,0),(9,0),(10,0),(11,0),(12,0),(13,0),(14,0),(15,0),(16,2)] (fun _=>True) kr_ kr_ trivial ?_
 go_wp2_with (first
  | (with_reducible refine Zyp ?_)
  | (refine o_ ?_;intro K hK)|(with_reducible first|refine Zyo ?_ ?_|refine Zyj ?_|refine Zyf bn_ (fun _=>?_)))
 refine bodyPost_ret (v:=.agg #[.int .i64 (wrap64 (-x)),.int .i64 y]) (Za5 rfl _ Zav rfl (((B3.out.set 0 _).set 1 _).drew) rfl) rfl ⟨by rw [hsp.out],((HB.out.setCell (by simp;omega) _).setCell (by simp;omega) _).drew⟩
theorem t_empty (w:World) :
  Calls prog 267 #[] w (Zak (.agg (ts (fl Zcu))) w):=by
 have hz:Blk (w.alloc (.cells (ts fun _=>0) 267)) w.heap.size (ts fun _=>0) 267:=Blk.new _ _ _
 have hB:w (w.alloc (.cells (ts fun _=>0) 267)):=br_.alloc nl_ _
 go_enter func267,ntmps267
 go_wp2_with fail
 go_loopw [1,2,3,6] (fun x1 x2 x3 x6 wr=>∃ k:Nat,k≤11∧x3=↑k∧Below w.heap.size w wr∧Blk wr w.heap.size (ts (mixT (fl Zcu) (fun _=>0) (k * 11))) 267) (fun _ _ x3 _ _=>(11 - intOf x3).toNat)
 case atStart=>exact ⟨0,om_,rfl,hB,by rw [Nat.zero_mul,Zjt];exact hz⟩
 case round =>
  clear hz hB
  obtain ⟨k,hk,rfl,hB,b1⟩:=hrel
  by_cases hlt:k < 11
  ·have hlti:(k:Int) < 11:=by omega
   go_wp2_with fail
   go_loopw [2,6] (fun x2 x6 wr=>∃ j:Nat,j≤11∧x6=↑j∧Below w.heap.size w wr∧Blk wr w.heap.size (ts (mixT (fl Zcu) (fun _=>0) (k * 11+j))) 267) (fun _ x6 _=>(11 - intOf x6).toNat)
   case atStart=>exact ⟨0,om_,rfl,hB,b1⟩
   case round =>
    clear b1 hB
    obtain ⟨j,hj,rfl,hB,b1⟩:=hrel
    by_cases hlj:j < 11
    ·have hlji:(j:Int) < 11:=by omega
     have c1:wr.cell? ⟨w.heap.size,k * 11+j,none⟩=some (.int .i64 0):=by rw [b1.cell,Zdp _ om_];simp [mixT]
     have f1:=b1.free (k * 11+j)
     have l1:=b1.lt
     have hg:fl Zcu (k * 11+j)=if k=j then 0 else 65536:=by rw [Zg6 Zcu hlj];rfl
     by_cases e:k=j
     ·have ei:(k:Int)=(j:Int):=by omega
      have h2:=Zh3 (fl Zcu) (fun _=>0) (k * 11+j)
      rw [hg,if_pos e] at h2
      have h3:(fun i=>if i=k * 11+j then (0:Int) else mixT (fl Zcu) (fun _=>0) (k * 11+j) i)=mixT (fl Zcu) (fun _=>0) (k * 11+j):=by
       funext i
       by_cases hi:i=k * 11+j
       ·simp [hi,mixT]
       ·simp [hi]
      rw [h3] at h2
      rw [h2] at b1
      have B1:=hd_ b1
      clear b1 h2 h3 hg
      subst e
      go_wp2_with fail
      exact ⟨⟨k+1,om_,by go_num,hB,B1.out⟩,by simp [intOf];omega⟩
     ·have ei:¬ (k:Int)=(j:Int):=by omega
      have h2:=b1.set (k * 11+j) (.int .i64 65536)
      rw [Zv7 _ om_] at h2
      have h3:=Zh3 (fl Zcu) (fun _=>0) (k * 11+j)
      rw [hg,if_neg e] at h3
      rw [h3] at h2
      have B1:=hd_ h2
      have HB:Hid (w (wr.setCell ⟨w.heap.size,k * 11+j,none⟩ (.int .i64 65536))):=hB.setCell nl_ _
      clear h2 h3 hg b1 hB
      go_wp2_with fail
      exact ⟨⟨j+1,om_,by go_num,HB.out,B1.out⟩,by simp [intOf];omega⟩
    ·have hlji:¬ (j:Int) < 11:=by omega
     obtain rfl:j=11:=by omega
     go_wp2_with fail
     exact ⟨⟨k+1,om_,by go_num,hB,by rw [show (k+1) * 11=k * 11+11 by omega];exact b1⟩,by simp [intOf];omega⟩
  ·have hlti:¬ (k:Int) < 11:=by omega
   obtain rfl:k=11:=by omega
   rw [show 11 * 11=121 from rfl,Zju] at b1
   clear hlti hlt hk
   have hlti:¬ ((11:Nat):Int) < 11:=by omega
   go_wp2_with (first
    | (refine Za0 267 (.tmp 0) Zaf rfl rfl rfl b1 (Zan _) ?_)
    | (refine Za1 267 (.tmp 0) (.tmp 18) Zaf rfl rfl rfl rfl b1 (Zan _) (Zan _) (Zej _) ?_;intro w6 h6;refine Za2 ?_))
   unfold Stop
   go_wp2
   refine bodyPost_ret (v:=.agg (ts (fl Zcu))) (Za5 rfl _ Zaf rfl h6.blk (Zan _)) rfl ⟨rfl,h6.below hB om_⟩
end Go.Proofs.YtbapgefodmmikaaGreatDoor
