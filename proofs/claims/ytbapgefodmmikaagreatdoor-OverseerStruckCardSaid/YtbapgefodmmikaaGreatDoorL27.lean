/- Parts of a proof. -/
import Derived.Test.YtbapgefodmmikaaGreatDoorLMin
import Derived.Test.YtbapgefodmmikaaGreatDoorL26
set_option linter.unusedVariables false
set_option linter.unusedSimpArgs false
set_option maxHeartbeats 40000000
set_option maxRecDepth 100000
namespace Go.Proofs.YtbapgefodmmikaaGreatDoor
open Go.RowKit Go.Proofs Go.Ord Tryz
attribute [local irreducible] Ord.walk
theorem Zj7 {P:Program}{Q:Exit→Act→World→Prop}{id:Nat}{a:Act}{w:World}{lo:List Oper}(F:Nat) (l:List (Nat × Nat)) (H:World→Prop) (hm:P.follows .mixedOrders=true) (hp:Ord.planOkG F lo.toArray l=true)
  (hH:H w.drew) (h:Ord.walk P lo.toArray H (Ord.Nm Q) l a w.drew):(Code.region id lo.toArray true).wp P Q a w:=by
 refine wp_mono (Ord.wp_regionG (Q:=Ord.Nm Q) F l H hm hp (fun c a d v w h=>h.elim) hH h) ?_
 intro e a w h
 cases e <;> first|exact h|exact h.elim
theorem Zr8 (a b c d e f:Int) (w:World):(Instr.index 395 (.agg #[a,b,c,d,e,f]) ↑()).run prog w=.ok (.agg #[a,b,c]) w:=by kernel_rfl
theorem Zr7 (a b c d e f:Int) (w:World):(Instr.index 395 (.agg #[a,b,c,d,e,f]) (.int .i64 1)).run prog w=.ok (.agg #[d,e,f]) w:=by kernel_rfl
theorem _root_.Qb {p:Prop}(h:p:=by
 rw [hv,Zv7 _ hp,Zh3,← hv] at h2
 have H2:=hd_ h2
 have H4:=hd_ b4
 have H8:=hd_ b8
 have H9:=hd_ b9
 have HB:=hd_ hB
 clear h2 hv b2 b4 b8 b9 hB e1 e2 e3
 go_wp2_with fail
 refine Zj7 9 [(0,0),(1,0),(2,0),(3,0),(4,0),(5,0),(6,0),(7,0),(8,0),(9,0),(10,0),(11,0),(12,0),(13,0),(14,0),(15,0),(16,0),(17,0),(18,0),(19,0),(20,0),(21,0),(22,0),(23,0),(24,0),(25,0),(26,2)] (fun _=>True) kr_ kr_ trivial ?_
 go_wp2_with (first
  | (refine Zbt (.tmp 62) (.tmp 78) rfl rfl rfl rfl ?_)
  | (with_reducible refine Zyp ?_)
  | (with_reducible refine Zyi rfl rfl (fun K hK=>?_))
  | (with_reducible refine Zyh rfl trivial (fun K hK=>?_))
  | (with_reducible refine Zyj ?_)
  | (with_reducible refine Zyf trivial (fun _=>?_)))
 exact ⟨⟨k+1,om_,by go_num,(HB.out.setCell nl_ _).drew,H2.out.drew,(H4.out.other (by simp only;omega) _).drew,(H8.out.other (by simp only;omega) _).drew,(H9.out.other (by simp only;omega) _).drew⟩,by simp [intOf];omega⟩):p:=h
theorem _root_.Q1c {p:Prop}(h:p:=by
 have hlki:¬ (k:Int) < 11:=by omega
 obtain rfl:k=11:=by omega
 rw [show i * 11+11=(i+1) * 11 by omega] at b2
 go_wp2_with fail
 exact ⟨⟨i+1,om_,by go_num,hB,b2,b4,b8,b9⟩,by simp [intOf];omega⟩):p:=h
theorem t_put (t:Tb) (a b:Nat) (lo hi:Int) (ha:a < 11) (hb:b < 11) (hlo : -1000000≤lo∧lo≤1000000) (g:Nat) (w:World) (hg:Blk w g (Zas (a,b,lo,hi)) 270) :
  Calls prog 268 #[.agg (ts (fl t)),.slice g 1 1] w (Zak (.agg (ts (fl (putT t (a,b,lo,hi))))) w):=by
 have hai:(a:Int) < 11:=by omega
 have hbi:(b:Int) < 11:=by omega
 have rg:=hg.cell
 have lg:=hg.lt
 unfold Zas at rg
 simp only at rg
 obtain ⟨T1,hT1⟩:∃ T1,Zgb t a b hi=T1:=⟨_,rfl⟩
 obtain ⟨T2,hT2⟩:∃ T2,Zgb T1 b a (-lo)=T2:=⟨_,rfl⟩
 have hP:putT t (a,b,lo,hi)=T2:=by rw [← hT2,← hT1];rfl
 rw [hP]
 have HT1:=hd_ hT1
 have HT2:=hd_ hT2
 have HG:=hd_ hg
 clear hP hT1 hT2 hg
 have b2:Blk ((w.alloc (.cells (ts (fl t)) 267)).alloc (.cells (ts fun _=>0) 267)) w.heap.size (ts (fl t)) 267:=(Blk.new _ _ _).alloc _
 have b4:Blk ((w.alloc (.cells (ts (fl t)) 267)).alloc (.cells (ts fun _=>0) 267)) (w.heap.size+1) (ts fun _=>0) 267:=Blk.new' _ _ _ _ sp_
 have hB1:w ((w.alloc (.cells (ts (fl t)) 267)).alloc (.cells (ts fun _=>0) 267)):=by exact bel_
 have B2:=hd_ b2
 have B4:=hd_ b4
 have HB1:=hd_ hB1
 clear b2 b4 hB1
 go_enter func268,ntmps268
 go_wp2_with fail
 go_loopw [6,8,9,10,11,14,36,50,53] (fun x6 x8 x9 x10 x11 x14 x36 x50 x53 wr=>∃ n:Nat,n≤1∧x14=↑n∧Below w.heap.size w wr∧Blk wr w.heap.size (ts (fl (if n=0 then t else T2))) 267∧Blk wr (w.heap.size+1) (ts fun _=>0) 267) (fun _ _ _ _ _ x14 _ _ _ _=>(1 - intOf x14).toNat)
 case atStart=>exact ⟨0,om_,rfl,HB1.out,B2.out,B4.out⟩
 case round =>
  clear B2 B4 HB1
  obtain ⟨n,hn,rfl,hB,b2,b4⟩:=hrel
  rcases (show n=0∨n=1 by omega) with rfl|rfl
  ·rw [if_pos rfl] at b2
   have rg2:=fun i=>(HG.out.below hB lg).cell i
   have lg2:g < wr.heap.size:=Nat.lt_of_lt_of_le lg hB.size
   have l2:=b2.lt
   unfold Zas at rg2
   simp only at rg2
   clear rg
   go_wp2_with fail
   have hBx:w (wr.alloc (.cells #[a,b,lo,hi] 270)):=hB.alloc hB.size _
   have b2x:=b2.alloc (.cells #[a,b,lo,hi] 270)
   have b4x:=b4.alloc (.cells #[a,b,lo,hi] 270)
   go_loopw [8,9,10,11,36,50,53] (fun x8 x9 x10 x11 x36 x50 x53 wr=>∃ j:Nat,j≤2∧x36=↑j∧Below w.heap.size w wr∧Blk wr w.heap.size (ts (fl (if j=0 then t else if j=1 then T1 else T2))) 267∧Blk wr (w.heap.size+1) (ts fun _=>0) 267) (fun _ _ _ _ x36 _ _ _=>(2 - intOf x36).toNat)
   case atStart=>exact ⟨0,om_,rfl,hBx,b2x,b4x⟩
   case round =>
    clear hBx b2x b4x b2 b4 hB rg2 lg2 l2
    obtain ⟨j,hj,rfl,hB,b2,b4⟩:=hrel
    have l2:=b2.lt
    have l4:=b4.lt
    rcases (show j=0∨j=1∨j=2 by omega) with rfl|rfl|rfl
    ·rw [if_pos rfl] at b2
     have hix:=fun W=>Zr8 a b hi b a (-lo) W
     go_wp2_with fail
     obtain ⟨w3,hw3⟩:∃ w3,wr.alloc (.cells #[a,b,hi] 394)=w3:=⟨_,rfl⟩
     rw [hw3]
     have b23:Blk w3 w.heap.size (ts (fl t)) 267:=by rw [← hw3];exact b2.alloc _
     have b43:Blk w3 (w.heap.size+1) (ts fun _=>0) 267:=by rw [← hw3];exact b4.alloc _
     have b83:Blk w3 wr.heap.size #[a,b,hi] 394:=by rw [← hw3];exact Blk.new _ _ _
     have hB3:Below w.heap.size w w3:=by rw [← hw3];exact hB.alloc hB.size _
     have hN8:w.heap.size+1 < wr.heap.size:=l4
     obtain ⟨x,hx⟩:∃ x,t a b=x:=⟨_,rfl⟩
     have c2:w3.cell? ⟨w.heap.size,a * 11+b,none⟩=some (.int .i64 x):=by rw [b23.cell,Zdp _ om_,Zg6 t hb,hx]
     have l23:=b23.lt
     have l43:=b43.lt
     have l83:=b83.lt
     have r83:=b83.cell
     clear hw3 hix b2 b4 hB l2 l4
     refine Zyu [(0,0),(1,0),(2,0),(3,0),(4,0),(5,0),(6,0),(7,0),(8,0),(9,0)] (fun _=>True) kr_ kr_ trivial ?_
     by_cases hle:x≤hi
     ·have hR:T1=t:=by rw [← HT1.out];unfold Zgb;rw [hx,if_pos hle]
      go_wp2_with (first
       | (with_reducible refine Zyp ?_)
       | (refine o_ ?_;intro K hK)|(with_reducible first|refine Zyo ?_ ?_|refine Zyj ?_|refine Zyf bn_ (fun _=>?_)))
      exact ⟨⟨0+1,om_,rfl,hB3.drew,by simpa [hR] using b23.drew,b43.drew⟩,by simp [intOf]⟩
     ·have b23d:=b23.drew
      go_wp2_with (first
       | (with_reducible refine Zyp ?_)
       | (refine Za0 267 (.tmp 2) Zaf rfl rfl rfl b23d (Zan _) ?_)
       | (refine Za1 267 (.tmp 9) (.tmp 49) Zaf rfl rfl rfl rfl (Blk.new _ _ _) rfl (Zan _) (Zej _) ?_;intro w4 h4;refine Za2 ?_)
       | (refine o_ ?_;intro K hK)|(with_reducible first|refine Zyo ?_ ?_|refine Zyj ?_|refine Zyf bn_ (fun _=>?_)))
      unfold Stop
      have hO:∀ i k,T1 i k=min (t i k) (wrap64 (wrap64 (t i a+hi)+t b k)):=fun i k=>by rw [← HT1.out];unfold Zgb;rw [hx,if_neg om_]
      have hs3:wr.heap.size < w3.heap.size:=l83
      have b9:Blk w4 w3.heap.size (ts (fl t)) 267:=h4.blk
      have b24:=h4.other (b23d.alloc _) om_
      have b44:=h4.other (b43.drew.alloc _) om_
      have b84:=h4.other (b83.drew.alloc _) om_
      have hB4:w w4:=h4.below (hB3.drew.alloc hB3.size _) hB3.size
      generalize hp9:w3.heap.size=p9 at *
      generalize hp8:wr.heap.size=p8 at *
      clear h4 b23 b43 b83 hB3 c2 l23 l43 l83 r83 b23d
      go_wp2_with fail
      go_loopw [10,11,50,53] (fun x10 x11 x50 x53 wr=>∃ i:Nat,i≤11∧x50=.int .i64 (i:Int)∧Below w.heap.size w wr∧Blk wr w.heap.size (ts (mixT (fl T1) (fl t) (i * 11))) 267∧Blk wr (w.heap.size+1) (ts fun _=>0) 267∧Blk wr p8 #[a,b,hi] 394∧Blk wr p9 (ts (fl t)) 267) (fun _ _ x50 _ _=>(11 - intOf x50).toNat)
      case atStart=>exact ⟨0,om_,rfl,hB4,by rw [Nat.zero_mul,Zjt];exact b24,b44,b84,b9⟩
      case round =>
       clear hB4 b24 b44 b84 b9
       obtain ⟨i,hi1,rfl,hB,b2,b4,b8,b9⟩:=hrel
       by_cases hlt:i < 11
       ·have hlti:(i:Int) < 11:=by omega
        go_wp2_with fail
        go_loopw [11,53] (fun x11 x53 wr=>∃ k:Nat,k≤11∧x53=.int .i64 (k:Int)∧Below w.heap.size w wr∧Blk wr w.heap.size (ts (mixT (fl T1) (fl t) (i * 11+k))) 267∧Blk wr (w.heap.size+1) (ts fun _=>0) 267∧Blk wr p8 #[a,b,hi] 394∧Blk wr p9 (ts (fl t)) 267) (fun _ x53 _=>(11 - intOf x53).toNat)
        case atStart=>exact ⟨0,om_,rfl,hB,b2,b4,b8,b9⟩
        case round =>
         clear hB b2 b4 b8 b9
         obtain ⟨k,hk,rfl,hB,b2,b4,b8,b9⟩:=hrel
         by_cases hlk:k < 11
         ·have hlki:(k:Int) < 11:=by omega
          have hp:i * 11+k < 121:=by omega
          obtain ⟨x1,e1⟩:∃ x1,t i k=x1:=⟨_,rfl⟩
          obtain ⟨x2,e2⟩:∃ x2,t i a=x2:=⟨_,rfl⟩
          obtain ⟨x3,e3⟩:∃ x3,t b k=x3:=⟨_,rfl⟩
          have c1:wr.cell? ⟨p9,i * 11+k,none⟩=some (.int .i64 x1):=by rw [b9.cell,Zdp _ hp,Zg6 t hlk,e1]
          have c2:wr.cell? ⟨p9,i * 11+a,none⟩=some (.int .i64 x2):=by rw [b9.cell,Zdp _ om_,Zg6 t ha,e2]
          have c3:wr.cell? ⟨p9,b * 11+k,none⟩=some (.int .i64 x3):=by rw [b9.cell,Zdp _ om_,Zg6 t hlk,e3]
          have c4:wr.cell? ⟨w.heap.size,i * 11+k,none⟩=some (.int .i64 x1):=by rw [b2.cell,Zdp _ hp];simp only [mixT,Nat.lt_irrefl,if_false];rw [Zg6 t hlk,e1]
          have f2:=b2.free (i * 11+k)
          have l2:=b2.lt
          have l9:=b9.lt
          have l8:=b8.lt
          have r8:=b8.cell
          have hv:min x1 (wrap64 (wrap64 (x2+hi)+x3))=fl T1 (i * 11+k):=by rw [Zg6 T1 hlk,hO,e1,e2,e3]
          have h2:=b2.set (i * 11+k) (.int .i64 (min x1 (wrap64 (wrap64 (x2+hi)+x3))))
          exact Qb
         ·exact Q1c
       ·have hlti:¬ (i:Int) < 11:=by omega
        obtain rfl:i=11:=by omega
        rw [show 11 * 11=121 from rfl,Zju] at b2
        go_wp2_with fail
        exact ⟨⟨_,_,_,_,_,⟨0+1,om_,rfl,by simpa using b2⟩,rfl,rfl,rfl,rfl,rfl⟩,by first|(simp [intOf];done)|(simp [intOf];omega)⟩
    ·rw [if_neg om_,if_pos rfl] at b2
     have hix:=fun W=>Zr7 a b hi b a (-lo) W
     go_wp2_with fail
     obtain ⟨w3,hw3⟩:∃ w3,wr.alloc (.cells #[b,a,.int .i64 (-lo)] 394)=w3:=⟨_,rfl⟩
     rw [hw3]
     have b23:Blk w3 w.heap.size (ts (fl T1)) 267:=by rw [← hw3];exact b2.alloc _
     have b43:Blk w3 (w.heap.size+1) (ts fun _=>0) 267:=by rw [← hw3];exact b4.alloc _
     have b83:Blk w3 wr.heap.size #[b,a,.int .i64 (-lo)] 394:=by rw [← hw3];exact Blk.new _ _ _
     have hB3:Below w.heap.size w w3:=by rw [← hw3];exact hB.alloc hB.size _
     have hN8:w.heap.size+1 < wr.heap.size:=l4
     obtain ⟨x,hx⟩:∃ x,T1 b a=x:=⟨_,rfl⟩
     have c2:w3.cell? ⟨w.heap.size,b * 11+a,none⟩=some (.int .i64 x):=by rw [b23.cell,Zdp _ om_,Zg6 T1 ha,hx]
     have l23:=b23.lt
     have l43:=b43.lt
     have l83:=b83.lt
     have r83:=b83.cell
     clear hw3 hix b2 b4 hB l2 l4
     refine Zyu [(0,0),(1,0),(2,0),(3,0),(4,0),(5,0),(6,0),(7,0),(8,0),(9,0)] (fun _=>True) kr_ kr_ trivial ?_
     by_cases hle:x≤(-lo)
     ·have hR:T2=T1:=by rw [← HT2.out];unfold Zgb;rw [hx,if_pos hle]
      go_wp2_with (first
       | (with_reducible refine Zyp ?_)
       | (refine o_ ?_;intro K hK)|(with_reducible first|refine Zyo ?_ ?_|refine Zyj ?_|refine Zyf bn_ (fun _=>?_)))
      exact ⟨⟨1+1,om_,rfl,hB3.drew,by simpa [hR] using b23.drew,b43.drew⟩,by simp [intOf]⟩
     ·have b23d:=b23.drew
      go_wp2_with (first
       | (with_reducible refine Zyp ?_)
       | (refine Za0 267 (.tmp 2) Zaf rfl rfl rfl b23d (Zan _) ?_)
       | (refine Za1 267 (.tmp 9) (.tmp 49) Zaf rfl rfl rfl rfl (Blk.new _ _ _) rfl (Zan _) (Zej _) ?_;intro w4 h4;refine Za2 ?_)
       | (refine o_ ?_;intro K hK)|(with_reducible first|refine Zyo ?_ ?_|refine Zyj ?_|refine Zyf bn_ (fun _=>?_)))
      unfold Stop
      have hO:∀ i k,T2 i k=min (T1 i k) (wrap64 (wrap64 (T1 i b+(-lo))+T1 a k)):=fun i k=>by rw [← HT2.out];unfold Zgb;rw [hx,if_neg om_]
      have hs3:wr.heap.size < w3.heap.size:=l83
      have b9:Blk w4 w3.heap.size (ts (fl T1)) 267:=h4.blk
      have b24:=h4.other (b23d.alloc _) om_
      have b44:=h4.other (b43.drew.alloc _) om_
      have b84:=h4.other (b83.drew.alloc _) om_
      have hB4:w w4:=h4.below (hB3.drew.alloc hB3.size _) hB3.size
      generalize hp9:w3.heap.size=p9 at *
      generalize hp8:wr.heap.size=p8 at *
      clear h4 b23 b43 b83 hB3 c2 l23 l43 l83 r83 b23d
      go_wp2_with fail
      go_loopw [10,11,50,53] (fun x10 x11 x50 x53 wr=>∃ i:Nat,i≤11∧x50=.int .i64 (i:Int)∧Below w.heap.size w wr∧Blk wr w.heap.size (ts (mixT (fl T2) (fl T1) (i * 11))) 267∧Blk wr (w.heap.size+1) (ts fun _=>0) 267∧Blk wr p8 #[b,a,.int .i64 (-lo)] 394∧Blk wr p9 (ts (fl T1)) 267) (fun _ _ x50 _ _=>(11 - intOf x50).toNat)
      case atStart=>exact ⟨0,om_,rfl,hB4,by rw [Nat.zero_mul,Zjt];exact b24,b44,b84,b9⟩
      case round =>
       clear hB4 b24 b44 b84 b9
       obtain ⟨i,hi1,rfl,hB,b2,b4,b8,b9⟩:=hrel
       by_cases hlt:i < 11
       ·have hlti:(i:Int) < 11:=by omega
        go_wp2_with fail
        go_loopw [11,53] (fun x11 x53 wr=>∃ k:Nat,k≤11∧x53=.int .i64 (k:Int)∧Below w.heap.size w wr∧Blk wr w.heap.size (ts (mixT (fl T2) (fl T1) (i * 11+k))) 267∧Blk wr (w.heap.size+1) (ts fun _=>0) 267∧Blk wr p8 #[b,a,.int .i64 (-lo)] 394∧Blk wr p9 (ts (fl T1)) 267) (fun _ x53 _=>(11 - intOf x53).toNat)
        case atStart=>exact ⟨0,om_,rfl,hB,b2,b4,b8,b9⟩
        case round =>
         clear hB b2 b4 b8 b9
         obtain ⟨k,hk,rfl,hB,b2,b4,b8,b9⟩:=hrel
         by_cases hlk:k < 11
         ·have hlki:(k:Int) < 11:=by omega
          have hp:i * 11+k < 121:=by omega
          obtain ⟨x1,e1⟩:∃ x1,T1 i k=x1:=⟨_,rfl⟩
          obtain ⟨x2,e2⟩:∃ x2,T1 i b=x2:=⟨_,rfl⟩
          obtain ⟨x3,e3⟩:∃ x3,T1 a k=x3:=⟨_,rfl⟩
          have c1:wr.cell? ⟨p9,i * 11+k,none⟩=some (.int .i64 x1):=by rw [b9.cell,Zdp _ hp,Zg6 T1 hlk,e1]
          have c2:wr.cell? ⟨p9,i * 11+b,none⟩=some (.int .i64 x2):=by rw [b9.cell,Zdp _ om_,Zg6 T1 hb,e2]
          have c3:wr.cell? ⟨p9,a * 11+k,none⟩=some (.int .i64 x3):=by rw [b9.cell,Zdp _ om_,Zg6 T1 hlk,e3]
          have c4:wr.cell? ⟨w.heap.size,i * 11+k,none⟩=some (.int .i64 x1):=by rw [b2.cell,Zdp _ hp];simp only [mixT,Nat.lt_irrefl,if_false];rw [Zg6 T1 hlk,e1]
          have f2:=b2.free (i * 11+k)
          have l2:=b2.lt
          have l9:=b9.lt
          have l8:=b8.lt
          have r8:=b8.cell
          have hv:min x1 (wrap64 (wrap64 (x2+(-lo))+x3))=fl T2 (i * 11+k):=by rw [Zg6 T2 hlk,hO,e1,e2,e3]
          have h2:=b2.set (i * 11+k) (.int .i64 (min x1 (wrap64 (wrap64 (x2+(-lo))+x3))))
          exact Qb
         ·exact Q1c
       ·have hlti:¬ (i:Int) < 11:=by omega
        obtain rfl:i=11:=by omega
        rw [show 11 * 11=121 from rfl,Zju] at b2
        go_wp2_with fail
        exact ⟨⟨_,_,_,_,_,⟨1+1,om_,rfl,by simpa using b2⟩,rfl,rfl,rfl,rfl,rfl⟩,by first|(simp [intOf];done)|(simp [intOf];omega)⟩
    ·rw [if_neg om_,if_neg om_] at b2
     go_wp2_with fail
     exact ⟨⟨1,om_,rfl,hB,by simpa using b2,b4⟩,by simp [intOf]⟩
  ·rw [if_neg om_] at b2
   go_wp2_with (first
    | (refine Za0 267 (.tmp 2) Zaf rfl rfl rfl b2 (Zan _) ?_)
    | (refine Za1 267 (.tmp 4) (.tmp 86) Zaf rfl rfl rfl rfl b4 (Zan _) (Zan _) (Zej _) ?_;intro w6 h6;refine Za2 ?_))
   unfold Stop
   go_wp2
   refine bodyPost_ret (v:=.agg (ts (fl T2))) (Za5 rfl _ Zaf rfl h6.blk (Zan _)) rfl ⟨rfl,h6.below hB om_⟩
end Go.Proofs.YtbapgefodmmikaaGreatDoor
namespace Go.Proofs.YtbapgefodmmikaaGreatDoor
open Go.RowKit Go.Proofs Go.Ord Tryz
attribute [local irreducible] Ord.walk
attribute [local go_sem] Oper.semAt_some
open Go.MapG
theorem Ztd {t:Ty}{set:Nat}{k:Nat}(h:k < (Zb7 t set).length):((Zb7 t set).take (k+1)).foldl putT Zcu=putT (((Zb7 t set).take k).foldl putT Zcu) (Zb7 t set)[k]:=by
 rw [List.take_succ_eq_append_getElem h,List.foldl_append]
 rfl
theorem Zmo:(zeroCells267).size=121:=by kernel_rfl
theorem Zks:zeroCells267=ts (fun _=>0):=by kernel_rfl
theorem Zmt {W0:World}{Y:Nat}{t:Ty}{sa:Option Addr}{sc:Nat}{ca:Option Addr}{cc mb:Nat}(hO:Zbj W0 Y t sa sc ca cc mb) (s:Nat) (hT:TyIn t s) (set:Nat) (hset:set < 256) (w:World) (hw:LnT W0 mb t w) :
  Calls prog 204 #[.pointer Y,.int .u64 (set:Int)] w (Zkl W0 mb t (.agg (ts (fl (Zaa t set)))) w):=by
 have hmb:=hO.mb_lt
 have hY:=hO.Y_lt
 have hYm:=hO.Y_ne
 have hsz:=hw.2.size
 have hkx:okT set:=hset
 have hwL:=hw
 obtain ⟨⟨l,hm,hok,hgood⟩,hL0⟩:=hw
 obtain ⟨G,hb,hlook,hG⟩:=look_T (mb:=mb) hok hgood hkx
 have HBd:Hid (∀ x∈Zb7 t set,BdIn x):=Zxk hT set
 have HSq:=hd_ (fun (W:World) (tb l:Nat) (hy:YardAt W Y t sa sc ca cc mb) h0 h1 XR hXo hX=>Zug s hT set hset tb l W hy h0 h1 XR hXo hX)
 have HSt:=hd_ (fun (k:Nat) (h:k < (Zb7 t set).length)=>Ztd (t:=t) (set:=set) (k:=k) h)
 have ER:Hid ((Zb7 t set).foldl putT Zcu=Zaa t set):=rfl
 obtain ⟨R,eR⟩:∃ R,Zaa t set=R:=⟨_,rfl⟩
 rw [eR] at ER hG
 rw [eR]
 have HKR:Hid (Zaa t set=R):=eR
 clear eR
 have HLook:=hd_ hlook
 have HG:=hd_ hG
 have HOk:=hd_ hok
 have HGood:=hd_ hgood
 clear hlook hG hok hgood
 have hTab:=hO.at_ (W:=w) ⟨⟨l,hm,HOk.out,HGood.out⟩,hL0⟩
 have HTab:=hd_ (fun W (hb:Below w.heap.size w W)=>hTab.below hb)
 have bT:=hTab.blk
 have rT:=bT.cell
 have lT:=bT.lt
 unfold Ze5 at rT
 refine callsIn_wide.1 (callsIn_of_wp_marks (F:=Fence.wide) (n:=0) func204 rfl trivial (wpIn_wide.2 ?_) rfl)
 simp only [ntmps204,List.size_toArray,List.length_cons,List.length_nil,Nat.reduceAdd,Nat.reduceSub,Array.replicate_succ,Array.replicate_zero,List.push_toArray,List.append_toArray,List.nil_append,List.cons_append]
 go_upto_region 1 with fail
 obtain ⟨w1,hw1⟩:∃ w1,w.alloc (.cells zeroCells267 267)=w1:=⟨_,rfl⟩
 rw [hw1]
 have b4:Blk w1 w.heap.size (ts fun _=>0) 267:=by rw [← hw1,Zks];exact Blk.new _ _ _
 have hB1:Below w.heap.size w w1:=by rw [← hw1];exact bel_
 have hs1:w1.heap.size=w.heap.size+1:=by rw [← hw1];simp
 have hm1:MapAt kfT vfT w1 mb l:=hm.below hB1 om_
 have hTab1:=(hO.at_ (W:=w1) (hwL.below hB1 hmb))
 have rT1:=hTab1.blk.cell
 have lT1:=hTab1.blk.lt
 unfold Ze5 at rT1
 have hlk:=HLook.out w1 hm1
 unfold kfT at hlk
 clear hw1 rT lT bT hTab hm
 generalize hN:w.heap.size=N at *
 have HN:=hd_ hN
 clear hN
 go_wp2_with (first
  | (refine Za1 267 (.tmp 5) (.tmp 18) Zaf rfl rfl rfl rfl (Blk.new' _ _ _ _ (by simp [hs1])) Zmo (Zan _) (Zej _) ?_;intro w5 h5;have hb15:=h5.below ((Below.refl w1.heap.size w1).alloc nl_ _) om_;refine Za2 ?_))
 unfold Stop
 have b5:=h5.blk
 have b45:=b4.below hb15 b4.lt
 have hB5:Below N w w5:=hB1.trans (hb15.mono om_)
 have hs5:w5.heap.size=N+2:=by rw [h5.size];simp [hs1]
 have hLn5:LnT W0 mb t w5:=hwL.below (by rw [HN.out];exact hB5) hmb
 clear h5 hb15 b4 hB1 hm1 hTab1 rT1 lT1 hlk HLook hs1
 cases hb
 case true =>
  go_wp2_with (first
   | (refine Za0 267 (.tmp 5) Zaf rfl rfl rfl b5 (Zan _) ?_)
   | (refine Za1 267 (.tmp 4) (.tmp 21) Zaf rfl rfl rfl rfl b45 (Zan _) (Zan _) (Zej _) ?_;intro w6 h6))
  have hB6:Below w.heap.size w w6:=by rw [HN.out];exact h6.below hB5 om_
  rw [← HG.out sp_]
  refine Zvn (v:=.agg (ts G)) rfl (Za5 rfl _ Zaf rfl h6.blk (Zan _)) ⟨rfl,hwL.below hB6 hmb,Lets.of_below hB6⟩
 case false =>
  have HE:=hd_ (fun W=>t_empty W)
  have HBo:=hd_ (fun W=>t_bounds Y set W)
  go_wp2_with (first
   | (go_at_call 267;refine (HE.out _).mono ?_;rintro e w6 ⟨rfl,hb6⟩;refine Za2 ?_))
  unfold Stop
  have hs6:=hb6.size
  have b46:=b45.below hb6 om_
  have hB6:Below N w w6:=hB5.trans (hb6.mono om_)
  clear hb6 b5 HE HG HOk HGood
  generalize hp7:w6.heap.size=p7 at *
  have hsf:∀ (a:Addr) (fn:Fn) (x y:Array Value) (m:Mode) (w:World),(store a (.func fn x y) m).run prog w=stored prog w a (.func fn x y) m:=fun a fn x y m w=>run_store prog w a _ m rfl
  go_wp2_with (first
   | (refine Za1 267 (.tmp 7) (.tmp 22) Zaf rfl rfl rfl rfl (Blk.new' _ _ _ _ (by simp [hp7])) Zmo (Zan _) (Zej _) ?_;intro w7 h7;refine Za2 ?_))
  unfold Stop
  have b7:=h7.blk
  have hs7:w7.heap.size=p7+1:=by rw [h7.size];simp [hp7]
  have hB7:Below N w w7:=h7.below (hB6.alloc om_ _) om_
  have b47:=h7.other (b46.alloc _) om_
  clear h7 b46 hB6 hp7
  go_wp2_with (first
   | (go_at_call 269;refine (HBo.out _).mono ?_;rintro e w9 ⟨rfl,hw9⟩;refine Za2 ?_))
  unfold Stop
  obtain ⟨w9,hw9⟩:∃ w9,(((w7.alloc (.cells #[.func (.func 268) #[] #[]] 351)).alloc (.cells #[.pointer Y] 161)).alloc (.cells #[.int .u64 (set:Int)] 151))=w9:=⟨_,rfl⟩
  rw [hw9]
  have hb79:Below w7.heap.size w7 w9:=by rw [← hw9];exact bel_
  have hs9:w9.heap.size=p7+4:=by rw [← hw9];simp [hs7]
  have b8:Blk w9 (p7+1) #[.func (.func 268) #[] #[]] 351:=by rw [← hw9,← hs7];exact ((Blk.new _ _ _).alloc _).alloc _
  have bY9:Blk w9 (p7+2) #[.pointer Y] 161:=by rw [← hw9];exact (Blk.new' _ _ _ _ (by simp [hs7])).alloc _
  have bS9:Blk w9 (p7+2+1) #[.int .u64 (set:Int)] 151:=by rw [← hw9];exact Blk.new' _ _ _ _ (by simp [hs7])
  have b79:=b7.below hb79 b7.lt
  have b49:=b47.below hb79 b47.lt
  have hB9:Below N w w9:=hB7.trans (hb79.mono om_)
  clear hw9 hb79 b7 b47 hB7 hs7
  go_wp2_with fail
  refine (wpIn_wide (n:=0)).1 (Zcq (encs:=fun x=>#[.agg (Zas x)]) (xs:=Zb7 t set) (XI:=fun _ _=>False) (XB:=fun k _=>k=p7) (Mid:=fun _=>True)
   (fun k A=>Blk A p7 (ts (fl (((Zb7 t set).take k).foldl putT Zcu))) 267∧Lets (fun k _=>k=p7∨p7+4≤k) w9 A)
   (fun _ _=>False)
   rfl call303 (fun _=>rfl)
   (fun W1 hb1 hs1=>HSq.out W1 (p7+2) _ (HTab.out W1 (hB9.trans (hb1.mono om_))) (bY9.below hb1 om_) (bS9.below hb1 om_) _ (fun k o e=>om_) (fun wr hl=>by
    have hl2:Lets (fun k _=>k=p7∨p7+4≤k) w9 wr:=(Lets.of_below hb1).trans (hl.mono fun _ _ e=>om_)
    exact ⟨HTab.out wr (Za3 hB9 hl2 (by have:=HN.out;omega) (fun _ _ _=>om_)),hl2.blk bY9 om_,hl2.blk bS9 om_⟩))
   (fun j o h1 h2 e=>e) (fun j o h1 h2 e=>om_)
   (fun k A B h hl=>⟨hl.blk h.1 (fun e=>e),h.2.trans (hl.mono fun _ _ e=>e.elim)⟩)
   (fun c A B h hl=>h)
   (fun k A B h hl=>⟨hl.blk h.1 (fun e=>om_),h.2.trans (hl.mono fun _ _ e=>om_)⟩)
   (fun c A B h hl=>h)
   (fun A B h hl=>trivial) ⟨b79,Lets.refl _ _⟩ ?round ?done ?stop)
  case stop =>
   intro c W h
   exact h.elim
  case round =>
   intro k hk A' hI' _ hsz hrec
   have hst:=HSt.out k hk
   have hbd:=HBd.out _ (List.getElem_mem hk)
   rw [hst]
   clear hst hI'
   generalize ((Zb7 t set).take k).foldl putT Zcu=TB at *
   generalize (Zb7 t set)[k]=x at *
   obtain ⟨x1,x2,x3,x4⟩:=x
   have HPt:Hid (∀ g W,Blk W g (Zas (x1,x2,x3,x4)) 270→Calls prog 268 #[.agg (ts (fl TB)),.slice (some ⟨g,0,none⟩) 1 1] W (Zak (.agg (ts (fl (putT TB (x1,x2,x3,x4))))) W)):=fun g W hg=>t_put TB x1 x2 x3 x4 hbd.1 hbd.2.1 ⟨hbd.2.2.1,hbd.2.2.2⟩ g W hg
   generalize putT TB (x1,x2,x3,x4)=TB2 at *
   unfold Zas at *
   unfold Zcp
   gi_wp2_with fail
   refine ⟨(Lets.refl _ _).alloc _,fun W₂ hl2 hs2 bT hLt=>?_⟩
   have b4:Blk W₂ A'.heap.size #[x1,x2,x3,x4] 270:=hl2.blk (Blk.new _ _ _) om_
   clear hl2 hs2 hk hrec
   have hl4:=b4.lt
   have r4:=b4.cell
   have lT:=bT.lt
   have b8W:=hLt.blk b8 om_
   have r8:=b8W.cell
   have l8:=b8W.lt
   generalize A'.heap.size=t4 at *
   (repeat (first|((with_reducible refine Za8 ?_ ?_ ?_);(focus exact fun ⟨_,_,h⟩=>h);(focus rfl))|gi_step))
   go_wp2_with (first
    | (refine Za0 267 (.tmp 7) Zaf rfl rfl rfl bT (Zan _) ?_)
    | (go_at_call 268;refine (HPt.out _ _ (Blk.new _ _ _)).mono ?_;rintro e w5 ⟨rfl,hb5⟩;refine Za2 ?_))
   unfold Stop
   have hb25:Below W₂.heap.size W₂ w5:=((Below.refl _ W₂).alloc nl_ _).trans (hb5.mono sp_)
   have bT5:=bT.below hb25 lT
   clear hb5 r4 r8
   go_wp2_with (first
    | (refine Za1 267 (.tmp 7) (.tmp 31) Zaf rfl rfl rfl rfl bT5 (Zan _) (Zan _) (Zej _) ?_;intro w6 h6))
   gi_wp2_with fail
   have hl6:Lets (fun k _=>k=p7) W₂ w6:=(Lets.of_below hb25).trans ((Lets.refl _ _).rowed h6 rfl)
   exact ⟨hl6,trivial,h6.blk,hLt.trans (hl6.mono fun _ _ e=>.inl e)⟩
  case done =>
   intro W hI' _ hDM
   obtain ⟨bT,hLt⟩:=hI'
   rw [List.take_length,ER.out] at bT
   have b4W:=hLt.blk b49 om_
   have hBW:Below N w W:=Za3 hB9 hLt (by have:=HN.out;omega) (fun _ _ _=>om_)
   have hLnW:LnT W0 mb t W:=hwL.below (by rw [HN.out];exact hBW) hmb
   have hYW:=HTab.out W hBW
   have hsW:=lt_of_block hDM
   have rY:=hYW.blk.cell
   have lY:=hYW.blk.lt
   unfold Ze5 at rY
   obtain ⟨⟨l2,hm2,hok2,hgood2⟩,hL2⟩:=hLnW
   simp only [Exit.inBlock,Exit.then]
   go_wp2_with fail
   refine Zyu [(0,0),(1,0),(2,0),(3,0),(4,0),(5,0),(6,0),(7,2)] (fun _=>True) kr_ kr_ trivial ?_
   go_wp2_with (first
    | (with_reducible refine Zyp ?_)
    | (refine Za0 267 (.tmp 7) Zaf rfl rfl rfl bT.drew (Zan _) ?_)
    | (refine Zby kt_mt (.tmp 35) (.tmp 37) (.tmp 38) rfl (.inl rfl) rfl (n:=set) rfl (v:=R) rfl hm2.drew hok2 hkx ?_;intro w12 ht12 hm12;refine Za2 ?_)
    | (refine o_ ?_;intro K hK)|(with_reducible first|refine Zyo ?_ ?_|refine Zyj ?_|refine Zyf bn_ (fun _=>?_)))
   unfold Stop
   have hk12:KeptT w12 mb t:=⟨_,hm12,hok2.put hkx _,fun p hp=>by
    rcases mem_putT hp with rfl|hp
    ·exact HKR.out.symm
    ·exact hgood2 _ hp⟩
   have hlt12:Lets (fun k _=>k=mb) W w12:=⟨(ht12.below (Below.refl mb _) nl_).os,(ht12.below (Below.refl mb _) nl_).tape,(ht12.below (Below.refl mb _) nl_).output,by have:=ht12.size;show W.heap.size≤_;rw [this];exact Nat.le_refl _,fun k _ hk=>ht12.other hk⟩
   have hmN:mb < N:=by omega
   have bT12:=hlt12.blk bT om_
   have b412:=hlt12.blk b4W om_
   have hD12:w12.heap[w9.heap.size]? = some (.deferred (some [])):=(hlt12.block _ hsW om_).trans hDM
   have hl012:Lets (fun k _=>k=mb) w w12:=(Lets.of_below (by rw [HN.out];exact hBW)).trans hlt12
   go_wp2_with (first
    | (refine Za0 267 (.tmp 7) Zaf rfl rfl rfl bT12 (Zan _) ?_)
    | (refine Za1 267 (.tmp 4) (.tmp 39) Zaf rfl rfl rfl rfl b412 (Zan _) (Zan _) (Zej _) ?_;intro w13 h13)
    | (with_reducible refine Zyp ?_)
    | (refine o_ ?_;intro K hK)|(with_reducible first|refine Zyo ?_ ?_|refine Zyj ?_|refine Zyf bn_ (fun _=>?_)))
   have hl13:Lets (fun k _=>k=N) w12 w13:=(Lets.refl _ _).rowed h13 rfl
   have hD13:w13.heap[w9.heap.size]? = some (.deferred (some [])):=(hl13.block _ (lt_of_block hD12) om_).trans hD12
   refine Zbu (v:=.agg (ts (fl R))) rfl (by rw [← hs9];exact hD13) fun w' hl hs=>?_
   have hl14:Lets (fun k _=>N≤k) w12 w':=(hl13.mono fun _ _ e=>om_).trans (hl.mono fun _ _ e=>om_)
   have hfin:Lets (fun k _=>k=mb) w w':=hl012.next hl14 (fun i hi _ e=>by have:=HN.out;omega)
   exact ⟨Za5 rfl _ Zaf rfl (Zc8 h13.blk hl (fun _=>om_)) (Zan _),rfl,⟨hk12.lets hl14 (fun _=>om_),hL0.trans hfin⟩,hfin⟩
end Go.Proofs.YtbapgefodmmikaaGreatDoor
namespace Go.Proofs.YtbapgefodmmikaaGreatDoor
open Go.RowKit Go.Proofs Go.Ord Tryz
attribute [local irreducible] Ord.walk
def Zbw (t:Ty) (isB:Bool) (sa:Option Addr) (sc:Nat) (ca:Option Addr) (cc:Nat) (w:World) (e:Ending) (w':World):Prop :=
 if tyOk t=false then Zkk 1 w e w' else if isB=false then Zkk 2 w e w'
 else ∃ Y mb,e=.returned (.pointer (some ⟨Y,0,none⟩))∧w w'∧Zbj w' Y t sa sc ca cc mb∧w.heap.size≤Y∧w.heap.size≤mb
theorem Zcb {t:Ty}(h:tyOk t=true):TyIn t t.sh.toNat:=by
 simp only [tyOk,Bool.and_eq_true,decide_eq_true_eq,List.all_eq_true] at h
 obtain ⟨⟨⟨⟨⟨h1,h2⟩,h3⟩,h4⟩,h5⟩,h6⟩:=h
 have e:t.sh=((t.sh.toNat:Nat):Int):=by omega
 exact ⟨e,om_,om_,h2,om_,h4,h5,fun c hc=>by rw [← e];exact h6 c hc⟩
def Zeu (s:Int × Int):Bool:=decide (-3≤s.1∧s.1≤s.2∧s.2≤3)
theorem Ztc {t:Ty}{k:Nat}(hk:k < t.strays.length) (h:Zeu t.strays[k]=false):tyOk t=false:=by
 cases hc:tyOk t with
 | false=>rfl
 | true =>
  have:=(Zcb hc).spans _ (List.getElem_mem hk)
  rw [show Zeu t.strays[k]=true from decide_eq_true this] at h
  cases h
theorem Zv6 {t:Ty}{k:Nat}(hk:k < t.calls.length) (h:Zcv t.sh t.calls[k]=false):tyOk t=false:=by
 cases hc:tyOk t with
 | false=>rfl
 | true =>
  have:=Zcb hc
  have h2:=this.call _ (List.getElem_mem hk)
  rw [← this.sh,h] at h2
  cases h2
def Zwo (t:Ty):Prop:=(1≤t.sh∧t.sh≤5)∧(0≤t.most∧t.most≤60)∧((t.strays.length:Int)=t.sh - 1)∧(t.calls.length:Int)≤8
theorem tyOk_all {t:Ty}(h:Zwo t) (h5:t.strays.all Zeu=true) (h6:t.calls.all (Zcv t.sh)=true):tyOk t=true:=by
 obtain ⟨h1,h2,h3,h4⟩:=h
 simp only [tyOk,Bool.and_eq_true,decide_eq_true_eq]
 exact ⟨⟨⟨⟨⟨h1,h2⟩,h3⟩,om_⟩,h5⟩,h6⟩
theorem Zv5 {t:Ty}(h:¬ Zwo t):tyOk t=false:=by
 cases hc:tyOk t with
 | false=>rfl
 | true =>
  have:=Zcb hc
  exact absurd ⟨by have h1:=this.sh;have h2:=this.one;have h3:=this.five;omega,this.most,by have h1:=this.sh;have h2:=this.strays;have h3:=this.one;omega,by have h1:=this.calls;omega⟩ h
theorem _root_.Qi {p:Prop}(h:p:=by
 go_enter func106,ntmps106
 go_wp2_with (first
  | (go_at_call 196;refine (HW.out _ _ _ _).mono ?_;rintro e w2 ⟨rfl,rfl⟩)
  | (go_at_call 195;refine (HN.out _ _).mono ?_;rintro e w3 ⟨rfl,rfl⟩))
 exact ⟨rfl,rfl,HBel.out⟩):p:=h
theorem Zvb (t:Ty) (sa:Option Addr) (sc:Nat) (ca:Option Addr) (cc:Nat) (f:Value) (w:World) (hls:t.strays.length≤9223372036854775807) (hlc:t.calls.length≤9223372036854775807)
  (hh:¬ Zwo t) :
  Calls prog 106 #[.agg (tyV t sa sc ca cc),f] w (Zkk 1 w):=by
 have HH:=hd_ hh
 clear hh
 obtain ⟨x1,e1⟩:∃ x,decide (1≤t.sh∧t.sh≤5)=x:=⟨_,rfl⟩
 obtain ⟨x2,e2⟩:∃ x,decide (0≤t.most∧t.most≤60)=x:=⟨_,rfl⟩
 obtain ⟨x3,e3⟩:∃ x,((t.strays.length:Int) == t.sh - 1)=x:=⟨_,rfl⟩
 obtain ⟨x4,e4⟩:∃ x,decide ((t.calls.length:Int)≤8)=x:=⟨_,rfl⟩
 have h:¬ (x1=true∧x2=true∧x3=true∧x4=true):=fun ⟨a,b,cc,d⟩=>HH.out ⟨of_decide_eq_true (e1.trans a),of_decide_eq_true (e2.trans b),by simpa using e3.trans cc,of_decide_eq_true (e4.trans d)⟩
 have h1:x1=true→1≤t.sh∧t.sh≤5:=fun a=>of_decide_eq_true (e1.trans a)
 obtain ⟨wi,hwi⟩:∃ wi:Int→Int→Int→Bool,(fun n lo hi=>decide (lo≤n∧n≤hi))=wi:=⟨_,rfl⟩
 have HW:Hid (∀ n lo hi W,Calls prog 196 #[.int .i64 n,.int .i64 lo,.int .i64 hi] W (Same (.bool (wi n lo hi)) W)):=by rw [← hwi];exact hd_ Zix
 have E1:wi t.sh 1 5=x1:=by rw [← hwi];exact e1
 have E2:wi t.most 0 60=x2:=by rw [← hwi];exact e2
 clear hwi
 have HN:=hd_ Zgt
 have HBel:Hid (w (((w.alloc (.cells (tyV t sa sc ca cc) 58)).alloc (.map #[] 0)).alloc (.cells (Ze5 t sa sc ca cc (w.heap.size+1)) 260))):=by show Below _ _ _;exact bel_
 have hmm:=@run_makeMap prog
 have hum:=underlying258
 clear e1 e2 HH
 unfold tyV Ze5 at *
 generalize t.strays.length=nl at *
 generalize t.calls.length=nc at *
 generalize t.most=may at *
 generalize t.sh=sh at *
 cases x1
 ·clear h1 e3 e4
  exact Qi
 cases x2
 ·clear h1 e3 e4
  exact Qi
 have h1':=h1 rfl
 clear h1
 cases x3
 ·clear e4
  exact Qi
 cases x4
 ·exact Qi
 exact absurd ⟨rfl,rfl,rfl,rfl⟩ h
theorem _root_.Q22 {p:Prop}(h:p:=by
 exact ⟨⟨k+1,om_,by go_num,HTE.out (by first|rfl|trivial),HBN.out.trans (hb2.mono (by simp;omega)),HLN.out.trans (Lets.of_below hb2)⟩,by simp [intOf];omega⟩):p:=h
theorem _root_.Q26 {p:Prop}(h:p:=by
 refine ⟨rfl,?_⟩
 unfold Zbw
 rw [if_pos (HB0.out (by first|rfl|trivial))]
 exact ⟨rfl,HBN.out.trans (hb2.mono (by simp;omega))⟩):p:=h
theorem Ztf (t:Ty) (isB:Bool) (sa:Option Addr) (sc:Nat) (ca:Option Addr) (cc:Nat) (F:FuncId) (cap:Array Value) (w:World) (hr:RowsAt w sa 2 Zax t.strays) (hrc:RowsAt w ca 4 Zcn t.calls)
  (hh:Zwo t)
  (hcf:∀ (args:Array Value) (W:World),(callFunc F args).run prog W=.ok (.enter F args) W)
  (HIS0:∀ w' Y mb,Below w.heap.size w w'→tyOk t=true→Zbj w' Y t sa sc ca cc mb→Calls prog F (#[.pointer (some ⟨Y,0,none⟩)] ++ cap) w' (Same (.bool isB) w')) :
  Calls prog 106 #[.agg (tyV t sa sc ca cc),.func (.func F) #[] cap] w (Zbw t isB sa sc ca cc w):=by
 have HIS:=hd_ HIS0
 clear HIS0
 have HN:=hd_ Zgt
 have HY:=hd_ Zhl
 have HALL:=hd_ (fun h5 h6=>tyOk_all (t:=t) hh h5 h6)
 have HBS:Hid (∀ {k:Nat}(hk:k < t.strays.length),Zeu t.strays[k]=false→tyOk t=false):=hd_ Ztc
 have HBC:Hid (∀ {k:Nat}(hk:k < t.calls.length),Zcv t.sh t.calls[k]=false→tyOk t=false):=hd_ Zv6
 have HR:=hd_ hr
 have HRC:=hd_ hrc
 obtain ⟨h1,h2,h3,h4⟩:=hh
 have H1:=hd_ h1
 have H3:=hd_ h3
 obtain ⟨wi,hwi⟩:∃ wi:Int→Int→Int→Bool,(fun n lo hi=>decide (lo≤n∧n≤hi))=wi:=⟨_,rfl⟩
 have HW:Hid (∀ n lo hi W,Calls prog 196 #[.int .i64 n,.int .i64 lo,.int .i64 hi] W (Same (.bool (wi n lo hi)) W)):=by rw [← hwi];exact hd_ Zix
 have E1:wi t.sh 1 5=true:=by rw [← hwi];exact decide_eq_true h1
 have E2:wi t.most 0 60=true:=by rw [← hwi];exact decide_eq_true h2
 have E3:((t.strays.length:Int) == t.sh - 1)=true:=by simpa using h3
 have E4:decide ((t.calls.length:Int)≤8)=true:=decide_eq_true h4
 clear hwi
 have HSp:=hd_ Zs8
 have HCl:=hd_ (fun (W:World) (Y mb:Nat) (hy:YardAt W Y t sa sc ca cc mb) (c:Int × Int × Int × Int)=>t_isCall hy h1 c)
 clear hr hrc h2 h3
 have hmm:=@run_makeMap prog
 have hum:=underlying258
 obtain ⟨W5,hW5⟩:∃ W5,(((w.alloc (.cells (tyV t sa sc ca cc) 58)).alloc (.map #[] 0)).alloc (.cells (Ze5 t sa sc ca cc (w.heap.size+1)) 260))=W5:=⟨_,rfl⟩
 have hB5:Below w.heap.size w W5:=by rw [← hW5];exact bel_
 have bt:Blk W5 w.heap.size (tyV t sa sc ca cc) 58:=by rw [← hW5];exact ((Blk.new _ _ _).alloc _).alloc _
 have by_:Blk W5 (w.heap.size+2) (Ze5 t sa sc ca cc (w.heap.size+1)) 260:=by rw [← hW5];exact Blk.new' _ _ _ _ sp_
 have hm5:MapG.MapAt kfT vfT W5 (w.heap.size+1) []:=by
  have h0:=MapG.MapAt.new (kf:=kfT) (vf:=vfT) (w.alloc (.cells (tyV t sa sc ca cc) 58))
  rw [World.size_alloc] at h0
  rw [← hW5]
  exact h0.alloc _
 have hs5:W5.heap.size=w.heap.size+3:=by rw [← hW5];simp
 have HS5:=hd_ hs5
 clear hs5
 unfold tyV Ze5 at hW5
 have HM5:=hd_ hm5
 have HY5:=hd_ by_
 have HT5:=hd_ bt
 have HB5:=hd_ hB5
 have rt:=bt.cell
 have lt:=bt.lt
 unfold tyV at rt
 unfold tyV
 clear hm5 by_ bt hB5
 go_enter func106,ntmps106
 go_wp2_with (first
   | (go_at_call 196;refine (HW.out _ _ _ _).mono ?_;rintro e w2 ⟨rfl,rfl⟩)
   | (go_at_call 195;refine (HY.out _ _).mono ?_;rintro e w3 ⟨rfl,rfl⟩))
 clear rt lt E1 E2 E3 hmm hum
 have hle4:(t.strays.length:Int)≤4:=by have h8:=H1.out;have h9:=H3.out;omega
 go_loopw [7,41] (fun x7 x41 wr=>∃ k:Nat,k≤t.strays.length∧x41=↑k∧Hid ((t.strays.take k).all Zeu=true)∧Below w.heap.size w wr∧Lets (fun _ _=>False) W5 wr) (fun _ x41 _=>t.strays.length - (intOf x41).toNat)
 case atStart=>exact ⟨0,Nat.zero_le _,rfl,by show _=_;simp,HB5.out,Lets.refl _ _⟩
 case round =>
  obtain ⟨k,hk,rfl,HA,hB,hLt⟩:=hrel
  have hsr:=hLt.size
  by_cases hlt:k < t.strays.length
  ·have hlti:(k:Int) < (t.strays.length:Int):=by omega
   obtain ⟨gb,go,rfl,hq⟩:=HR.out k hlt
   have q0:=Za4 hB (hq 0 _ rfl)
   have q1:=Za4 hB (hq 1 _ rfl)
   rw [Nat.add_zero] at q0
   have lg:=bl_ wr _ q0
   have HB0:=hd_ (HBS.out hlt)
   have HTE:Hid (Zeu t.strays[k]=true→(t.strays.take (k+1)).all Zeu=true):=fun h=>by
    rw [List.take_succ_eq_append_getElem hlt,List.all_append,HA.out];simpa using h
   generalize t.strays[k]=s at *
   obtain ⟨s1,s2⟩:=s
   simp only at q0 q1
   obtain ⟨v,hv⟩:∃ v,Zeu (s1,s2)=v:=⟨_,rfl⟩
   have HSp2:Hid (∀ W,Calls prog 197 #[.agg #[s1,s2],.int .i64 (-3),.int .i64 3] W (Zak (.bool v) W)):=fun W=>by have:=HSp.out s1 s2 (-3) 3 W;rwa [show Zjh (s1,s2) (-3) 3=v from hv] at this
   rw [hv] at HB0 HTE
   clear hq hv
   have hbn:w (wr.alloc (.cells #[s1,s2] 23)):=hB.alloc hB.size _
   have HBN:=hd_ hbn
   have HLN:=hd_ (hLt.alloc (.cells #[s1,s2] 23))
   have hs0:=hB.size
   clear hbn hB hLt
   cases v
   ·go_wp2_with (first
     | (go_at_call 197;refine (HSp2.out _).mono ?_;rintro e w2 ⟨rfl,hb2⟩)
     | (go_at_call 195;refine (HN.out _ _).mono ?_;rintro e w3 ⟨rfl,rfl⟩))
    exact Q26
   ·go_wp2_with (first
     | (go_at_call 197;refine (HSp2.out _).mono ?_;rintro e w2 ⟨rfl,hb2⟩)
     | (go_at_call 195;refine (HY.out _ _).mono ?_;rintro e w3 ⟨rfl,rfl⟩))
    exact Q22
  ·have hlti:¬ (k:Int) < (t.strays.length:Int):=by omega
   obtain rfl:k=t.strays.length:=by omega
   rw [List.take_length] at HA
   have bt1:=hLt.blk HT5.out (fun e=>e)
   have rt:=bt1.cell
   have lt:=bt1.lt
   unfold tyV at rt
   have hle8:(t.calls.length:Int)≤8:=h4
   clear hlt hk HBS
   go_wp2_with fail
   clear rt lt bt1
   have HB1:=hd_ hB
   have HL1:=hd_ hLt
   clear hB hLt
   go_loopw [9,52] (fun x9 x52 wv=>∃ k:Nat,k≤t.calls.length∧x52=↑k∧Hid ((t.calls.take k).all (Zcv t.sh)=true)∧Below w.heap.size w wv∧Lets (fun _ _=>False) W5 wv) (fun _ x52 _=>t.calls.length - (intOf x52).toNat)
   case atStart=>exact ⟨0,Nat.zero_le _,rfl,by show _=_;simp,HB1.out,HL1.out⟩
   case round =>
    clear HB1 HL1 hsr
    obtain ⟨k,hk,rfl,HC,hB,hLt⟩:=hrel
    have hsr:=hLt.size
    by_cases hlt:k < t.calls.length
    ·have hlti:(k:Int) < (t.calls.length:Int):=by omega
     obtain ⟨gb,go,rfl,hq⟩:=HRC.out k hlt
     have q0:=Za4 hB (hq 0 _ rfl)
     have q1:=Za4 hB (hq 1 _ rfl)
     have q2:=Za4 hB (hq 2 _ rfl)
     have q3:=Za4 hB (hq 3 _ rfl)
     rw [Nat.add_zero] at q0
     have lg:=bl_ wr _ q0
     have HB0:=hd_ (HBC.out hlt)
     have HTE:Hid (Zcv t.sh t.calls[k]=true→(t.calls.take (k+1)).all (Zcv t.sh)=true):=fun h=>by
      rw [List.take_succ_eq_append_getElem hlt,List.all_append,HC.out];simpa using h
     generalize t.calls[k]=c at *
     obtain ⟨c1,c2,c3,c4⟩:=c
     simp only at q0 q1 q2 q3
     obtain ⟨v,hv⟩:∃ v,Zcv t.sh (c1,c2,c3,c4)=v:=⟨_,rfl⟩
     have HCl2:Hid (∀ W,Below w.heap.size w W→Lets (fun _ _=>False) W5 W→Calls prog 198 #[.pointer ↑(w.heap.size+2),.agg #[c1,c2,c3,c4]] W (Zak (.bool v) W)):=fun W hb hl=>by
      have:=HCl.out W (w.heap.size+2) (w.heap.size+1) ⟨hl.blk HY5.out (fun e=>e),HR.out.below hb,HRC.out.below hb⟩ (c1,c2,c3,c4)
      rw [hv] at this
      exact this
     rw [hv] at HB0 HTE
     clear hq hv
     have hbn:w (wr.alloc (.cells #[c1,c2,c3,c4] 137)):=hB.alloc hB.size _
     have HBN:=hd_ hbn
     have HLN:=hd_ (hLt.alloc (.cells #[c1,c2,c3,c4] 137))
     have hs0:=hB.size
     clear hbn hB hLt
     cases v
     ·go_wp2_with (first
       | (go_at_call 198;refine (HCl2.out _ HBN.out HLN.out).mono ?_;rintro e w2 ⟨rfl,hb2⟩)
       | (go_at_call 195;refine (HN.out _ _).mono ?_;rintro e w3 ⟨rfl,rfl⟩))
      exact Q26
     ·go_wp2_with (first
       | (go_at_call 198;refine (HCl2.out _ HBN.out HLN.out).mono ?_;rintro e w2 ⟨rfl,hb2⟩)
       | (go_at_call 195;refine (HY.out _ _).mono ?_;rintro e w3 ⟨rfl,rfl⟩))
      exact Q22
    ·have hlti:¬ (k:Int) < (t.calls.length:Int):=by omega
     obtain rfl:k=t.calls.length:=by omega
     rw [List.take_length] at HC
     have hok:tyOk t=true:=HALL.out HA.out HC.out
     have hO9:Zbj wr (w.heap.size+2) t sa sc ca cc (w.heap.size+1):=by
      refine ⟨⟨hLt.blk HY5.out (fun e=>e),HR.out.below hB,HRC.out.below hB⟩,⟨[],?_,MapG.MapOk.nil,sp_⟩⟩
      exact (hLt.block _ HM5.out.lt (fun e=>e)).trans HM5.out
     have hs0:=hB.size
     clear hlt hk HBC
     go_wp2_with fail
     refine (HIS.out wr _ _ hB hok hO9).mono ?_
     rintro e w10 ⟨rfl,rfl⟩
     cases isB
     ·go_wp2_with (first
       | (go_at_call 195;refine (HN.out _ _).mono ?_;rintro e w3 ⟨rfl,rfl⟩))
      refine ⟨rfl,?_⟩
      unfold Zbw
      rw [if_neg (by rw [hok];decide),if_pos rfl]
      exact ⟨rfl,hB⟩
     ·go_wp2_with (first
       | (go_at_call 195;refine (HY.out _ _).mono ?_;rintro e w3 ⟨rfl,rfl⟩))
      go_ret
      unfold Zbw
      rw [if_neg (by rw [hok];decide),if_neg de_]
      exact ⟨_,_,rfl,hB,hO9,om_,om_⟩
end Go.Proofs.YtbapgefodmmikaaGreatDoor
