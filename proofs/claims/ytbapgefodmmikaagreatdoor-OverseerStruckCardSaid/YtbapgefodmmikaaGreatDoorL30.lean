/- Parts of a proof. -/
import Derived.Test.YtbapgefodmmikaaGreatDoorLMin
import Derived.Test.YtbapgefodmmikaaGreatDoorL29
set_option linter.unusedVariables false
set_option linter.unusedSimpArgs false
set_option maxHeartbeats 40000000
set_option maxRecDepth 100000
namespace Go.Proofs.YtbapgefodmmikaaGreatDoor
open Go.RowKit Go.Proofs Go.Ord Tryz
attribute [local irreducible] Ord.walk
attribute [local go_sem] Oper.semAt_some
section
variable {w:World}{O:Nat}{b:Ov}{l:List Nt}{sa:Option Addr}{sc:Nat}{fa:Option Addr}{fc:Nat}{na:Option Addr}{nc:Nat}
theorem o_validC (h:OvAt w O b l sa sc fa fc na nc) (hI:OvIn b l) :
  Calls prog 363 #[.agg #[.pointer O]] w (Zak (.bool (Zs1 b l)) w):=by
 have HT:=hd_ (fun W (hb:Below w.heap.size w W)=>Zn2 (h.below hb) hI)
 have hls:(tyO b l).strays.length≤9223372036854775807:=by have:=hI.strays;show b.strays.length≤_;omega
 have hlc:(tyO b l).calls.length≤9223372036854775807:=by have:=hI.notes;have h2:=List.length_filter_le (fun n:Nt=>decide (2≤n.1∧n.1≤4)) l;show ((ofO l 2 4).map Zk7).length≤_;rw [List.length_map];unfold ofO;omega
 have HC:Hid (∀ ca cc W,RowsAt W sa 2 Zax (tyO b l).strays→RowsAt W ca 4 Zcn (tyO b l).calls→Calls prog 364 #[.agg (tyV (tyO b l) sa sc ca cc)] W (Zfn (tyOk (tyO b l)) W)):=fun ca cc W h1 h2=>t_Clash (tyO b l) sa sc ca cc W h1 h2 hls hlc
 unfold Zs1
 generalize tyO b l=t at *
 generalize tyOk t=v at *
 unfold tyV at *
 clear h hI hls hlc
 have hB1:w (w.alloc (.cells #[.pointer O] 305)):=by exact bel_
 go_enter func363,ntmps363
 go_wp2_with (first
  | (go_at_call 238;refine (HT.out _ hB1).mono ?_;rintro e w2 ⟨ca,cc,rfl,hb2,hr,hrc⟩)
  | (go_at_call 364;refine (HC.out _ _ _ hr hrc).mono ?_;rintro e w3 ⟨s,x,rfl,hb3,hx⟩;refine Za2 ?_))
 unfold Stop
 have hbf:w w3:=(hB1.trans (hb2.mono sp_)).trans (hb3.mono (by have:=hb2.size;simp at this;omega))
 by_cases h1:x=1
 ·have hv:=hx.1 h1
  have hne:(x != 1)=false:=by simp [h1]
  subst hv
  go_wp2_with fail
  go_ret
  exact ⟨rfl,hbf⟩
 ·have hv:v=true:=by cases v;exact absurd (hx.2 rfl) h1;rfl
  have hne:(x != 1)=true:=by simp [h1]
  subst hv
  go_wp2_with fail
  go_ret
  exact ⟨rfl,hbf⟩
theorem _root_.Q1e {p:Prop}(h:p:=by
 exact ⟨hl2.blk hOf5.b0 om_,hl2.blk hOf5.b1 om_,hl2.blk hOf5.b2 om_,HRow.out wr (Za3 hB5 hl2 (by have:=HN.out;omega) (fun _ _ _=>om_))⟩):p:=h
theorem _root_.Q1l {p:Prop}(h:p:=by
 refine ⟨?_,?_,?_,HRow.out w5 hB5⟩
 ·rw [hw5,← hM];exact ((Blk.new _ _ _).alloc _).alloc _
 ·rw [hw5];exact (Blk.new' _ _ _ _ (by simp [hM])).alloc _
 ·rw [hw5];exact Blk.new' _ _ _ _ (by simp [hM])):p:=h
theorem _root_.Q3l {p:Prop}(h:p:=by
 have hl2:Lets (fun k _=>k=N+1∨M+3≤k) w5 wr:=(Lets.of_below hb1).trans (hl.mono fun _ _ e=>om_)
 exact Q1e):p:=h
theorem o_validV (h:OvAt w O b l sa sc fa fc na nc) (hI:OvIn b l) :
  Calls prog 367 #[.agg #[.pointer O]] w (Zak (.bool (Zrz b l)) w):=by
 have HV:=hd_ (fun W (hb:Below w.heap.size w W)=>Zm8 (h.below hb) hI)
 have hln:=hI.notes
 have hgl:(bnO b l).gs.length≤40:=by have h2:=List.length_filter_le (fun n:Nt=>decide (0≤n.1∧n.1≤0)) l;show ((ofO l 0 0).map grpO).length≤_;rw [List.length_map];unfold ofO;omega
 have hpl:(bnO b l).ps.length≤40:=by have h2:=List.length_filter_le (fun n:Nt=>decide (1≤n.1∧n.1≤1)) l;show ((ofO l 1 1).map Zkn).length≤_;rw [List.length_map];unfold ofO;omega
 have HC:Hid (∀ ga gc pa pc W,GsAt W ga (bnO b l).gs→PsAt W pa (bnO b l).ps→Calls prog 368 #[bv (bnO b l) ga gc pa pc] W (Zat (.int .i64 (Zhb (bnO b l)).1) (.int .i64 (Zhb (bnO b l)).2) W)):=fun ga gc pa pc W h1 h2=>bb_Count (bnO b l) ga gc pa pc W h1 h2 hgl hpl
 have hE:Hid (((Zhb (bnO b l)).2 != 1)=valid (bnO b l)):=by
  show _=_
  unfold Zhb chkE
  cases valid (bnO b l) <;> simp
 have HOf:=hd_ (fun f la W=>o_of na l.length nc f la W)
 have HRow:=hd_ (fun W (hb:Below w.heap.size w W)=>h.notes.below hb)
 have HOv:=hd_ (fun W (hb:Below w.heap.size w W)=>h.blk.below hb h.blk.lt)
 have hOlt:=h.blk.lt
 have hgs:(ofO l 1 1).length≤30:=Nat.le_trans (List.length_filter_le _ _) hln
 unfold Zrz
 unfold bv at *
 generalize (Zhb (bnO b l)).1=q1 at *
 generalize (Zhb (bnO b l)).2=q2 at *
 generalize valid (bnO b l)=v at *
 generalize bnO b l=bn at *
 clear h hI hgl hpl
 refine callsIn_wide.1 (callsIn_of_wp_marks (F:=Fence.wide) (n:=0) func367 rfl trivial (wpIn_wide.2 ?_) rfl)
 simp only [ntmps367,List.size_toArray,List.length_cons,List.length_nil,Nat.reduceAdd,Nat.reduceSub,Array.replicate_succ,Array.replicate_zero,List.push_toArray,List.append_toArray,List.nil_append,List.cons_append]
 go_upto_region 1 with fail
 obtain ⟨w2,hw2⟩:∃ w2,(w.alloc (.cells #[.pointer O] 306)).alloc (.cells #[.bool false] 4)=w2:=⟨_,rfl⟩
 rw [hw2]
 have hB2:Below w.heap.size w w2:=by rw [← hw2];exact bel_
 have b1:Blk w2 w.heap.size #[.pointer O] 306:=by rw [← hw2];exact (Blk.new _ _ _).alloc _
 have b2:Blk w2 (w.heap.size+1) #[.bool false] 4:=by rw [← hw2];exact Blk.new' _ _ _ _ sp_
 have r1:=b1.cell
 have l1:=b1.lt
 clear hw2
 generalize hN:w.heap.size=N at *
 have HN:=hd_ hN
 clear hN
 go_wp2_with (first
  | (go_at_call 236;refine (HV.out _ hB2).mono ?_;rintro e w3 ⟨ga,gc,pa,pc,rfl,hb3,hg,hp⟩)
  | (go_at_call 368;refine (HC.out _ _ _ _ _ hg hp).mono ?_;rintro e w4 ⟨rfl,hb4⟩;refine Za2 ?_))
 unfold Stop
 have hb24:Below w2.heap.size w2 w4:=hb3.trans (hb4.mono hb3.size)
 have b14:=b1.below hb24 b1.lt
 have b24:=b2.below hb24 b2.lt
 have hB4:Below N w w4:=hB2.trans (hb24.mono (by have:=b2.lt;omega))
 have hl2:=b24.lt
 clear hg hp hb3 hb4 hb24 b1 b2 r1 l1 HV HC hB2
 have bO:=HOv.out w4 hB4
 have r1:=b14.cell
 have rO:=bO.cell
 have l1:=b14.lt
 have lO:=bO.lt
 unfold ovV at rO
 go_wp2_with (first
  | (go_at_call 285;refine (HOf.out _ _ _).mono ?_;rintro e w5 ⟨rfl,hw5⟩;refine Za2 ?_))
 unfold Stop
 rw [← hw5]
 generalize hM:w4.heap.size=M at *
 have hb5:Below M w4 w5:=by rw [hw5,← hM];exact bel_
 have hs5:w5.heap.size=M+3:=by rw [hw5];simp [hM]
 have hB5:Below N w w5:=hB4.trans (hb5.mono om_)
 have hOf5:OfAt w5 M l na nc 1 1:=Q1l
 have b25:=b24.below hb5 om_
 clear hw5 hb5 b14 b24 bO r1 rO l1 lO hB4 hM
 go_wp2_with fail
 refine (wpIn_wide (n:=0)).1 (Zcq (encs:=fun n=>#[.agg (ntL n).toArray]) (xs:=ofO l 1 1) (XI:=fun _ _=>False) (XB:=fun k _=>k=N+1) (Mid:=fun _=>True)
  (fun k A=>((ofO l 1 1).take k).all (fun n=>Zfg n.2.2.2)=true∧Blk A (N+1) #[.bool false] 4∧Lets (fun k _=>k=N+1∨M+3≤k) w5 A)
  (fun c A=>c=.ret∧(ofO l 1 1).all (fun n=>Zfg n.2.2.2)=false∧Blk A (N+1) #[.bool false] 4∧Lets (fun k _=>k=N+1∨M+3≤k) w5 A)
  rfl call316 (fun _=>rfl)
  (fun W1 hb1 hs1=>Zjr l na nc 1 1 om_ M _ W1 ⟨hOf5.b0.below hb1 om_,hOf5.b1.below hb1 om_,hOf5.b2.below hb1 om_,hOf5.rows.below hb1⟩ _ (fun wr hl=>by exact Q3l))
  (fun j o h1 h2 e=>e) (fun j o h1 h2 e=>om_)
  (fun k A B h hl=>⟨h.1,hl.blk h.2.1 (fun e=>e),h.2.2.trans (hl.mono fun _ _ e=>e.elim)⟩)
  (fun c A B h hl=>⟨h.1,h.2.1,hl.blk h.2.2.1 (fun e=>e),h.2.2.2.trans (hl.mono fun _ _ e=>e.elim)⟩)
  (fun k A B h hl=>⟨h.1,hl.blk h.2.1 (fun e=>om_),h.2.2.trans (hl.mono fun _ _ e=>om_)⟩)
  (fun c A B h hl=>⟨h.1,h.2.1,hl.blk h.2.2.1 (fun e=>om_),h.2.2.2.trans (hl.mono fun _ _ e=>om_)⟩)
  (fun A B h hl=>trivial) ⟨sp_,b25,Lets.refl _ _⟩ ?round ?done ?stop)
 case round =>
  intro k hk A' hI' _ hsz hrec
  have hgk:Zfg ((ofO l 1 1)[k]).2.2.2=true→((ofO l 1 1).take k).all (fun n=>Zfg n.2.2.2)=true→((ofO l 1 1).take (k+1)).all (fun n=>Zfg n.2.2.2)=true:=fun h1 h2=>by
   rw [List.take_succ_eq_append_getElem hk,List.all_append,h2];simpa using h1
  have hbad:Zfg ((ofO l 1 1)[k]).2.2.2=false→(ofO l 1 1).all (fun n=>Zfg n.2.2.2)=false:=fun h1=>by
   rw [List.all_eq_false]
   exact ⟨_,List.getElem_mem hk,by simpa using h1⟩
  have HGK:=hd_ hgk
  have HBad:=hd_ hbad
  have hall:=hd_ hI'.1
  clear hgk hbad hI'
  generalize ((ofO l 1 1).take k).all (fun n=>Zfg n.2.2.2)=pk at *
  generalize ((ofO l 1 1).take (k+1)).all (fun n=>Zfg n.2.2.2)=pk1 at *
  generalize (ofO l 1 1).all (fun n=>Zfg n.2.2.2)=pa at *
  generalize (ofO l 1 1)[k]=n at *
  obtain ⟨n1,n2,n3,n4⟩:=n
  unfold Zcp
  unfold ntL
  gi_wp2_with fail
  refine ⟨(Lets.refl _ _).alloc _,fun W₂ hl2 hs2 hp bR hLt=>?_⟩
  have b4:Blk W₂ A'.heap.size #[n1,n2,n3,n4] 88:=hl2.blk (Blk.new _ _ _) om_
  clear hl2 hs2 hk hrec
  have hl4:=b4.lt
  have r4:=b4.cell
  have rR:=bR.cell
  have fR:=bR.free
  have lR:=bR.lt
  generalize A'.heap.size=t4 at *
  by_cases hb:n4=0∨n4=1
  ·have hb1:Zfg n4=true:=decide_eq_true hb
   have hq:n4 / 2=0:=by omega
   have hq2:¬ (n4 / 2≠0):=by omega
   gi_wp2_with fail
   exact ⟨Lets.refl _ _,trivial,HGK.out hb1 hp,bR,hLt⟩
  ·have hb1:Zfg n4=false:=decide_eq_false hb
   have hq:n4 / 2≠0:=by omega
   gi_wp2_with fail
   have hX:Lets (fun k _=>k=N+1) W₂ (W₂.setCell ⟨N+1,0,none⟩ (.bool false)):=(Lets.refl _ _).setCell rfl _
   exact ⟨hX,trivial,rfl,HBad.out hb1,bR.set 0 _,hLt.trans (hX.mono fun _ _ e=>.inl e)⟩
 case stop =>
  rintro c W ⟨rfl,hR,bR,hlf⟩ hMm hD
  refine wpIn_ret ?_
  simp only [Exit.inBlock,Exit.noGoto]
  refine Zbu (v:=.bool false) rfl hD fun w' hl hs=>?_
  have rf:=(Zc8 bR hl (fun _=>om_)).cell
  have hl2:Lets (fun k _=>k=N+1∨M+3≤k) w5 w':=hlf.trans (hl.mono fun _ _ e=>om_)
  have hBf:Below N w w':=Za3 hB5 hl2 (by have:=HN.out;omega) (fun _ _ _=>om_)
  exact ⟨by simp [results,results367,go_sem,rf],by rw [hR];rfl,by rw [HN.out];exact hBf⟩
 case done =>
  intro W hI' _ hD
  obtain ⟨hall,bR,hLt⟩:=hI'
  rw [List.take_length] at hall
  have fR:=bR.free
  have lR:=bR.lt
  have rR:=bR.cell
  simp only [Exit.inBlock,Exit.then]
  have hE2:=hE.out
  obtain ⟨vq,hvq⟩:∃ vq,(q2 != 1)=vq:=⟨_,rfl⟩
  rw [hvq] at hE2
  subst hE2
  go_wp2_with fail
  obtain ⟨Wf,hWf⟩:∃ Wf,W.setCell ⟨N+1,0,none⟩ (.bool vq)=Wf:=⟨_,rfl⟩
  have bf:Blk Wf (N+1) #[.bool vq] 4:=by rw [← hWf];exact bR.set 0 _
  have hlf:Lets (fun k _=>k=N+1∨M+3≤k) w5 Wf:=by rw [← hWf];exact hLt.setCell (.inl rfl) _
  have hDf:Wf.heap[w5.heap.size]? = some (.deferred (some [])):=by rw [← hWf];exact (Below.heap_setCell W _ _ _ (by simp only;omega)).trans hD
  change bodyPostM Fence.wide 0 prog _ _ .ret _ (W.setCell ⟨N+1,0,none⟩ (.bool vq))
  rw [hWf]
  refine Zbu (v:=.bool vq) rfl hDf fun w' hl hs=>?_
  have rf:=(Zc8 bf hl (fun _=>om_)).cell
  have hl2:Lets (fun k _=>k=N+1∨M+3≤k) w5 w':=hlf.trans (hl.mono fun _ _ e=>om_)
  have hBf:Below N w w':=Za3 hB5 hl2 (by have:=HN.out;omega) (fun _ _ _=>om_)
  exact ⟨by simp [results,results367,go_sem,rf],by rw [hall];rfl,by rw [HN.out];exact hBf⟩
end
section
variable {w:World}{O:Nat}{b:Ov}{l:List Nt}{sa:Option Addr}{sc:Nat}{fa:Option Addr}{fc:Nat}{na:Option Addr}{nc:Nat}
theorem ds_all {Q:Nt→Bool}(ls:List Nt):∀ k (h:k < ls.length),(Q ls[k]=true→(ls.take k).all Q=true→(ls.take (k+1)).all Q=true)∧(Q ls[k]=false→ls.all Q=false):=fun k hk=>⟨fun h1 h2=>by
 rw [List.take_succ_eq_append_getElem hk,List.all_append,h2];simpa using h1,fun h1=>by
 rw [List.all_eq_false]
 exact ⟨_,List.getElem_mem hk,by simpa using h1⟩⟩
theorem _root_.Qd {p:Prop}(h:p:=by
 (repeat (first|((with_reducible refine Za8 ?_ ?_ ?_);(focus exact fun ⟨_,_,h⟩=>h);(focus rfl))|gi_step))
 refine Ord.wpIn_region (fun ⟨_,_,h⟩=>h) [(0,0),(1,0),(2,0),(3,0),(4,0),(5,0),(6,0),(7,0),(8,0),(9,0),(10,0),(11,0),(12,0),(13,0),(14,0),(15,0),(16,0),(17,0),(18,0),(19,0),(20,0),(21,0)] (fun W=>W=W₂.drew) kr_ kr_ kr_ (fun c a d v w h=>by cases d <;> exact h) rfl ?_
 go_wp2_with (first
  | with_reducible refine Zyi rfl rfl (fun K hK=>?_)
  | with_reducible refine Zyj ?_)
 gi_wp2_with fail
 obtain ⟨x1,x2⟩:=HX.out _ rfl hqf
 exact ⟨x1,trivial,rfl,x2⟩):p:=h
theorem o_validL (h:OvAt w O b l sa sc fa fc na nc) (hI:OvIn b l) :
  Calls prog 370 #[.agg #[.pointer O]] w (Zak (.bool (Zs0 b l)) w):=by
 have HV:=hd_ (fun W (hb:Below w.heap.size w W)=>Zw6 (h.below hb) hI)
 have hln:=hI.notes
 have hcl:(clO b l).bs.length≤9223372036854775807:=by
  have h1:=Znz b l _ nl_
  rw [Zo0] at h1
  have h2:=hI.fl
  show (Zkd b l).length≤_
  omega
 have HC:Hid (∀ ca cc W,RowsAt W ca 3 Zbf (clO b l).bs→Calls prog 371 #[.agg (clV (clO b l) ca cc)] W (Zfn (clOk (clO b l)) W)):=fun ca cc W h1=>c_Clash (clO b l) ca cc W h1 hcl
 have HOf:=hd_ (fun f la W=>o_of na l.length nc f la W)
 have HRow:=hd_ (fun W (hb:Below w.heap.size w W)=>h.notes.below hb)
 have HOv:=hd_ (fun W (hb:Below w.heap.size w W)=>h.blk.below hb h.blk.lt)
 have hOlt:=h.blk.lt
 have hgs:(ofO l 5 5).length≤30:=Nat.le_trans (List.length_filter_le _ _) hln
 have HAll:=hd_ (ds_all (Q:=Zst b) (ofO l 5 5))
 have hflen:(b.fl.length:Int)≤40:=by have:=hI.fl;omega
 have HF:Hid (∀ n:Nt,Zst b n=(Zfg n.2.2.1 && decide (0≤n.2.1) && decide (n.2.1 < (b.fl.length:Int)))):=fun n=>rfl
 unfold Zs0
 unfold clV at HC HV
 generalize clOk (clO b l)=v at *
 generalize clO b l=cl at *
 generalize Zst b=fk at *
 clear h hI hcl
 refine callsIn_wide.1 (callsIn_of_wp_marks (F:=Fence.wide) (n:=0) func370 rfl trivial (wpIn_wide.2 ?_) rfl)
 simp only [ntmps370,List.size_toArray,List.length_cons,List.length_nil,Nat.reduceAdd,Nat.reduceSub,Array.replicate_succ,Array.replicate_zero,List.push_toArray,List.append_toArray,List.nil_append,List.cons_append]
 go_upto_region 1 with fail
 obtain ⟨w4,hw4⟩:∃ w4,(w.alloc (.cells #[.pointer O] 308)).alloc (.cells #[.bool false] 4)=w4:=⟨_,rfl⟩
 rw [hw4]
 have hB4:Below w.heap.size w w4:=by rw [← hw4];exact bel_
 have b14:Blk w4 w.heap.size #[.pointer O] 308:=by rw [← hw4];exact (Blk.new _ _ _).alloc _
 have b24:Blk w4 (w.heap.size+1) #[.bool false] 4:=by rw [← hw4];exact Blk.new' _ _ _ _ sp_
 clear hw4
 generalize hN:w.heap.size=N at *
 have HN:=hd_ hN
 clear hN
 have hl2:=b24.lt
 have bO:=HOv.out w4 hB4
 have r1:=b14.cell
 have rO:=bO.cell
 have l1:=b14.lt
 have lO:=bO.lt
 unfold ovV at rO
 go_wp2_with (first
  | (go_at_call 285;refine (HOf.out _ _ _).mono ?_;rintro e w5 ⟨rfl,hw5⟩;refine Za2 ?_))
 unfold Stop
 rw [← hw5]
 generalize hM:w4.heap.size=M at *
 have hb5:Below M w4 w5:=by rw [hw5,← hM];exact bel_
 have hs5:w5.heap.size=M+3:=by rw [hw5];simp [hM]
 have hB5:Below N w w5:=hB4.trans (hb5.mono om_)
 have hOf5:OfAt w5 M l na nc 5 5:=Q1l
 have b25:=b24.below hb5 om_
 have b15:=b14.below hb5 om_
 clear hw5 hb5 b14 b24 bO r1 rO l1 lO hB4 hM
 go_wp2_with fail
 refine (wpIn_wide (n:=0)).1 (Zcq (encs:=fun n=>#[.agg (ntL n).toArray]) (xs:=ofO l 5 5) (XI:=fun _ _=>False) (XB:=fun k _=>k=N+1∨M+5≤k) (Mid:=fun _=>True)
  (fun k A=>((ofO l 5 5).take k).all fk=true∧Blk A (N+1) #[.bool false] 4∧Lets (fun k _=>k=N+1∨M+3≤k) w5 A)
  (fun c A=>c=.ret∧(ofO l 5 5).all fk=false∧Blk A (N+1) #[.bool false] 4∧Lets (fun k _=>k=N+1∨M+3≤k) w5 A)
  rfl call316 (fun _=>rfl)
  (fun W1 hb1 hs1=>Zjr l na nc 5 5 om_ M _ W1 ⟨hOf5.b0.below hb1 om_,hOf5.b1.below hb1 om_,hOf5.b2.below hb1 om_,hOf5.rows.below hb1⟩ _ (fun wr hl=>by exact Q3l))
  (fun j o h1 h2 e=>e) (fun j o h1 h2 e=>om_)
  (fun k A B h hl=>⟨h.1,hl.blk h.2.1 (fun e=>e),h.2.2.trans (hl.mono fun _ _ e=>e.elim)⟩)
  (fun c A B h hl=>⟨h.1,h.2.1,hl.blk h.2.2.1 (fun e=>e),h.2.2.2.trans (hl.mono fun _ _ e=>e.elim)⟩)
  (fun k A B h hl=>⟨h.1,hl.blk h.2.1 (fun e=>om_),h.2.2.trans (hl.mono fun _ _ e=>om_)⟩)
  (fun c A B h hl=>⟨h.1,h.2.1,hl.blk h.2.2.1 (fun e=>om_),h.2.2.2.trans (hl.mono fun _ _ e=>om_)⟩)
  (fun A B h hl=>trivial) ⟨sp_,b25,Lets.refl _ _⟩ ?round ?done ?stop)
 case round =>
  intro k hk A' hI' _ hsz hrec
  obtain ⟨hgk,hbad⟩:=HAll.out k hk
  have hfk:=HF.out (ofO l 5 5)[k]
  have HGK:=hd_ hgk
  have HBad:=hd_ hbad
  clear hgk hbad hI'
  generalize ((ofO l 5 5).take k).all fk=pk at *
  generalize ((ofO l 5 5).take (k+1)).all fk=pk1 at *
  generalize (ofO l 5 5).all fk=pa at *
  generalize (ofO l 5 5)[k]=n at *
  obtain ⟨n1,n2,n3,n4⟩:=n
  generalize fk (n1,n2,n3,n4)=q at *
  have HQ:=hd_ hfk
  clear hfk
  unfold Zcp
  unfold ntL
  gi_wp2_with fail
  refine ⟨(Lets.refl _ _).alloc _,fun W₂ hl2 hs2 hp bR hLt=>?_⟩
  have b4:Blk W₂ A'.heap.size #[n1,n2,n3,n4] 88:=hl2.blk (Blk.new _ _ _) om_
  clear hl2 hs2 hk hrec
  have hl4:=b4.lt
  have r4:=b4.cell
  have rR:=bR.cell
  have fR:=bR.free
  have lR:=bR.lt
  have b1W:=hLt.blk b15 om_
  have bOW:=HOv.out W₂ (Za3 hB5 hLt (by have:=HN.out;omega) (fun _ _ _=>om_))
  have r1:=b1W.cell
  have rO:=bOW.cell
  have l1:=b1W.lt
  have lO:=bOW.lt
  unfold ovV at rO
  generalize A'.heap.size=t4 at *
  have HX:Hid (∀ W,W=(W₂.setCell ⟨N+1,0,none⟩ (.bool false)).drew→q=false→Lets (fun k _=>k=N+1∨M+5≤k) W₂ W∧pa=false∧Blk W (N+1) #[.bool false] 4∧Lets (fun k _=>k=N+1∨M+3≤k) w5 W):=by
   rintro W rfl hq
   have hX:Lets (fun k _=>k=N+1) W₂ (W₂.setCell ⟨N+1,0,none⟩ (.bool false)).drew:=((Lets.refl _ _).setCell rfl _).drew
   exact ⟨hX.mono fun _ _ e=>.inl e,HBad.out hq,(bR.set 0 _).drew,hLt.trans (hX.mono fun _ _ e=>.inl e)⟩
  by_cases hb:n3=0∨n3=1
  ·have hb1:Zfg n3=true:=decide_eq_true hb
   have hq:n3 / 2=0:=by omega
   have hq2:¬ (n3 / 2≠0):=by omega
   by_cases h0:n2 < 0
   ·have hqf:q=false:=by rw [HQ.out];simp only [hb1,decide_eq_false (show ¬ 0≤n2 by omega)];rfl
    exact Qd
   ·by_cases h1:n2 < (b.fl.length:Int)
    ·have hqf:q=true:=by rw [HQ.out];simp only [hb1,decide_eq_true (show 0≤n2 by omega),decide_eq_true h1];rfl
     (repeat (first|((with_reducible refine Za8 ?_ ?_ ?_);(focus exact fun ⟨_,_,h⟩=>h);(focus rfl))|gi_step))
     refine Ord.wpIn_region (fun ⟨_,_,h⟩=>h) [(0,0),(1,0),(2,0),(3,0),(4,0),(5,0),(6,0),(7,0),(8,0),(9,0),(10,0),(11,0),(12,0),(13,0),(14,0),(15,0),(16,0),(17,0),(18,0),(19,0),(20,0),(21,0)] (fun W=>W=W₂.drew) kr_ kr_ kr_ (fun c a d v w h=>by cases d <;> exact h) rfl ?_
     go_wp2_with (first
      | with_reducible refine Zyi rfl rfl (fun K hK=>?_)
      | with_reducible refine Zyj ?_)
     gi_wp2_with fail
     exact ⟨(Lets.refl _ _).drew,trivial,HGK.out hqf hp,bR.drew,hLt.drew⟩
    ·have hqf:q=false:=by rw [HQ.out];simp only [hb1,decide_eq_true (show 0≤n2 by omega),decide_eq_false h1];rfl
     exact Qd
  ·have hb1:Zfg n3=false:=decide_eq_false hb
   have hq:n3 / 2≠0:=by omega
   have hqf:q=false:=by rw [HQ.out];simp only [hb1];rfl
   exact Qd
 case stop =>
  rintro c W ⟨rfl,hR,bR,hlf⟩ hMm hD
  refine wpIn_ret ?_
  simp only [Exit.inBlock,Exit.noGoto]
  refine Zbu (v:=.bool false) rfl hD fun w' hl hs=>?_
  have rf:=(Zc8 bR hl (fun _=>om_)).cell
  have hl2:Lets (fun k _=>k=N+1∨M+3≤k) w5 w':=hlf.trans (hl.mono fun _ _ e=>om_)
  have hBf:Below N w w':=Za3 hB5 hl2 (by have:=HN.out;omega) (fun _ _ _=>om_)
  exact ⟨by simp [results,results370,go_sem,rf],by rw [hR];rfl,by rw [HN.out];exact hBf⟩
 case done =>
  intro W hI' _ hD
  obtain ⟨hall,bR,hLt⟩:=hI'
  rw [List.take_length] at hall
  have b1W:=hLt.blk b15 om_
  have r1:=b1W.cell
  have l1:=b1W.lt
  have hBW:Below N w W:=Za3 hB5 hLt (by have:=HN.out;omega) (fun _ _ _=>om_)
  have hsW:=lt_of_block hD
  simp only [Exit.inBlock,Exit.then]
  go_wp2_with (first
   | (go_at_call 286;refine (HV.out _ hBW).mono ?_;rintro e w6 ⟨ca,cc,rfl,hb6,hr⟩)
   | (go_at_call 371;refine (HC.out _ _ _ hr).mono ?_;rintro e w7 ⟨s,x,rfl,hb7,hx⟩;refine Za2 ?_))
  unfold Stop
  have hbW7:Below W.heap.size W w7:=hb6.trans (hb7.mono hb6.size)
  have bR7:=bR.below hbW7 bR.lt
  have hB7:Below N w w7:=hBW.trans (hbW7.mono (by have:=bR.lt;omega))
  have hD7:w7.heap[w5.heap.size]? = some (.deferred (some [])):=(hbW7.block _ hsW).trans hD
  have hLt7:Lets (fun k _=>k=N+1∨M+3≤k) w5 w7:=hLt.trans (Lets.of_below hbW7)
  clear hr hb6 hb7 hbW7 r1 l1 b1W hD hLt hBW hsW bR
  have fR:=bR7.free
  have lR:=bR7.lt
  have rR:=bR7.cell
  obtain ⟨vq,hvq⟩:∃ vq,(x != 1)=vq:=⟨_,rfl⟩
  have hvv:vq=v:=by
   rw [← hvq]
   cases v with
   | false=>rw [hx.2 rfl];rfl
   | true=>simpa using fun e=>by have:=hx.1 e;cases this
  subst hvv
  go_wp2_with fail
  obtain ⟨Wf,hWf⟩:∃ Wf,w7.setCell ⟨N+1,0,none⟩ (.bool vq)=Wf:=⟨_,rfl⟩
  have bf:Blk Wf (N+1) #[.bool vq] 4:=by rw [← hWf];exact bR7.set 0 _
  have hlf:Lets (fun k _=>k=N+1∨M+3≤k) w5 Wf:=by rw [← hWf];exact hLt7.setCell (.inl rfl) _
  have hDf:Wf.heap[M+3]? = some (.deferred (some [])):=by rw [← hWf,← hs5];exact (Below.heap_setCell w7 _ _ _ (by simp only;omega)).trans hD7
  change bodyPostM Fence.wide 0 prog _ _ .ret _ (w7.setCell ⟨N+1,0,none⟩ (.bool vq))
  rw [hWf]
  refine Zbu (v:=.bool vq) rfl hDf fun w' hl hs=>?_
  have rf:=(Zc8 bf hl (fun _=>om_)).cell
  have hl2:Lets (fun k _=>k=N+1∨M+3≤k) w5 w':=hlf.trans (hl.mono fun _ _ e=>om_)
  have hBf:Below N w w':=Za3 hB5 hl2 (by have:=HN.out;omega) (fun _ _ _=>om_)
  exact ⟨by simp [results,results370,go_sem,rf],by rw [hall];rfl,by rw [HN.out];exact hBf⟩
end
end Go.Proofs.YtbapgefodmmikaaGreatDoor
namespace Go.Proofs.YtbapgefodmmikaaGreatDoor
open Go.RowKit Go.Proofs Go.Ord Tryz
attribute [local irreducible] Ord.walk
section
variable {w:World}{O:Nat}{b:Ov}{l:List Nt}{sa:Option Addr}{sc:Nat}{fa:Option Addr}{fc:Nat}{na:Option Addr}{nc:Nat}
def Zfq (O:Nat):Array Value:=#[.iface 306 (.agg #[.pointer O]),.iface 305 (.agg #[.pointer O]),.iface 308 (.agg #[.pointer O])]
theorem Zkf:Zdw prog 210 3:=⟨_,underlying210,rfl,by kernel_rfl⟩
theorem Zw5 (O:Nat) (w:World) :
  Calls prog 150 #[.pointer O] w (Zak (.agg (Zfq O)) w):=by
 unfold Zfq
 go_enter func150,ntmps150
 have b0:Blk (w.alloc (.cells #[.nilIface,.nilIface,.nilIface] 210)) w.heap.size #[.nilIface,.nilIface,.nilIface] 210:=Blk.new _ _ _
 have hB0:w (w.alloc (.cells #[.nilIface,.nilIface,.nilIface] 210)):=by exact bel_
 go_wp2_with (first
  | (refine Za1 210 (.tmp 2) (.tmp 14) Zkf rfl rfl rfl rfl (b0.alloc _) rfl rfl (by simp [Value.oneCell']) ?_;intro w4 h4))
 refine bodyPost_ret (Za5 rfl _ Zkf rfl h4.blk rfl) rfl ⟨rfl,?_⟩
 exact Za3 ((hB0.alloc sp_ _)) ((Lets.refl _ _).rowed (X:=fun k _=>w.heap.size≤k) h4 nl_) nl_ (fun _ _ h e=>om_)
theorem Zw2 (h:OvAt w O b l sa sc fa fc na nc) (hI:OvIn b l) :
  Calls prog 61 #[.pointer O] w (Zak (.bool (Zbq b l)) w):=by
 have H1:=hd_ (fun W (hb:Below w.heap.size w W)=>o_validV (h.below hb) hI)
 have H2:=hd_ (fun W (hb:Below w.heap.size w W)=>o_validC (h.below hb) hI)
 have H3:=hd_ (fun W (hb:Below w.heap.size w W)=>o_validL (h.below hb) hI)
 have HM:=hd_ (fun W=>Zw5 O W)
 have hO:=h.blk.lt
 unfold Zbq
 generalize Zrz b l=v1 at *
 generalize Zs1 b l=v2 at *
 generalize Zs0 b l=v3 at *
 clear h hI
 have m1 : ∀ w, (method 551 306 (.agg #[.pointer (some ⟨O, 0, none⟩)]) "shearworks/overseer.valid").run prog w = .ok (367, .agg #[.pointer (some ⟨O, 0, none⟩)]) w := fun _ => by kernel_rfl
 have m2 : ∀ w, (method 551 305 (.agg #[.pointer (some ⟨O, 0, none⟩)]) "shearworks/overseer.valid").run prog w = .ok (363, .agg #[.pointer (some ⟨O, 0, none⟩)]) w := fun _ => by kernel_rfl
 have m3 : ∀ w, (method 551 308 (.agg #[.pointer (some ⟨O, 0, none⟩)]) "shearworks/overseer.valid").run prog w = .ok (370, .agg #[.pointer (some ⟨O, 0, none⟩)]) w := fun _ => by kernel_rfl
 have i1:∀ w,(Instr.index 210 (.agg (Zfq O)) ↑()).run prog w=.ok (.iface 306 (.agg #[.pointer O])) w:=fun _=>by kernel_rfl
 have i2:∀ w,(Instr.index 210 (.agg (Zfq O)) (.int .i64 1)).run prog w=.ok (.iface 305 (.agg #[.pointer O])) w:=fun _=>by kernel_rfl
 have i3:∀ w,(Instr.index 210 (.agg (Zfq O)) (.int .i64 2)).run prog w=.ok (.iface 308 (.agg #[.pointer O])) w:=fun _=>by kernel_rfl
 unfold Zfq at HM i1 i2 i3
 go_enter func61,ntmps61
 go_wp2_with (first
  | (go_at_call 150;refine (HM.out _).mono ?_;rintro e w2 ⟨rfl,hb2⟩))
 go_loopw [4,7,8,9,10,11,12,13] (fun x4 x7 x8 x9 x10 x11 x12 x13 wr=>Below w.heap.size w wr∧(x7=.int .i64 0∨(x7=.int .i64 1∧v1=true)∨(x7=.int .i64 2∧v1=true∧v2=true)∨(x7=.int .i64 3∧v1=true∧v2=true∧v3=true))) (fun _ x7 _ _ _ _ _ _ _=>3 - (intOf x7).toNat)
 case atStart=>exact ⟨hb2,.inl rfl⟩
 case round =>
  obtain ⟨hbr,hc⟩:=hrel
  rcases hc with rfl | ⟨rfl,hv1⟩ | ⟨rfl,hv1,hv2⟩ | ⟨rfl,hv1,hv2,hv3⟩
  ·go_wp2_with (first
    | (go_at_call 367;refine (H1.out _ hbr).mono ?_;rintro e w3 ⟨rfl,hb3⟩;refine Za2 ?_))
   unfold Stop
   have hbf:=hbr.trans (hb3.mono hbr.size)
   cases v1 with
   | false =>
    go_wp2_with fail
    go_ret
    exact ⟨rfl,hbf⟩
   | true =>
    go_wp2_with fail
    exact ⟨⟨hbf,.inr (.inl ⟨rfl,trivial⟩)⟩,by simp [intOf]⟩
  ·subst hv1
   go_wp2_with (first
    | (go_at_call 363;refine (H2.out _ hbr).mono ?_;rintro e w3 ⟨rfl,hb3⟩;refine Za2 ?_))
   unfold Stop
   have hbf:=hbr.trans (hb3.mono hbr.size)
   cases v2 with
   | false =>
    go_wp2_with fail
    go_ret
    exact ⟨rfl,hbf⟩
   | true =>
    go_wp2_with fail
    exact ⟨⟨hbf,.inr (.inr (.inl ⟨rfl,trivial,trivial⟩))⟩,by simp [intOf]⟩
  ·subst hv1 hv2
   go_wp2_with (first
    | (go_at_call 370;refine (H3.out _ hbr).mono ?_;rintro e w3 ⟨rfl,hb3⟩;refine Za2 ?_))
   unfold Stop
   have hbf:=hbr.trans (hb3.mono hbr.size)
   cases v3 with
   | false =>
    go_wp2_with fail
    go_ret
    exact ⟨rfl,hbf⟩
   | true =>
    go_wp2_with fail
    exact ⟨⟨hbf,.inr (.inr (.inr ⟨rfl,trivial,trivial,trivial⟩))⟩,by simp [intOf]⟩
  ·subst hv1 hv2 hv3
   go_wp2_with fail
   go_ret
   exact ⟨rfl,hbr⟩
end
end Go.Proofs.YtbapgefodmmikaaGreatDoor
namespace Go.Proofs.YtbapgefodmmikaaGreatDoor
open Go.RowKit Go.Proofs Go.Ord Tryz
attribute [local irreducible] Ord.walk
attribute [local go_sem] Oper.semAt_some
section
variable {w:World}{O:Nat}{b:Ov}{l:List Nt}{sa:Option Addr}{sc:Nat}{fa:Option Addr}{fc:Nat}{na:Option Addr}{nc:Nat}
def bgV (b:Ov) (sa:Option Addr) (sc:Nat) (fa:Option Addr) (fc:Nat):Array Value :=
 #[b.V,b.nd,b.lo,b.hi,b.sh,b.most,.slice sa b.strays.length sc,.slice fa b.fl.length fc,b.may,b.drift,b.mist]
theorem Zge:Zdw prog 27 11:=⟨_,underlying27,rfl,by kernel_rfl⟩
theorem o_many (h:OvAt w O b l sa sc fa fc na nc) (hl:l.length≤1000000) (f la:Int) :
  Calls prog 284 #[.slice na l.length nc,f,la] w (Zak (.int .i64 ((ofO l f la).length:Int)) w):=by
 have HOf:=hd_ (fun W=>o_of na l.length nc f la W)
 have HRow:=hd_ (fun W (hb:Below w.heap.size w W)=>h.notes.below hb)
 have hgs:(ofO l f la).length≤1000000:=Nat.le_trans (List.length_filter_le _ _) hl
 clear h
 refine callsIn_wide.1 (callsIn_of_wp_marks (F:=Fence.wide) (n:=0) func284 rfl trivial (wpIn_wide.2 ?_) rfl)
 simp only [ntmps284,List.size_toArray,List.length_cons,List.length_nil,Nat.reduceAdd,Nat.reduceSub,Array.replicate_succ,Array.replicate_zero,List.push_toArray,List.append_toArray,List.nil_append,List.cons_append]
 have hB2:w (w.alloc (.cells #[()] 3)):=by exact bel_
 have b2:Blk (w.alloc (.cells #[()] 3)) w.heap.size #[()] 3:=Blk.new _ _ _
 have hs2:(w.alloc (.cells #[()] 3)).heap.size=w.heap.size+1:=by simp
 go_wp2_with (first
  | (go_at_call 285;refine (HOf.out _).mono ?_;rintro e w5 ⟨rfl,hw5⟩;refine Za2 ?_))
 unfold Stop
 rw [← hw5]
 generalize w.alloc (.cells #[()] 3)=w2 at *
 generalize hN:w.heap.size=N at *
 have HN:=hd_ hN
 clear hN
 have hb5:Below (N+1) w2 w5:=by rw [hw5,← hs2];exact bel_
 have hs5:w5.heap.size=N+4:=by rw [hw5];simp [hs2]
 have hB5:Below N w w5:=hB2.trans (hb5.mono om_)
 have hOf5:OfAt w5 (N+1) l na nc f la:=by
  refine ⟨?_,?_,?_,HRow.out w5 hB5⟩
  ·rw [hw5,← hs2];exact ((Blk.new _ _ _).alloc _).alloc _
  ·rw [hw5];exact (Blk.new' _ _ _ _ (by simp [hs2])).alloc _
  ·rw [hw5];exact Blk.new' _ _ _ _ (by simp [hs2])
 have b25:=b2.below hb5 om_
 clear hw5 hb5 b2 hB2 hs2
 go_wp2_with fail
 refine (wpIn_wide (n:=0)).1 (Zcq (encs:=fun n=>#[.agg (ntL n).toArray]) (xs:=ofO l f la) (XI:=fun _ _=>False) (XB:=fun k _=>k=N∨N+6≤k) (Mid:=fun _=>True)
  (fun k A=>Blk A N #[.int .i64 (k:Int)] 3∧Lets (fun k _=>k=N∨N+4≤k) w5 A)
  (fun c A=>False)
  rfl call316 (fun _=>rfl)
  (fun W1 hb1 hs1=>Zjr l na nc f la om_ (N+1) _ W1 ⟨hOf5.b0.below hb1 om_,hOf5.b1.below hb1 om_,hOf5.b2.below hb1 om_,hOf5.rows.below hb1⟩ _ (fun wr hl=>by
   have hl2:Lets (fun k _=>k=N∨N+4≤k) w5 wr:=(Lets.of_below hb1).trans (hl.mono fun _ _ e=>om_)
   exact Q1e))
  (fun j o h1 h2 e=>e) (fun j o h1 h2 e=>om_)
  (fun k A B h hl=>⟨hl.blk h.1 (fun e=>e),h.2.trans (hl.mono fun _ _ e=>e.elim)⟩)
  (fun c A B h hl=>h)
  (fun k A B h hl=>⟨hl.blk h.1 (fun e=>om_),h.2.trans (hl.mono fun _ _ e=>om_)⟩)
  (fun c A B h hl=>h)
  (fun A B h hl=>trivial) ⟨b25,Lets.refl _ _⟩ ?round ?done ?stop)
 case stop =>
  intro c W h
  exact h.elim
 case round =>
  intro k hk A' hI' _ hsz hrec
  have hk2:(k:Int) < 1000000:=by omega
  clear hI'
  generalize (ofO l f la)[k]=n at *
  obtain ⟨n1,n2,n3,n4⟩:=n
  unfold Zcp
  unfold ntL
  gi_wp2_with fail
  refine ⟨Lets.refl _ _,fun W₂ hl2 hs2 hI2 _=>?_⟩
  obtain ⟨bR,hLt⟩:=hI2
  clear hl2 hs2 hk hrec
  have rR:=bR.cell
  have fR:=bR.free
  have lR:=bR.lt
  gi_wp2_with fail
  have hX:Lets (fun k _=>k=N) W₂ (W₂.setCell ⟨N,0,none⟩ (.int .i64 ((k:Int)+1))):=(Lets.refl _ _).setCell rfl _
  exact ⟨hX.mono fun _ _ e=>.inl e,trivial,by have:=bR.set 0 (.int .i64 ((k:Int)+1));exact this,hLt.trans (hX.mono fun _ _ e=>.inl e)⟩
 case done =>
  intro W hI' _ hD
  obtain ⟨bR,hLt⟩:=hI'
  have fR:=bR.free
  have lR:=bR.lt
  have rR:=bR.cell
  simp only [Exit.inBlock,Exit.then]
  go_wp2_with fail
  obtain ⟨Wf,hWf⟩:∃ Wf,W.setCell ⟨N,0,none⟩ (.int .i64 ((ofO l f la).length:Int))=Wf:=⟨_,rfl⟩
  have bf:Blk Wf N #[.int .i64 ((ofO l f la).length:Int)] 3:=by rw [← hWf];exact bR.set 0 _
  have hlf:Lets (fun k _=>k=N∨N+4≤k) w5 Wf:=by rw [← hWf];exact hLt.setCell (.inl rfl) _
  have hDf:Wf.heap[w5.heap.size]? = some (.deferred (some [])):=by rw [← hWf];exact (Below.heap_setCell W _ _ _ (by simp only;omega)).trans hD
  change bodyPostM Fence.wide 0 prog _ _ .ret _ (W.setCell ⟨N,0,none⟩ (.int .i64 ((ofO l f la).length:Int)))
  rw [hWf]
  refine Zbu (v:=.int .i64 ((ofO l f la).length:Int)) rfl hDf fun w' hl hs=>?_
  have rf:=(Zc8 bf hl (fun _=>om_)).cell
  have hl2:Lets (fun k _=>k=N∨N+4≤k) w5 w':=hlf.trans (hl.mono fun _ _ e=>om_)
  have hBf:Below N w w':=Za3 hB5 hl2 (by have:=HN.out;omega) (fun _ _ _=>om_)
  exact ⟨by simp [results,results284,go_sem,rf],rfl,by rw [HN.out];exact hBf⟩
theorem o_Notes (h:OvAt w O b l sa sc fa fc na nc) (hl:l.length≤1000000) :
  Calls prog 23 #[.pointer O] w (fun e w'=>∃ v,e=.returned v∧Below w.heap.size w w'∧w'.ownsRow w.heap.size 88 4 v l.length (l.flatMap ntL)):=by
 have HC:=hd_ (fun W (hb:Below w.heap.size w W)=>Zh0 l na nc hl W (h.notes.below hb))
 have r:=h.blk.cell
 have lt:=h.blk.lt
 clear h
 unfold ovV at *
 go_enter func23,ntmps23
 go_wp2_with (first
  | (go_at_call 77;refine (HC.out _ br_).mono ?_;rintro e w2 ⟨v,rfl,hb2,hown⟩))
 go_ret
 exact ⟨v,rfl,hb2,hown⟩
end
section
variable {w:World}{b:Ov}{sa:Option Addr}{sc:Nat}{fa:Option Addr}{fc:Nat}
def NewP (b:Ov) (v:Bool) (w:World) (e:Ending) (w':World):Prop :=
 (v=true∧∃ O sa sc fa fc,e=.returned (.tuple #[.pointer (some ⟨O,0,none⟩),()])∧w w'∧w.heap.size≤O∧OvAt w' O b [] sa sc fa fc none 0∧(∀ g,(Value.slice sa b.strays.length sc).ownBlock=some g→w.heap.size≤g∧g < O)∧(∀ g,(Value.slice fa b.fl.length fc).ownBlock=some g→w.heap.size≤g∧g < O)) ∨
 (v=false∧e=.returned (.tuple #[.pointer none,.int .i64 1])∧w w')
theorem o_New (hs:RowsAt w sa 2 Zax b.strays) (hf:RowsAt w fa 1 numL b.fl) (hls:b.strays.length≤40) (hlf:b.fl.length≤40) (hv:VarsOk w) :
  Calls prog 17 #[.agg (bgV b sa sc fa fc)] w (NewP b (Zbq b []) w):=by
 have HS:=hd_ (fun W (hb:Below w.heap.size w W)=>Zn5 b.strays sa sc om_ W (hs.below hb))
 have HF:=hd_ (fun W (hb:Below w.heap.size w W)=>Zp2 b.fl fa fc om_ W (hf.below hb))
 have HV:Hid (∀ W O sa sc fa fc,OvAt W O b [] sa sc fa fc none 0→Calls prog 61 #[.pointer (some ⟨O,0,none⟩)] W (Zak (.bool (Zbq b [])) W)):=fun W O sa sc fa fc h=>Zw2 h ⟨hls,hlf,sp_,sp_⟩
 have HVar:=hd_ (fun W (hb:Below w.heap.size w W)=>hv.below hb hv.2.2.2.2)
 generalize Zbq b []=vd at *
 clear hs hf hv
 obtain ⟨w2,hw2⟩:∃ w2,(w.alloc (.cells (bgV b sa sc fa fc) 27)).alloc (.cells #[(),(),(),(),(),(),.slice none 0 0,.slice none 0 0,(),(),()] 27)=w2:=⟨_,rfl⟩
 have hB2:Below w.heap.size w w2:=by rw [← hw2];exact bel_
 have b1:Blk w2 w.heap.size (bgV b sa sc fa fc) 27:=by rw [← hw2];exact (Blk.new _ _ _).alloc _
 have b10:Blk (w.alloc (.cells (bgV b sa sc fa fc) 27)) w.heap.size (bgV b sa sc fa fc) 27:=Blk.new _ _ _
 have b2:Blk w2 (w.heap.size+1) #[(),(),(),(),(),(),.slice none 0 0,.slice none 0 0,(),(),()] 27:=by rw [← hw2];exact Blk.new' _ _ _ _ sp_
 have hs2:w2.heap.size=w.heap.size+2:=by rw [← hw2];simp
 unfold bgV at *
 go_enter func17,ntmps17
 go_wp2_with (first
  | (refine Za0 27 (.tmp 1) Zge rfl rfl rfl b10 rfl ?_)
  | (refine Za1 27 (.tmp 4) (.tmp 6) Zge rfl rfl rfl rfl b2 rfl rfl (by simp [Value.oneCell']) ?_;intro w3 h3))
 have hb23:Lets (fun k _=>k=w.heap.size+1) w2 w3:=(Lets.refl _ _).rowed h3 rfl
 have b13:=hb23.blk b1 om_
 have b23:=h3.blk
 have hB3:w w3:=Za3 hB2 hb23 nl_ (fun _ _ _=>om_)
 have hs3:w3.heap.size=w.heap.size+2:=by rw [h3.size,hs2]
 clear hw2 b1 b10 b2 h3 hb23 hs2 hB2
 generalize hN:w.heap.size=N at *
 have HN:=hd_ hN
 clear hN
 have r1:=b13.cell
 have l1:=b13.lt
 refine Zyu [(0,0),(1,0),(3,1),(4,1),(2,2),(6,1),(5,2),(7,2),(8,0),(9,2)] (fun W=>Below (N+1) w3 W) kr_ kr_ br_.drew ?_
 go_wp2_with (first
  | ((with_reducible refine Zyp ?_);refine Za2 ?_)
  | (go_at_call 59;refine (HS.out _ hB3.drew).mono ?_;rintro e w4 ⟨v1,rfl,hb4,hown1⟩;obtain ⟨a1,c1,rfl⟩:=Zb9 hown1;have hH4:Below (N+1) w3 w4:=br_.drew.trans (hb4.mono (by simp [hs3]));have hB4:Below N w w4:=hB3.trans (hH4.mono om_);have b24:=b23.drew.below hb4 b23.drew.lt)
  | (go_at_call 60;refine (HF.out _ hB4).mono ?_;rintro e w5 ⟨v2,rfl,hb5,hown2⟩;obtain ⟨a2,c2,rfl⟩:=Zb9 hown2;have hH5:Below (N+1) w3 w5:=hH4.trans (hb5.mono (by have:=hH4.size;omega));have b25:=b24.below hb5 b24.lt;have r5:=b25.cell;have f5:=b25.free;have l5:=b25.lt;have b26:=b25.set 6 (.slice a1 b.strays.length c1);have r6:=b26.cell;have f6:=b26.free;have l6:=b26.lt;have hH6:Below (N+1) w3 (w5.setCell ⟨N+1,6,none⟩ (.slice a1 b.strays.length c1)):=hH5.setCell sp_ _)
  | ((with_reducible refine Zye ?_);refine Zyq (ad:=⟨N,7,none⟩) (.slice fa b.fl.length fc) rfl rfl ?_ ?_;(focus (intro W hW;have r:=(b13.below hW om_).cell 7;simp [go_sem,r,bgV];done));intro K hK)
  | ((with_reducible refine Zyf ?_ (fun hOF=>?_));(focus assumption))
  | (refine o_ ?_;intro K hK)|(with_reducible first|refine Zyo ?_ ?_|refine Zyj ?_|refine Zyf bn_ (fun _=>?_)))
 unfold Stop
 obtain ⟨w7,hw7⟩:∃ w7,(w5.setCell ⟨N+1,6,none⟩ (.slice a1 b.strays.length c1)).setCell ⟨N+1,7,none⟩ (.slice a2 b.fl.length c2)=w7:=⟨_,rfl⟩
 rw [hw7]
 have hl7:Lets (fun k _=>k=N+1) w5 w7:=by rw [← hw7];exact ((Lets.refl _ _).setCell rfl _).setCell rfl _
 have b7:Blk w7 (N+1) #[b.V,b.nd,b.lo,b.hi,b.sh,b.most,.slice a1 b.strays.length c1,.slice a2 b.fl.length c2,b.may,b.drift,b.mist] 27:=by rw [← hw7];exact b26.set 7 _
 have hB7:Below N w w7:=Za3 (hB3.trans (hH5.mono om_)) hl7 (by have:=HN.out;omega) (fun _ _ _=>om_)
 have hown1':=Zbn hown1 nl_ fun g hg=>hb5.block g (Zad hown1 hg).2
 have hown17:=Zaw hown1' hl7 (fun k _ h e=>by simp only [World.size_drew] at h;omega)
 have hown27:=Zaw hown2 hl7 (fun k _ h e=>by have:=hH4.size;omega)
 have hg1:∀ g,(Value.slice a1 b.strays.length c1).ownBlock=some g→N≤g∧g < w7.heap.size:=fun g hg=>by have:=(Zad hown1 hg).1;have h17:=(Zad hown17 hg).2;simp only [World.size_drew] at this;exact ⟨om_,h17⟩
 have hg2:∀ g,(Value.slice a2 b.fl.length c2).ownBlock=some g→N≤g∧g < w7.heap.size:=fun g hg=>by have:=(Zad hown2 hg).1;have:=hH4.size;have h27:=(Zad hown27 hg).2;exact ⟨om_,h27⟩
 obtain ⟨a1',c1',e1,hr1⟩:=Zbm Zd7 hown17
 obtain ⟨a2',c2',e2,hr2⟩:=Zbm Zea hown27
 simp only [Value.slice.injEq,true_and] at e1 e2
 obtain ⟨rfl,rfl⟩:=e1
 obtain ⟨rfl,rfl⟩:=e2
 have hs7:N+2≤w7.heap.size:=b7.lt
 clear hw7 b26 b25 b24 b13 b23 r1 l1 r5 f5 l5 r6 f6 l6 hb4 hb5 hH4 hH5 hH6 hB4 hB3 hown1 hown2 hown1' hown17 hown27 hl7
 have hO8:OvAt (w7.alloc (.cells (ovV b 0 a1 c1 a2 c2 none 0) 93)) w7.heap.size b [] a1 c1 a2 c2 none 0:=⟨Blk.new _ _ _,hr1.below (Below.refl _ _ |>.alloc nl_ _),hr2.below (Below.refl _ _ |>.alloc nl_ _),fun i hi=>absurd hi sp_,HVar.out _ (hB7.alloc om_ _)⟩
 have hB8:Below N w (w7.alloc (.cells (ovV b 0 a1 c1 a2 c2 none 0) 93)):=hB7.alloc om_ _
 have HO8:=hd_ hO8
 clear hO8 hr1 hr2
 unfold ovV at HO8 hB8
 go_wp2_with (first
  | (refine Za0 27 (.tmp 4) Zge rfl rfl rfl b7 rfl ?_)
  | (go_at_call 61;refine (HV.out _ _ _ _ _ _ HO8.out).mono ?_;rintro e w9 ⟨rfl,hb9⟩;refine Za2 ?_))
 unfold Stop
 have hB9:Below N w w9:=hB8.trans (hb9.mono (by have:=hB8.size;have:=HN.out;omega))
 have hO9:=HO8.out.below hb9
 cases vd with
 | true =>
  go_wp2_with fail
  go_ret2
  exact Or.inl ⟨rfl,w7.heap.size,a1,c1,a2,c2,rfl,by rw [HN.out];exact hB9,by have:=HN.out;omega,hO9,by rw [HN.out];exact hg1,by rw [HN.out];exact hg2⟩
 | false =>
  go_wp2_with fail
  go_ret2
  exact Or.inr ⟨rfl,rfl,by rw [HN.out];exact hB9⟩
end
end Go.Proofs.YtbapgefodmmikaaGreatDoor
