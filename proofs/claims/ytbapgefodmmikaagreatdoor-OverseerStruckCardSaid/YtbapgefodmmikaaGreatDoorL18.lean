/- Parts of a proof. -/
import Derived.Test.YtbapgefodmmikaaGreatDoorLMin
import Derived.Test.YtbapgefodmmikaaGreatDoorL17
set_option linter.unusedVariables false
set_option linter.unusedSimpArgs false
set_option maxHeartbeats 40000000
set_option maxRecDepth 100000
namespace Go.Proofs.YtbapgefodmmikaaGreatDoor
open Go.RowKit Go.Proofs Go.Ord Tryz
attribute [local irreducible] Ord.walk
theorem c_toF {W0:World}{T:Nat}{c:Cl}{ba:Option Addr}{bc mb:Nat}(hO:Zb4 W0 T c ba bc mb) (hL:Zc3 c) (set:Nat) (hs:set < 64) (n:Nat):n < c.bs.length→∀ (w:World),Ln W0 mb c w →
  Calls prog 213 #[.pointer T,kfC (set,n,false)] w (Zcw W0 mb c (.agg (cs (toC (dC c) c.bs set n false))) w):=by
 induction n with
 | zero=>exact fun hn w hw=>Zns hO hL set hs 0 hn false (fun n' h _ _ _=>by rw [if_neg de_] at h;omega) w hw
 | succ n ih=>exact fun hn w hw=>Zns hO hL set hs (n+1) hn false (fun n' h h2 W hW=>by
   have e:n'=n:=by rw [if_neg de_] at h;omega
   rw [e]
   exact ih om_ W hW) w hw
theorem c_toB {W0:World}{T:Nat}{c:Cl}{ba:Option Addr}{bc mb:Nat}(hO:Zb4 W0 T c ba bc mb) (hL:Zc3 c) (set:Nat) (hs:set < 64) (k:Nat):∀ (n:Nat),n+k=c.bs.length - 1→n < c.bs.length→∀ (w:World),Ln W0 mb c w →
  Calls prog 213 #[.pointer T,kfC (set,n,true)] w (Zcw W0 mb c (.agg (cs (toC (dC c) c.bs set n true))) w):=by
 induction k with
 | zero=>exact fun n hk hn w hw=>Zns hO hL set hs n hn true (fun n' h h2 _ _=>by rw [if_pos rfl] at h;omega) w hw
 | succ k ih=>exact fun n hk hn w hw=>Zns hO hL set hs n hn true (fun n' h h2 W hW=>by
   have e:n'=n+1:=by rw [if_pos rfl] at h;omega
   rw [e]
   exact ih (n+1) om_ om_ W hW) w hw
theorem c_to {W0:World}{T:Nat}{c:Cl}{ba:Option Addr}{bc mb:Nat}(hO:Zb4 W0 T c ba bc mb) (hL:Zc3 c) (set:Nat) (hs:set < 64) (n:Nat) (hn:n < c.bs.length) (back:Bool) (w:World) (hw:Ln W0 mb c w) :
  Calls prog 213 #[.pointer T,kfC (set,n,back)] w (Zcw W0 mb c (.agg (cs (toC (dC c) c.bs set n back))) w):=by
 cases back
 ·exact c_toF hO hL set hs n hn w hw
 ·exact c_toB hO hL set hs (c.bs.length - 1 - n) n om_ hn w hw
theorem Zub {W0:World}{T:Nat}{c:Cl}{ba:Option Addr}{bc mb:Nat}(hO:Zb4 W0 T c ba bc mb) (hL:Zc3 c) (set:Nat) (hs:set < 64) (w:World) (hw:Ln W0 mb c w) :
  Calls prog 210 #[.pointer T,.int .u64 (set:Int)] w (Zcw W0 mb c ↑(Zh4 c set) w):=by
 have hlen:=hL.len
 have hmb:=hO.mb_lt
 have HT:Hid (∀ x:Int,x=(c.bs.length:Int) - 1→Calls prog 213 #[.pointer T,.agg #[.int .u64 (set:Int),.int .i64 x,.bool false]] w (Zcw W0 mb c (.agg (cs (toC (dC c) c.bs set (c.bs.length - 1) false))) w)):=fun x hx=>by
  obtain rfl:x=((c.bs.length - 1:Nat):Int):=by omega
  exact c_to hO hL set hs (c.bs.length - 1) om_ false w hw
 unfold Zh4
 rw [show c.drift.toNat=dC c from rfl]
 generalize toC (dC c) c.bs set (c.bs.length - 1) false=S at *
 have HM:=hd_ (c_least S)
 generalize Zwd S=M at *
 have hTab:=hO.at_ hw
 have rT:=hTab.blk.cell
 have lT:=hTab.blk.lt
 unfold tabV at rT
 have hli:(c.bs.length:Int)≤6:=by omega
 go_enter func210,ntmps210
 go_wp2_with (first
  | (go_at_call 213;refine (HT.out _ om_).mono ?_;rintro e w2 ⟨rfl,hLn2,hl2⟩)
  | (go_at_call 270;refine (HM.out _).mono ?_;rintro e w3 ⟨rfl,hb3⟩))
 go_ret
 exact ⟨rfl,hLn2.below hb3 hmb,hl2.trans (Lets.of_below hb3)⟩
theorem Zuc {W0:World}{T:Nat}{c:Cl}{ba:Option Addr}{bc mb:Nat}(hO:Zb4 W0 T c ba bc mb) (hL:Zc3 c) (set:Nat) (hs:set < 64) (w:World) (hw:Ln W0 mb c w) :
  Calls prog 125 #[.pointer T,.int .u64 (set:Int)] w (Zcw W0 mb c (.bool (canC c set)) w):=by
 have hmb:=hO.mb_lt
 have HT:=hd_ (fun W hW=>Zub hO hL set hs W hW)
 unfold canC
 generalize Zh4 c set=M at *
 have bT:=(hO.at_ hw).blk
 have hTm:=hO.T_ne
 go_enter func125,ntmps125
 go_wp2_with fail
 refine Zyu [(0,0),(1,0),(3,1),(4,1),(5,1),(6,1),(7,1),(2,2),(8,0),(9,0)] (fun W=>Lets (fun k _=>k=mb) w W) kr_ kr_ (Lets.refl _ _).drew ?_
 have hw':=hw.drew
 have hl0:=(Lets.refl (fun k _=>k=mb) w).drew
 go_wp2_with (first
  | (with_reducible refine Zyp ?_)
  | ((with_reducible refine Zye ?_);refine Zyq (ad:=⟨T,3,none⟩) ↑c.mist rfl rfl ?_ ?_;(focus (intro W hW;have r:=(hW.blk bT hTm).cell 3;simp [go_sem,r,tabV];done));intro K hK)
  | (go_at_call 210;refine (HT.out _ hw').mono ?_;rintro e w2 ⟨rfl,hLn2,hl2⟩;have hl02:=(Lets.refl (fun k _=>k=mb) w).drew.trans hl2)
  | (refine o_ ?_;intro K hK)|(with_reducible first|refine Zyo ?_ ?_|refine Zyj ?_|refine Zyf bn_ (fun _=>?_)))
 go_ret
 exact ⟨rfl,hLn2,hl02⟩
theorem Zqr {n:Nat}(h:n≤6):1≤2 ^ n∧2 ^ n≤64:=⟨Nat.one_le_two_pow,by have:=Nat.pow_le_pow_right (show 0 < 2 by omega) h;omega⟩
theorem Zgs {W0:World}{T:Nat}{c:Cl}{ba:Option Addr}{bc mb:Nat}(hO:Zb4 W0 T c ba bc mb) (hL:Zc3 c) (w:World) (hw:Ln W0 mb c w) :
  Calls prog 126 #[.pointer T] w (Same (.int .u64 (Zag c.bs:Nat)) w):=by
 have rT:=(hO.at_ hw).blk.cell
 unfold tabV at rT
 have hlen:=hL.len
 have hp:=Zqr hlen.2
 unfold Zag
 go_enter func126,ntmps126
 go_wp2
 go_ret
 refine ⟨Zdv ?_,rfl⟩
 clear rT hp hw
 obtain ⟨k,hk⟩:∃ k,c.bs.length=k:=⟨_,rfl⟩
 rw [hk] at hlen ⊢
 rcases (show k=1∨k=2∨k=3∨k=4∨k=5∨k=6 by omega) with rfl|rfl|rfl|rfl|rfl|rfl <;> rfl
theorem Znt {W0:World}{T:Nat}{c:Cl}{ba:Option Addr}{bc mb:Nat}(hO:Zb4 W0 T c ba bc mb) (hL:Zc3 c) (i:Int) (w:World) (hw:Ln W0 mb c w) :
  Calls prog 119 #[.pointer T,i] w (Same (.bool (decide (0≤i∧i≤(c.bs.length:Int) - 1))) w):=by
 have rT:=(hO.at_ hw).blk.cell
 unfold tabV at rT
 have hlen:=hL.len
 have hli:(c.bs.length:Int)≤6:=by omega
 have HW:=hd_ Znr
 go_enter func119,ntmps119
 go_wp2_with (first
  | (go_at_call 209;refine (HW.out _ _ _ _).mono ?_;rintro e w2 ⟨rfl,rfl⟩))
 go_ret
 refine ⟨Zd3 ?_,rfl⟩
 simp
theorem Zpq {W0:World}{T:Nat}{c:Cl}{ba:Option Addr}{bc mb:Nat}(hO:Zb4 W0 T c ba bc mb) (hL:Zc3 c) (n:Nat) (hn:n < c.bs.length) (set:Nat) (hs:set < 64) (w:World) (hw:Ln W0 mb c w) :
  Calls prog 128 #[.pointer T,n,.int .u64 (set:Int)] w (Zcw W0 mb c (.agg (cs (Zbg (dC c) c.bs n set))) w):=by
 have hlen:=hL.len
 have hmb:=hO.mb_lt
 have hsz:=hw.2.size
 obtain ⟨A,eA⟩:∃ A,toC (dC c) c.bs set n false=A:=⟨_,rfl⟩
 obtain ⟨B,eB⟩:∃ B,toC (dC c) c.bs set n true=B:=⟨_,rfl⟩
 obtain ⟨O,eO⟩:∃ O,ownC (c.bs.getD n (0,0,0)) (Zcz set n)=O:=⟨_,rfl⟩
 obtain ⟨R,eR⟩:∃ R,Zbg (dC c) c.bs n set=R:=⟨_,rfl⟩
 have hA:∀ i,i < 31→0≤A i∧A i≤65536:=by rw [← eA];exact Zs6 hL set n hn false
 have hB:∀ i,i < 31→0≤B i∧B i≤65536:=by rw [← eB];exact Zs6 hL set n hn true
 have hOw:∀ i,i < 31→0≤O i∧O i≤65536:=by rw [← eO];exact Zm5 (Zcy hL hn) _
 have hR:∀ i,R i=if 65536≤A i∨65536≤B i then 65536 else A i+(B i - O i):=by intro i;rw [← eR,← eA,← eB,← eO];rfl
 have HRi:=hd_ hR
 have HAi:=hd_ hA
 have HBi:=hd_ hB
 have HOi:=hd_ hOw
 have HS:=hd_ (fun W (hW:Ln W0 mb c W)=>c_step (w:=W) (hO.at_ hW) hlen.2 n hn set hs)
 have HW:=hd_ (fun W=>c_own c.drift (c.bs.getD n (0,0,0)) (Zcz set n) (Zcy hL hn) W)
 have HTf:=hd_ (fun W (hW:Ln W0 mb c W)=>c_to hO hL set hs n hn false W hW)
 have HTb:=hd_ (fun W (hW:Ln W0 mb c W)=>c_to hO hL set hs n hn true W hW)
 rw [eR]
 rw [eO] at HW
 rw [eA] at HTf
 rw [eB] at HTb
 clear eA eB eO eR hR hA hB hOw
 generalize c.bs.getD n (0,0,0)=Bl at *
 generalize Zcz set n=tk at *
 go_enter func128,ntmps128
 go_wp2_with fail
 obtain ⟨w1,hw1⟩:∃ w1,w.alloc (.cells Zo7 182)=w1:=⟨_,rfl⟩
 rw [hw1]
 have b6:Blk w1 w.heap.size (cs fun _=>0) 182:=by rw [← hw1];exact Blk.new _ _ _
 have hl1:Lets (fun k _=>k=mb) w w1:=Lets.of_below (by rw [← hw1];exact bel_)
 have hLn1:Ln W0 mb c w1:=hw.below (by rw [← hw1];exact bel_) hmb
 have hs1:w1.heap.size=w.heap.size+1:=by rw [← hw1];simp
 clear hw1
 generalize hN:w.heap.size=N at *
 have HN:=hd_ hN
 clear hN
 go_wp2_with (first
  | (go_at_call 211;refine (HS.out _ hLn1).mono ?_;rintro e w2 ⟨rfl,hb2⟩)
  | (go_at_call 212;refine (HW.out _).mono ?_;rintro e w3 ⟨rfl,hb3⟩)
  | (refine Za1 182 (.tmp 7) (.tmp 15) Za7 rfl rfl rfl rfl (Blk.new _ _ _) rfl (Za9 _) (Zck _) ?_;intro w4 h4;refine Za2 ?_))
 unfold Stop
 have b74:=h4.blk
 have hb14:Below w1.heap.size w1 w4:=h4.below ((hb2.trans (hb3.mono hb2.size)).alloc (by have:=hb2.size;have:=hb3.size;omega) _) (by have:=hb2.size;have:=hb3.size;omega)
 have h3s:N+1≤w3.heap.size:=by have:=hb2.size;have:=hb3.size;omega
 have b64:=b6.below hb14 b6.lt
 have hLn4:=hLn1.below hb14 hmb
 have hl4:=hl1.trans (Lets.of_below hb14)
 clear h4 hb2 hb3 hb14 b6 hLn1 hl1
 generalize hp7:w3.heap.size=p7 at *
 clear hp7
 have lt7:=b74.lt
 unfold kfC at HTf HTb
 go_wp2_with (first
  | (go_at_call 213;refine (HTf.out _ hLn4).mono ?_;rintro e w5 ⟨rfl,hLn5,hl5⟩;refine Za2 ?_))
 unfold Stop
 go_wp2_with (first
  | (go_at_call 213;refine (HTb.out _ hLn5).mono ?_;rintro e w6 ⟨rfl,hLn6,hl6⟩;refine Za2 ?_))
 unfold Stop
 have hl56:=hl5.trans hl6
 have b76:=hl56.blk b74 om_
 have b66:=hl56.blk b64 om_
 have hl06:=hl4.trans hl56
 have hs6:w4.heap.size≤w6.heap.size:=hl56.size
 clear hl56 hl5 hl6 hl4 b74 b64 hLn4 hLn5
 obtain ⟨w7,hw7⟩:∃ w7,(w6.alloc (.cells Zo7 182)).alloc (.cells Zo7 182)=w7:=⟨_,rfl⟩
 have b8:Blk w7 w6.heap.size (cs fun _=>0) 182:=by rw [← hw7];exact (Blk.new _ _ _).alloc _
 have b9:Blk w7 (w6.heap.size+1) (cs fun _=>0) 182:=by rw [← hw7];exact Blk.new' _ _ _ _ sp_
 have hb67:Below w6.heap.size w6 w7:=by rw [← hw7];exact bel_
 go_wp2_with (first
  | (refine Za1 182 (.tmp 8) (.tmp 20) Za7 rfl rfl rfl rfl b8 (Za9 _) (Za9 _) (Zck _) ?_;intro w8 h8)
  | (refine Za1 182 (.tmp 9) (.tmp 25) Za7 rfl rfl rfl rfl (h8.other b9 om_) (Za9 _) (Za9 _) (Zck _) ?_;intro w9 h9;refine Za2 ?_))
 unfold Stop
 have b89:=h9.other h8.blk om_
 have b99:=h9.blk
 have hb69:w6 w9:=h9.below (h8.below hb67 nl_) om_
 have b79:=b76.below hb69 b76.lt
 have b69:=b66.below hb69 b66.lt
 have hLn9:=hLn6.below hb69 hmb
 have hl09:=hl06.trans (Lets.of_below hb69)
 clear h8 h9 hb69 hb67 b8 b9 hw7 b76 b66 hLn6 hl06
 generalize hp8:w6.heap.size=p8 at *
 clear hp8
 have lt79:p7 < p8:=by omega
 go_wp2
 go_loopw [10,26,38] (fun x10 x26 x38 wr=>∃ k:Nat,k≤31∧x26=.int .i64 (k:Int)∧Ln W0 mb c wr∧Lets (fun k _=>k=mb) w wr∧Blk wr N (cs fun _=>0) 182∧Blk wr p7 (cs O) 182∧Blk wr p8 (cs (mixC R A k)) 182∧Blk wr (p8+1) (cs B) 182) (fun _ x26 _ _=>(31 - intOf x26).toNat)
 case atStart=>exact ⟨0,om_,rfl,hLn9,hl09,b69,b79,by rw [Ziz];exact b89,b99⟩
 case round =>
  clear hLn9 hl09 b69 b79 b89 b99
  obtain ⟨k,hk,rfl,hLr,hlr,b6,b7,b8,b9⟩:=hrel
  by_cases hlt:k < 31
  ·have hlti:(k:Int) < 31:=by omega
   have c8:wr.cell? ⟨p8,k,none⟩=some (.int .i64 (A k)):=by rw [b8.cell,Zgc _ hlt];simp [mixC]
   have c9:wr.cell? ⟨p8+1,k,none⟩=some (.int .i64 (B k)):=by rw [b9.cell,Zgc _ hlt]
   have c7:wr.cell? ⟨p7,k,none⟩=some (.int .i64 (O k)):=by rw [b7.cell,Zgc _ hlt]
   have f8:=b8.free k
   have l8:=b8.lt
   have l7:=b7.lt
   have l9:=b9.lt
   have hAk:=HAi.out k hlt
   have hBk:=HBi.out k hlt
   have hOk:=HOi.out k hlt
   have hRk:=HRi.out k
   have hfin:∀ v:Int,v=R k→∀ wf,wf=(wr.setCell ⟨p8,k,none⟩ ↑v)∨wf=(wr.drew.setCell ⟨p8,k,none⟩ ↑v)∨wf=(wr.setCell ⟨p8,k,none⟩ ↑v).drew→((∃ k_1:Nat,k_1≤31∧Value.int .i64 ((k:Int)+1)=↑k_1∧Ln W0 mb c wf∧Lets (fun k _=>k=mb) w wf∧Blk wf N (cs fun _=>0) 182∧Blk wf p7 (cs O) 182∧Blk wf p8 (cs (mixC R A k_1)) 182∧Blk wf (p8+1) (cs B) 182)∧(31 - intOf (.int .i64 ((k:Int)+1))).toNat < (31 - intOf (.int .i64 (k:Int))).toNat):=by
    intro v hv wf hwf
    subst hv
    have hX:Lets (fun j _=>j=p8) wr wf:=by
     rcases hwf with rfl|rfl|rfl
     ·exact (Lets.refl _ _).setCell rfl _
     ·exact (Lets.refl _ _).drew.setCell rfl _
     ·exact ((Lets.refl _ _).setCell rfl _).drew
    have h8:Blk wf p8 (cs (mixC R A (k+1))) 182:=by
     have h2:=b8.set k (.int .i64 (R k))
     rw [Zsw _ hlt,Zh2] at h2
     rcases hwf with rfl|rfl|rfl <;> exact h2
    refine ⟨⟨k+1,om_,by go_num,hLr.lets hX hmb (fun _ _ e=>om_),hlr.next hX (fun i hi _ e=>by have:=HN.out;omega),hX.blk b6 om_,hX.blk b7 om_,h8,hX.blk b9 om_⟩,by simp [intOf];omega⟩
   have HF:=hd_ hfin
   clear hfin b6 b7 b8 b9 hLr hlr
   obtain ⟨a,ha⟩:∃ a,A k=a:=⟨_,rfl⟩
   obtain ⟨b,hb⟩:∃ b,B k=b:=⟨_,rfl⟩
   obtain ⟨o,ho⟩:∃ o,O k=o:=⟨_,rfl⟩
   rw [ha] at hAk hRk c8
   rw [hb] at hBk hRk c9
   rw [ho] at hOk hRk c7
   have HRk:=hd_ hRk
   clear ha hb ho hRk
   by_cases h1:65536≤a
   ·go_wp2
    exact HF.out _ (by rw [HRk.out,if_pos (.inl h1)]) _ (by first|exact .inl rfl|exact .inr (.inl rfl)|exact .inr (.inr rfl))
   ·by_cases h2:65536≤b
    ·go_wp2
     exact HF.out _ (by rw [HRk.out,if_pos (.inr h2)]) _ (by first|exact .inl rfl|exact .inr (.inl rfl)|exact .inr (.inr rfl))
    ·go_wp2_with fail
     refine Zyu [(0,0),(1,0),(2,0),(3,0),(4,0),(5,0),(6,0),(7,0),(8,0),(9,0),(10,0),(11,0),(12,2)] (fun _=>True) kr_ kr_ trivial ?_
     go_wp2_with (first
      | (with_reducible refine Zyp ?_)
      | (refine o_ ?_;intro K hK)|(with_reducible first|refine Zyo ?_ ?_|refine Zyj ?_|refine Zyf bn_ (fun _=>?_)))
     exact HF.out _ (by rw [HRk.out,if_neg om_]) _ (by first|exact .inl rfl|exact .inr (.inl rfl)|exact .inr (.inr rfl))
  ·have hk31:k=31:=by omega
   subst hk31
   have hlti:¬ ((31:Nat):Int) < 31:=by omega
   rw [Zj0] at b8
   go_wp2_with (first
    | (refine Za0 182 (.tmp 8) Za7 rfl rfl rfl b8 (Za9 _) ?_)
    | (refine Za1 182 (.tmp 6) (.tmp 54) Za7 rfl rfl rfl rfl b6 (Za9 _) (Za9 _) (Zck _) ?_;intro w6 h6;refine Za2 ?_))
   unfold Stop
   go_wp2
   have hX:Lets (fun j _=>j=N) wr w6:=(Lets.refl _ _).rowed h6 rfl
   refine bodyPost_ret (v:=.agg (cs R)) (Za5 rfl _ Za7 rfl h6.blk (Za9 _)) rfl ⟨rfl,hLr.lets hX hmb (fun _ _ e=>om_),hlr.next hX (fun i hi _ e=>by have:=HN.out;omega)⟩
section
variable {α:Type}(p:α→Bool) (l:List α)
def cntF (j:Nat):Nat:=((l.take j).filter p).length
theorem Zno {j:Nat}(hj:j < l.length) (h:p l[j]=true):cntF p l (j+1)=cntF p l j+1∧∃ hh:cntF p l j < (l.filter p).length,(l.filter p)[cntF p l j]=l[j]:=by
 have e1:l.take (j+1)=l.take j ++ [l[j]]:=List.take_succ_eq_append_getElem hj
 have e2:l.filter p=(l.take j).filter p ++ (l[j] :: (l.drop (j+1)).filter p):=by
  conv=>lhs;rw [← List.take_append_drop j l,List.drop_eq_getElem_cons hj]
  rw [List.filter_append,List.filter_cons,h];rfl
 refine ⟨by unfold cntF;rw [e1,List.filter_append,List.length_append];simp [h],?_,?_⟩
 ·unfold cntF;rw [e2];simp
 ·have:(l.filter p)[cntF p l j]? = some l[j]:=by
   unfold cntF;rw [e2,List.getElem?_append_right nl_];simp
  exact (List.getElem?_eq_some_iff.1 this).2
theorem Zrg {j:Nat}(hj:j < l.length) (h:p l[j]=false):cntF p l (j+1)=cntF p l j:=by
 unfold cntF
 rw [List.take_succ_eq_append_getElem hj,List.filter_append,List.length_append]
 simp [h]
theorem Znp:cntF p l l.length=(l.filter p).length:=by
 unfold cntF;rw [List.take_length]
theorem Zk5:cntF p l 0=0:=by simp [cntF]
end
def upL (c:Nat→Int) (m:Int):List Nat:=(List.range 31).filter fun k=>decide (c k≤m)
theorem Zom (c:Nat→Int) (m:Int):∀ n,Zfz c m n=((List.range n).filter fun k=>decide (c k≤m)).foldl (fun (s:Int × Int) (k:Nat)=>(min s.1 (k:Int),max s.2 (k:Int))) (30,0)
 | 0=>rfl
 | n+1=>by
  rw [List.range_succ,List.filter_append,List.foldl_append,← Zom c m n]
  conv=>lhs;rw [Zfz]
  by_cases h:c n≤m
  ·simp [h]
  ·simp [h]
theorem index_cs (c:Nat→Int) {k:Nat}(hk:k < 31) (w:World):(Instr.index 182 (.agg (cs c)) ↑k).run prog w=.ok ↑(c k) w:=by
 have hsz:(sizeOf 3).run prog w=.ok 1 w:=by
  have hs:=Zsc
  cases hi:prog.info? 3 with
  | none=>rw [hi] at hs;cases hs
  | some i=>rw [hi] at hs;simp at hs;simp [sizeOf,typeInfo,hi,hs]
 have hki:0≤(k:Int)∧(k:Int) < 31:=by omega
 have hck:=Zgc c hk
 simp [Instr.index,asIntOf,run_underlying Zoe,hki,hsz,part,hck,go_sem]
 intro h
 omega
theorem c_upTo (c:Nat→Int) (m:Int) (w:World) :
  Calls prog 129 #[.agg (cs c),m] w (fun e w'=>e=.returned (.func (.func 214) #[] #[.pointer w.heap.size,.pointer ↑(w.heap.size+1)])∧w'=(w.alloc (.cells (cs c) 182)).alloc (.cells #[m] 3)):=by
 go_enter func129,ntmps129
 go_wp2
 go_ret
 exact ⟨rfl,rfl⟩
theorem Zs4 (c:Nat→Int) (m:Int) (tb l:Nat) (W:World) (h0b:Blk W tb (cs c) 182) (h1b:Blk W (tb+1) #[m] 3) (XR:Nat→Option Obj→Prop)
  (hX:∀ k o,XR k o→k≠tb∧k≠tb+1) :
  Zyb prog 214 #[.pointer tb,.pointer ↑(tb+1)] (fun k:Nat=>#[.int .i64 (k:Int)]) (upL c m) (fun _ _=>False) XR (fun _=>True) l W:=by
 unfold upL
 intro J Jx hJ hJx hY h0
 have HY:Hid (∀ k (hk:k < 31) W1,c k≤m→J (cntF (fun k=>decide (c k≤m)) (List.range 31) k) W1→YieldAt Fence.wide 0 prog l #[.int .i64 (k:Int)] W1 fun e W'=>Lets XR W1 W'∧((e=.returned (.bool true)∧J (cntF (fun k=>decide (c k≤m)) (List.range 31) (k+1)) W')∨(e=.returned (.bool false)∧Jx W'))):=by
  intro k hk W1 hc hj
  obtain ⟨h1,hh,h2⟩:=Zno (fun k=>decide (c k≤m)) (List.range 31) (j:=k) (by simpa using hk) (by simpa using hc)
  have:=hY _ hh W1 hj trivial
  rw [h2,List.getElem_range] at this
  obtain ⟨fn,tmps,asg,bo,e,r⟩:=this
  exact ⟨fn,tmps,asg,bo,e,r.mono fun e w' h=>⟨h.1,by rw [h1];exact h.2.2⟩⟩
 have HNo:Hid (∀ k,k < 31→¬ c k≤m→cntF (fun k=>decide (c k≤m)) (List.range 31) (k+1)=cntF (fun k=>decide (c k≤m)) (List.range 31) k):=fun k hk hc=>Zrg _ _ (by simpa using hk) (by simpa using hc)
 have HAll:Hid (cntF (fun k=>decide (c k≤m)) (List.range 31) 31=((List.range 31).filter fun k=>decide (c k≤m)).length):=Znp (fun k=>decide (c k≤m)) (List.range 31)
 have h0':J (cntF (fun k=>decide (c k≤m)) (List.range 31) 0) W:=by rw [Zk5];exact h0
 clear hY h0
 generalize cntF (fun k=>decide (c k≤m)) (List.range 31)=cn at *
 have HK:Hid (∀ wr,Lets XR W wr→Blk wr tb (cs c) 182∧Blk wr (tb+1) #[m] 3):=fun wr hl=>⟨hl.blk h0b (fun e=>(hX _ _ e).1 rfl),hl.blk h1b (fun e=>(hX _ _ e).2 rfl)⟩
 refine callsIn_of_wp func214 rfl trivial ?_ rfl
 simp only [ntmps214,List.size_toArray,List.length_cons,List.length_nil,Nat.reduceAdd,Nat.reduceSub,Array.replicate_succ,Array.replicate_zero,List.push_toArray,List.append_toArray,List.nil_append,List.cons_append]
 gi_wp2_with fail
 refine wpIn_wide.2 (wp_scope_straight ?_)
 go_wp2_with fail
 refine wp_label ?_
 go_wp2_with (first
  | (refine Za0 182 (.tmp 1) Za7 rfl rfl rfl h0b (Za9 _) ?_))
 refine (wpIn_wide (n:=0)).1 ?_
 gi_loopw [4,5,7] (fun x4 x5 x7 wr=>∃ k:Nat,k≤31∧x7=.int .i64 (k:Int)∧Lets XR W wr∧Hid (J (cn k) wr)) (fun _ _ x7 _=>(31 - intOf x7).toNat)
 case atStart=>exact ⟨0,om_,rfl,Lets.refl _ _,h0'⟩
 case round =>
  obtain ⟨k,hk,rfl,hLt,hj⟩:=hrel
  obtain ⟨k0,k1⟩:=HK.out wr hLt
  have r1:=k1.cell
  by_cases hlt:k < 31
  ·have hlti:(k:Int) < 31:=by omega
   have hck:=Zgc c hlt
   have hq:(k:Int) < ((cs c).size:Int):=by rw [Za9];omega
   have hix:=index_cs c hlt wr
   by_cases hc:c k≤m
   ·obtain ⟨fn,tmps,asg,bo,hy,hR⟩:=HY.out k hlt wr hc hj.out
    have hnl:¬ c k > m:=by omega
    generalize c k=x at hck hc hnl hix
    gi_wp2_with fail
    refine ⟨rfl,hR.mono ?_⟩
    clear hy
    rintro e W3 ⟨hL3,⟨rfl,hj3⟩ | ⟨rfl,hjx⟩⟩
    ·gi_wp2_with fail
     exact ⟨⟨k+1,om_,by go_num,hLt.trans hL3,hj3⟩,by simp [intOf];omega⟩
    ·gi_wp2_with fail
     simp only [Exit.noGoto]
     go_end0
     exact ⟨⟨_,rfl⟩,trivial,.inr hjx⟩
   ·have hcn:=HNo.out k hlt om_
    have hgl:c k > m:=by omega
    have HCN:=hd_ hcn
    clear hcn
    generalize c k=x at hck hc hgl hix
    gi_wp2_with fail
    exact ⟨⟨k+1,om_,by go_num,hLt,by rw [HCN.out];exact hj.out⟩,by simp [intOf];omega⟩
  ·have hlti:¬ (k:Int) < 31:=by omega
   have e:k=31:=by omega
   have hj31:J (cn 31) wr:=by rw [← e];exact hj.out
   rw [HAll.out] at hj31
   gi_wp2_with fail
   go_end0
   exact ⟨⟨_,rfl⟩,trivial,.inl hj31⟩
end Go.Proofs.YtbapgefodmmikaaGreatDoor
namespace Go.Proofs.YtbapgefodmmikaaGreatDoor
open Go.RowKit Go.Proofs Go.Ord Tryz
attribute [local irreducible] Ord.walk
attribute [local go_sem] Oper.semAt_some
theorem Zav:Zdw prog 23 2:=⟨_,underlying23,rfl,by kernel_rfl⟩
def spV (s:Int × Int):Array Value:=#[.int .i64 s.1,.int .i64 s.2]
def Znd (s:Int × Int) (k:Nat):Int × Int:=(min s.1 (k:Int),max s.2 (k:Int))
theorem Zt8 (c:Cl) (n:Nat):Zda c n=(upL (Zbg (dC c) c.bs n (Zag c.bs)) c.mist).foldl Znd (30,0):=Zom _ _ _
theorem Zec {c:Cl}(hL:Zc3 c):Zag c.bs < 64:=by
 have:=Zqr hL.len.2
 unfold Zag
 omega
theorem join_in (l:List Nat) (h:∀ k∈l,k≤30) (j:Nat) (s:Int × Int) (hs:0≤s.1∧s.1≤30∧0≤s.2∧s.2≤30):0≤((l.take j).foldl Znd s).1∧((l.take j).foldl Znd s).1≤30∧0≤((l.take j).foldl Znd s).2∧((l.take j).foldl Znd s).2≤30:=by
 induction l generalizing j s with
 | nil=>simpa using hs
 | cons k l ih =>
  cases j with
  | zero=>simpa using hs
  | succ j =>
   simp only [List.take_succ_cons,List.foldl_cons]
   have:=h k sp_
   exact ih (fun x hx=>h x (by simp [hx])) j _ (by unfold Znd;omega)
theorem Zk8 {W0:World}{T:Nat}{c:Cl}{ba:Option Addr}{bc mb:Nat}(hO:Zb4 W0 T c ba bc mb) (hL:Zc3 c) (n:Nat) (hn:n < c.bs.length) (hcan:canC c (Zag c.bs)=true) (w:World) (hw:Ln W0 mb c w) :
  Calls prog 120 #[.pointer T,n] w (Zcw W0 mb c (.agg (spV (Zda c n))) w):=by
 have hmb:=hO.mb_lt
 have hsz:=hw.2.size
 have HE:=hd_ (fun W (hW:Ln W0 mb c W)=>Zgs hO hL W hW)
 have HC:=hd_ (fun W (hW:Ln W0 mb c W)=>Zuc hO hL _ (Zec hL) W hW)
 have HT:=hd_ (fun W (hW:Ln W0 mb c W)=>Zpq hO hL n hn _ (Zec hL) W hW)
 have HB:=hd_ (fun W (hW:Ln W0 mb c W)=>(hO.at_ hW).blk)
 have HA:=hd_ Ze2
 have HU:=hd_ c_upTo
 rw [hcan] at HC
 rw [Zt8]
 generalize Zag c.bs=ev at *
 generalize Zbg (dC c) c.bs n ev=G at *
 have hTm:=hO.T_ne
 refine callsIn_wide.1 (callsIn_of_wp_marks (F:=Fence.wide) (n:=0) func120 rfl trivial (wpIn_wide.2 ?_) rfl)
 simp only [ntmps120,List.size_toArray,List.length_cons,List.length_nil,Nat.reduceAdd,Nat.reduceSub,Array.replicate_succ,Array.replicate_zero,List.push_toArray,List.append_toArray,List.nil_append,List.cons_append]
 go_wp2_with fail
 obtain ⟨w1,hw1⟩:∃ w1,w.alloc (.cells #[(),()] 23)=w1:=⟨_,rfl⟩
 rw [hw1]
 have b4:Blk w1 w.heap.size (spV (0,0)) 23:=by rw [← hw1];exact Blk.new _ _ _
 have hl1:Lets (fun k _=>k=mb) w w1:=Lets.of_below (by rw [← hw1];exact bel_)
 have hLn1:Ln W0 mb c w1:=hw.below (by rw [← hw1];exact bel_) hmb
 have hs1:w1.heap.size=w.heap.size+1:=by rw [← hw1];simp
 clear hw1
 generalize hN:w.heap.size=N at *
 have HN:=hd_ hN
 clear hN
 go_wp2_with (first
  | (go_at_call 126;refine (HE.out _ hLn1).mono ?_;rintro e w2 ⟨rfl,rfl⟩)
  | (go_at_call 125;refine (HC.out _ hLn1).mono ?_;rintro e w2 ⟨rfl,hLn2,hl2⟩)
  | (go_at_call 124;refine (HA.out _ _).mono ?_;rintro e w3 ⟨rfl,rfl⟩;refine Za2 ?_))
 unfold Stop
 have b42:=hl2.blk b4 om_
 have hl02:=hl1.trans hl2
 have hs2:N+1≤w2.heap.size:=by have:=hl2.size;omega
 clear hl2 hl1 b4 hLn1 hs1
 go_wp2_with (first
  | (refine Za1 23 (.tmp 5) (.tmp 12) Zav rfl rfl rfl rfl (Blk.new _ _ _) rfl rfl (by simp [Value.oneCell']) ?_;intro w4 h4;refine Za2 ?_))
 unfold Stop
 have b5:Blk w4 w2.heap.size (spV (30,0)) 23:=h4.blk
 have hb24:w2 w4:=h4.below (br_.alloc nl_ _) nl_
 have b44:=b42.below hb24 b42.lt
 have hLn4:=hLn2.below hb24 hmb
 have hl04:=hl02.trans (Lets.of_below hb24)
 generalize hS:w2.heap.size=S at *
 clear hS hl02 hb24 b42 h4 hLn2
 have lt5:=b5.lt
 have hLn4d:=hLn4.drew
 have bT4:=HB.out _ hLn4
 have hl44:=(Lets.refl (fun k _=>k=mb) w4).drew
 go_wp2_with fail
 refine Zyu [(0,0),(1,0),(2,0),(3,0),(5,1),(6,1),(7,1),(8,1),(9,1),(4,2),(10,2)] (fun W=>Lets (fun k _=>k=mb) w4 W) kr_ kr_ hl44 ?_
 go_wp2_with (first
  | (with_reducible refine Zyp ?_)
  | ((with_reducible refine Zye ?_);refine Zyq (ad:=⟨T,3,none⟩) (.int .i64 c.mist) rfl rfl ?_ ?_;(focus (intro W hW;have r:=(hW.blk bT4 hTm).cell 3;simp [go_sem,r,tabV];done));intro K hK)
  | (go_at_call 128;refine (HT.out _ hLn4d).mono ?_;rintro e w6 ⟨rfl,hLn6,hl6⟩;have hl46:=hl44.trans hl6)
  | (go_at_call 129;refine (HU.out _ _ _).mono ?_;rintro e w7 ⟨rfl,rfl⟩;refine Za2 ?_)
  | (refine o_ ?_;intro K hK)|(with_reducible first|refine Zyo ?_ ?_|refine Zyj ?_|refine Zyf bn_ (fun _=>?_))
  | ((with_reducible refine Zyg ?_);refine Zyv rfl (fun W=>call126 _ W) (HE.out _ hLn4d) (fun K hK=>?_)))
 unfold Stop
 obtain ⟨w7,hw7⟩:∃ w7,(w6.alloc (.cells (cs G) 182)).alloc (.cells #[.int .i64 c.mist] 3)=w7:=⟨_,rfl⟩
 rw [hw7]
 have hb67:Below w6.heap.size w6 w7:=by rw [← hw7];exact bel_
 have bt0:Blk w7 w6.heap.size (cs G) 182:=by rw [← hw7];exact (Blk.new _ _ _).alloc _
 have bt1:Blk w7 (w6.heap.size+1) #[.int .i64 c.mist] 3:=by rw [← hw7];exact Blk.new' _ _ _ _ sp_
 have hs7:w7.heap.size=w6.heap.size+2:=by rw [← hw7];simp
 have hl47:=hl46.trans (Lets.of_below hb67)
 have b57:=hl47.blk b5 om_
 have b47:=hl47.blk b44 om_
 have hLn7:=hLn6.below hb67 hmb
 have hl07:=hl04.trans hl47
 have hs6:S < w6.heap.size:=by have:=hl46.size;omega
 have hNS:N < S:=by omega
 clear hw7 hb67 hl46 hl6 hl44 hLn6 hLn4 hLn4d hl04 b5 b44 bT4 lt5 HE HC HT HB HA HU hcan
 generalize hp6:w6.heap.size=P6 at *
 go_wp2_with (first
  | (with_reducible refine Zyp ?_)
  | (refine o_ ?_;intro K hK)|(with_reducible first|refine Zyo ?_ ?_|refine Zyj ?_|refine Zyf bn_ (fun _=>?_)))
 clear hl47
 refine (wpIn_wide (n:=0)).1 (Zcq (encs:=fun k:Nat=>#[.int .i64 (k:Int)]) (xs:=upL G c.mist) (XI:=fun _ _=>False) (XB:=fun k _=>k=S) (Mid:=fun _=>True)
  (fun k A=>Blk A S (spV (((upL G c.mist).take k).foldl Znd (30,0))) 23∧Lets (fun k _=>k=S∨w7.heap.size≤k) w7 A)
  (fun c A=>False)
  rfl call214 (fun _=>rfl)
  (fun W1 hb1 hs1=>?seq)
  (fun j o h1 h2 e=>e) (fun j o h1 h2 e=>om_)
  (fun k A B h hl=>⟨hl.blk h.1 (fun e=>e),h.2.trans (hl.mono fun _ _ e=>e.elim)⟩)
  (fun c A B h hl=>h)
  (fun k A B h hl=>⟨hl.blk h.1 (fun e=>om_),h.2.trans (hl.mono fun _ _ e=>om_)⟩)
  (fun c A B h hl=>h)
  (fun A B h hl=>trivial) ⟨b57,Lets.refl _ _⟩ ?round ?done ?stop)
 case seq =>
  exact Zs4 G c.mist P6 (w7.heap.size+1) W1 (bt0.below hb1 bt0.lt) (bt1.below hb1 bt1.lt) _ (fun k o e=>om_)
 case round =>
  intro k hk A' hI hM hsz hrec
  have hxm:(upL G c.mist)[k]∈upL G c.mist:=List.getElem_mem hk
  have hx31:(upL G c.mist)[k] < 31:=List.mem_range.1 (List.mem_filter.1 (show _∈(List.range 31).filter _ from hxm)).1
  have htk:(upL G c.mist).take (k+1)=(upL G c.mist).take k ++ [(upL G c.mist)[k]]:=List.take_succ_eq_append_getElem hk
  have hsp:=join_in (upL G c.mist) (fun x hx=>by unfold upL at hx;have:=(List.mem_filter.1 hx).1;simp at this;omega) k (30,0) sp_
  rw [htk,List.foldl_append]
  clear htk hxm
  generalize (upL G c.mist)[k]=x at *
  generalize ((upL G c.mist).take k).foldl Znd (30,0)=sp at *
  obtain ⟨lo,hi⟩:=sp
  simp only at hsp
  obtain ⟨bS,hLt⟩:=hI
  unfold Zcp
  gi_wp2_with fail
  refine ⟨Lets.refl _ _,fun W₂ hl2 hs3 hI hMid=>?_⟩
  have bS2:=hI.1
  have rS:=bS2.cell
  unfold spV at rS
  simp only at rS
  have lS:=bS2.lt
  have fS:=bS2.free
  gi_wp2_with fail
  have hX:Lets (fun j _=>j=S) W₂ ((W₂.setCell ⟨S,0,none⟩ (.int .i64 (min lo (x:Int)))).setCell ⟨S,1,none⟩ (.int .i64 (max hi (x:Int)))):=((Lets.refl _ _).setCell rfl _).setCell rfl _
  exact ⟨hX,trivial,(bS2.set 0 _).set 1 _,hI.2.trans (hX.mono fun _ _ e=>.inl e)⟩
 case done =>
  intro W hI hM hD
  obtain ⟨bS,hLt⟩:=hI
  rw [List.take_length] at bS
  have bN:Blk W N (spV (0,0)) 23:=hLt.blk b47 (fun e=>om_)
  generalize (upL G c.mist).foldl Znd (30,0)=sp at *
  simp only [Exit.inBlock,Exit.then]
  go_wp2_with (first
   | (refine Za0 23 (.tmp 5) Zav rfl rfl rfl bS rfl ?_)
   | (refine Za1 23 (.tmp 4) (.tmp 34) Zav rfl rfl rfl rfl bN rfl rfl (by simp [spV,Value.oneCell']) ?_;intro w8 h8))
  have hl8:Lets (fun j _=>j=N) W w8:=(Lets.refl _ _).rowed h8 rfl
  have hD8:w8.heap[w7.heap.size]? = some (.deferred (some [])):=(hl8.block _ (by have:=lt_of_block hD;exact this) om_).trans hD
  have hfl:Lets (fun k _=>k=S∨k=N∨w7.heap.size≤k) w7 w8:=(hLt.mono fun _ _ e=>om_).trans (hl8.mono fun _ _ e=>om_)
  refine Zbu (v:=.agg (spV sp)) rfl hD8 fun w' hl hs=>?_
  have hf2:Lets (fun k _=>k=S∨k=N∨w7.heap.size≤k) w7 w':=hfl.trans (hl.mono fun _ _ e=>om_)
  exact ⟨Za5 rfl _ Zav rfl (Zc8 h8.blk hl (fun _=>om_)) rfl,rfl,hLn7.lets hf2 hmb (fun k _ e=>om_),hl07.next hf2 (fun i hi _ e=>by have:=HN.out;omega)⟩
 case stop =>
  intro c W h
  exact h.elim
end Go.Proofs.YtbapgefodmmikaaGreatDoor
namespace Go.Proofs.YtbapgefodmmikaaGreatDoor
open Go.RowKit Go.Proofs Go.Ord Tryz
attribute [local irreducible] Ord.walk
def Zy7 (W0:World) (mb:Nat) (c:Cl) (e:Int) (w:World) (x:Ending) (w':World):Prop:=x=.panicked [{ v:=refC e,recovered:=false }]∧Ln W0 mb c w'∧Lets (fun k _=>k=mb) w w'
theorem Zmi {W0:World}{T:Nat}{c:Cl}{ba:Option Addr}{bc mb:Nat}(hO:Zb4 W0 T c ba bc mb) (hL:Zc3 c) (n:Int) (hcan:canC c (Zag c.bs)=false) (w:World) (hw:Ln W0 mb c w) :
  Calls prog 120 #[.pointer T,n] w (Zy7 W0 mb c 10 w):=by
 have hmb:=hO.mb_lt
 have HE:=hd_ (fun W (hW:Ln W0 mb c W)=>Zgs hO hL W hW)
 have HC:=hd_ (fun W (hW:Ln W0 mb c W)=>Zuc hO hL _ (Zec hL) W hW)
 have HA:=hd_ Zfv
 rw [hcan] at HC
 generalize Zag c.bs=ev at *
 have hLn1:Ln W0 mb c (w.alloc (.cells #[(),()] 23)):=hw.below bel_ hmb
 have hl1:Lets (fun k _=>k=mb) w (w.alloc (.cells #[(),()] 23)):=Lets.of_below bel_
 go_enter func120,ntmps120
 go_wp2_with (first
  | (go_at_call 126;refine (HE.out _ hLn1).mono ?_;rintro e w2 ⟨rfl,rfl⟩)
  | (go_at_call 125;refine (HC.out _ hLn1).mono ?_;rintro e w2 ⟨rfl,hLn2,hl2⟩)
  | (go_at_call 124;refine (HA.out _ _).mono ?_;rintro e w3 ⟨rfl,rfl⟩))
 exact ⟨rfl,rfl,hLn2,hl1.trans hl2⟩
theorem _root_.Q1d {p:Prop}(h:p:=by
 go_wp2_with (first
  | (with_reducible refine Zyp ?_)
  | (refine o_ ?_;intro K hK)|(with_reducible first|refine Zyo ?_ ?_|refine Zyj ?_|refine Zyf bn_ (fun _=>?_)))
 go_ret
 refine ⟨Zdv (by have:=HV.out;(try simp [h1,h2] at this);omega),by exact bel_⟩):p:=h
theorem c_told {W0:World}{T:Nat}{c:Cl}{ba:Option Addr}{bc mb:Nat}(hO:Zb4 W0 T c ba bc mb) (s:Int × Int) (w:World) (hw:Ln W0 mb c w) :
  Calls prog 122 #[.pointer T,.agg (spV s)] w (Zak ↑(Zmr c.may s) w):=by
 obtain ⟨lo,hi⟩:=s
 unfold spV
 obtain ⟨v,hv⟩:∃ v,Zmr c.may (lo,hi)=v:=⟨_,rfl⟩
 rw [hv]
 unfold Zmr at hv
 have rT:=(hO.at_ hw).blk.cell
 unfold tabV at rT
 have lT:=(hO.at_ hw).blk.lt
 generalize c.may=m at *
 have HV:=hd_ hv
 clear hv
 go_enter func122,ntmps122
 go_wp2_with fail
 refine Zyu [(0,0),(1,0),(2,0),(3,0),(4,0),(5,0),(6,0),(7,0),(8,0)] (fun _=>True) kr_ kr_ trivial ?_
 by_cases h1:hi≤m
 ·go_wp2_with (first
   | (with_reducible refine Zyp ?_)
   | (refine o_ ?_;intro K hK)|(with_reducible first|refine Zyo ?_ ?_|refine Zyj ?_|refine Zyf bn_ (fun _=>?_)))
  go_ret
  refine ⟨Zdv (by have:=HV.out;simp [h1] at this;omega),by exact bel_⟩
 ·go_wp2_with (first
   | (with_reducible refine Zyp ?_)
   | (refine o_ ?_;intro K hK)|(with_reducible first|refine Zyo ?_ ?_|refine Zyj ?_|refine Zyf bn_ (fun _=>?_)))
  refine Zyu [(0,0),(1,0),(2,0),(3,0),(4,0),(5,0),(6,0),(7,0),(8,0)] (fun _=>True) kr_ kr_ trivial ?_
  by_cases h2:lo≤m
  ·exact Q1d
  ·exact Q1d
end Go.Proofs.YtbapgefodmmikaaGreatDoor
