/- Parts of a proof. -/
import Derived.Test.YtbapgefodmmikaaGreatDoorLMin
import Derived.Test.YtbapgefodmmikaaGreatDoorL31
import Derived.Lib.SmallJoins
import Derived.Lib.AtoiAllCases
set_option linter.unusedVariables false
set_option linter.unusedSimpArgs false
set_option maxHeartbeats 40000000
set_option maxRecDepth 100000
namespace Go.Proofs.YtbapgefodmmikaaGreatDoor
open Go.RowKit Go.Proofs Go.Ord Tryz
attribute [local irreducible] Ord.walk
attribute [local go_sem] Oper.semAt_some
def Zjs (b:Ov) (l:List Nt) (n:Nt) (f la m:Int):Bs × Int × List Nt :=
 if (l.length:Int) < 30∧((ofO l f la).length:Int) < m then
  if Zbq b (l ++ [n]) then (Zam Zhu [(l.length:Int)],0,l ++ [n]) else ([],2,l)
 else ([],9,l)
theorem noteR_eq (b:Ov) (l:List Nt) (k f la m:Int) (a:List Int):doO b l a (.note k f la m)=Zjs b l (argO k a) f la m:=rfl
theorem OvIn.app {b:Ov}{l:List Nt}{n:Nt}(h:OvIn b l) (hl:l.length < 30) (hn : -9999≤n.2.2.1∧n.2.2.1≤9999):OvIn b (l ++ [n]):=⟨h.strays,h.fl,by simp;omega,fun x hx=>by
 rcases List.mem_append.1 hx with hx|hx
 ·exact h.small x hx
 ·simp at hx;subst hx;exact hn⟩
section
variable {w:World}{O:Nat}{b:Ov}{l:List Nt}{sa:Option Addr}{sc:Nat}{fa:Option Addr}{fc:Nat}{na:Option Addr}{nc:Nat}
theorem Zqx (h:OvOk w O b l sa sc fa fc na nc) (n:Nt) (f la m:Int) (hf:¬ ((l.length:Int) < 30∧((ofO l f la).length:Int) < m)) :
  Calls prog 232 #[.pointer O,.agg (ntL n).toArray,f,la,m] w (DoPost O b sa sc fa fc na ([],9,l) w):=by
 have HM:=hd_ (fun W=>Zdf 9 W)
 have hl30:=h.inn.notes
 have HMany:=hd_ (fun W (hb:Below w.heap.size w W)=>o_many (h.at_.below hb) om_ f la)
 have bO:=h.at_.blk
 have r:=bO.cell
 have lt:=bO.lt
 have hB1:w (w.alloc (.cells (ntL n).toArray 88)):=by exact bel_
 obtain ⟨n1,n2,n3,n4⟩:=n
 unfold ovV at r
 unfold ntL at *
 clear h bO
 generalize (ofO l f la).length=L at *
 have hli:(l.length:Int)≤30:=by omega
 by_cases h30:(l.length:Int) < 30
 ·have hm:¬ (L:Int) < m:=fun e=>hf ⟨h30,e⟩
  have hmd:decide ((L:Int) < m)=false:=by simpa using hm
  clear hf
  go_enter func232,ntmps232
  go_wp2_with (first
   | (go_at_call 284;refine (HMany.out _ hB1).mono ?_;rintro e w2 ⟨rfl,hb2⟩)
   | (go_at_call 64;refine (HM.out _).mono ?_;rintro e w3 ⟨rfl,rfl⟩))
  exact ⟨rfl,Or.inr ⟨by show (9:Int)≠0;decide,rfl,hB1.trans (hb2.mono hB1.size)⟩⟩
 ·clear hf
  go_enter func232,ntmps232
  go_wp2_with (first
   | (go_at_call 64;refine (HM.out _).mono ?_;rintro e w3 ⟨rfl,rfl⟩))
  exact ⟨rfl,Or.inr ⟨by show (9:Int)≠0;decide,rfl,hB1⟩⟩
theorem _root_.Q6 {p:Prop}(h:p:=by
 have hI6:=And.intro (hl6.blk bO4 om_) (hl6.blk bN4 om_)
 have hB6:Below N w w6:=Za3 hB4 hl6 (by have:=HN.out;omega) (fun _ _ _=>om_)
 have hs6:N≤w6.heap.size:=Nat.le_of_lt hI6.2.lt
 have hI7:=And.intro (hI6.1.alloc (.cells (ovV b (l.length+1) sa sc fa fc va vc) 93)) (hI6.2.alloc (.cells (ovV b (l.length+1) sa sc fa fc va vc) 93))
 unfold ovV at hI7
 clear hB4 hgrow hl6 bO4 bN4 hI4 hI4a hownN hown4 hb4 hN4
 go_wp2_with (first
  | (with_reducible refine Zyp ?_)
  | (refine Zyf (by first|with_reducible exact hI6|with_reducible exact hI7) (fun _=>?_))
  | with_reducible refine Ord.top_two ?_|with_reducible refine Ord.top_three ?_|with_reducible refine Ord.at_two ?_ ?_|with_reducible refine Ord.at_three ?_ ?_ ?_|with_reducible refine Ord.tree_leaf ?_|with_reducible refine Ord.tree_two ?_|(refine o_ ?_;intro K hK)|(with_reducible first|refine Zyo ?_ ?_|refine Zyj ?_|refine Zyf bn_ (fun _=>?_)))
 go_meet
 refine ⟨w6.heap.size,va,vc,rfl,Blk.new _ _ _,?_,hB6.alloc om_ _,hs6,?_,?_⟩
 ·have e6:ln.flatMap ntL=l.flatMap ntL ++ [.int .i64 n1,.int .i64 n2,.int .i64 n3,.int .i64 n4]:=HFl.out
  rw [← e6,← HLen.out] at hown6
  obtain ⟨a5,c5,e5,hr5⟩:=Zbm Zgm hown6
  simp only [Value.slice.injEq,true_and] at e5
  obtain ⟨rfl,rfl⟩:=e5
  exact hr5.below (br_.alloc nl_ _)
 ·intro p hp
  subst hp
  have:=Zad hown6 (g:=p.block) rfl
  omega
 ·obtain ⟨_,⟨h5,-⟩ | ⟨g,cap,cur,h5,-,-,h6,-⟩⟩:=hown6
  ·simp at h5
  ·simp only [Value.slice.injEq] at h5
   omega):p:=h
theorem Zqw (h:OvOk w O b l sa sc fa fc na nc) (hO:9≤O) (n:Nt) (f la m:Int) (hsm : -9999≤n.2.2.1∧n.2.2.1≤9999) (h30:l.length < 30) (hm:((ofO l f la).length:Int) < m) :
  Calls prog 232 #[.pointer O,.agg (ntL n).toArray,f,la,m] w (DoPost O b sa sc fa fc na (if Zbq b (l ++ [n]) then (Zam Zhu [(l.length:Int)],0,l ++ [n]) else ([],2,l)) w):=by
 obtain ⟨i0,hi,hz0,hz1,hz2⟩:=Zbp Zp9
 have HM:=hd_ (fun W=>Zbz 9 W)
 have HMany:=hd_ (fun W (hb:Below w.heap.size w W)=>o_many (h.at_.below hb) om_ f la)
 have HC:=hd_ (fun W (hb:Below w.heap.size w W)=>Zh0 l na nc om_ W (h.at_.notes.below hb))
 have HBO:=hd_ (fun W (hb:Below w.heap.size w W)=>h.at_.blk.below hb h.at_.blk.lt)
 have hOlt:=h.at_.blk.lt
 have hIn:=h.inn.app h30 hsm
 have HAt:Hid (∀ W nb va vc,Below w.heap.size w W→Blk W nb (ovV b (l.length+1) sa sc fa fc va vc) 93→RowsAt W va 4 ntL (l ++ [n])→OvAt W nb b (l ++ [n]) sa sc fa fc va vc):=fun W nb va vc hb hB hr=>⟨by rw [List.length_append];exact hB,h.at_.strays.below hb,h.at_.fl.below hb,hr,h.at_.vars.below hb h.at_.vars.2.2.2.2⟩
 have HH:=hd_ h
 have bO:=h.at_.blk
 have r:=bO.cell
 have lt:=bO.lt
 have hB1:w (w.alloc (.cells (ntL n).toArray 88)):=by exact bel_
 have bN1:Blk (w.alloc (.cells (ntL n).toArray 88)) w.heap.size (ntL n).toArray 88:=Blk.new _ _ _
 have hfl:(l ++ [n]).flatMap ntL=l.flatMap ntL ++ ntL n:=by simp
 have HFl:=hd_ hfl
 clear hfl
 have hlen:(l ++ [n]).length=l.length+1:=by simp
 have HLen:=hd_ hlen
 clear hlen hsm
 generalize l ++ [n]=ln at *
 obtain ⟨n1,n2,n3,n4⟩:=n
 unfold ovV at r bO
 unfold ntL at hB1 bN1
 clear h
 have hli:(l.length:Int) < 30:=by omega
 generalize (ofO l f la).length=L at *
 have hV:=hd_ (fun W nb va vc (hA:OvAt W nb b ln sa sc fa fc va vc)=>Zw2 hA hIn)
 generalize Zbq b ln=vd at *
 obtain ⟨res,hres⟩:∃ r,(if vd=true then (Zam Zhu [(l.length:Int)],0,ln) else ([],2,l):Bs × Int × List Nt)=r:=⟨_,rfl⟩
 rw [hres]
 have HRes:=hd_ hres
 clear hres
 show Calls _ _ #[_,.agg #[n1,n2,n3,n4],_,_,_] _ _
 go_enter func232,ntmps232
 go_wp2_with (first
  | (go_at_call 284;refine (HMany.out _ hB1).mono ?_;rintro e w2 ⟨rfl,hb2⟩)
  | (go_at_call 64;refine (HM.out _).mono ?_;rintro e w3 ⟨rfl,rfl⟩;refine Za2 ?_))
 unfold Stop
 have hB2:w w2:=hB1.trans (hb2.mono hB1.size)
 have bN2:=bN1.below hb2 bN1.lt
 have bO2:=HBO.out w2 hB2
 clear hb2 hB1 bN1 r lt HMany bO HM
 have hNs:=hB2.size
 unfold ovV at bO2
 generalize hN:w.heap.size=N at *
 have HN:=hd_ hN
 clear hN
 have hN2:=bN2.lt
 have hO2:=bO2.lt
 go_upto_region 3 with fail
 go_cut [12] from 33 to 46 (fun p wx=>∃ nb va vc,p=.pointer (some ⟨nb,0,none⟩)∧Blk wx nb (ovV b (l.length+1) sa sc fa fc va vc) 93∧RowsAt wx va 4 ntL ln∧Below N w wx∧N≤nb∧(∀ p,va=some p→p.block≠nb∧N≤p.block)∧l.length+1≤vc)
 case first =>
  have hI2:=And.intro bO2.drew bN2.drew
  have hB2d:=hB2.drew
  refine Zyz 4 (.fork2 [(0,1),(1,1),(2,1),(3,1),(4,1),(5,1),(6,1),(7,1),(9,1)] 8 (.leaf [(10,2),(11,2),(12,0),(13,2),(14,0)]) 10 (.leaf [(8,2),(11,2),(12,0),(13,2),(14,0)])) (fun W=>Blk W O #[b.V,b.nd,b.lo,b.hi,b.sh,b.most,.slice sa b.strays.length sc,.slice fa b.fl.length fc,b.may,b.drift,b.mist,.slice na l.length nc,.bool true] 93∧Blk W N #[n1,n2,n3,n4] 88) kr_ kr_ hI2 ?_
  have hBa:Below N w (w2.alloc (.cells #[n1,n2,n3,n4] 88)).drew:=(hB2.alloc om_ _).drew
  have hIa:=And.intro (bO2.alloc (.cells #[n1,n2,n3,n4] 88)).drew (bN2.alloc (.cells #[n1,n2,n3,n4] 88)).drew
  have bS2:Blk (w2.alloc (.cells #[n1,n2,n3,n4] 88)).drew w2.heap.size #[n1,n2,n3,n4] 88:=(Blk.new w2 _ _).drew
  go_wp2_with (first
   | ((with_reducible refine Zyp ?_);refine Za2 ?_)
   | ((with_reducible refine Zye ?_);first|(refine Zyq (ad:=⟨O,0,none⟩) (.agg #[b.V,b.nd,b.lo,b.hi,b.sh,b.most,.slice sa b.strays.length sc,.slice fa b.fl.length fc,b.may,b.drift,b.mist]) rfl rfl ?_ ?_;(focus (intro W hW;have r:=hW.1.cell;simp [go_sem,r];done));intro K hK)|(refine Zyq (ad:=⟨O,11,none⟩) (.slice na l.length nc) rfl rfl ?_ ?_;(focus (intro W hW;have r:=hW.1.cell 11;simp [go_sem,r];done));intro K hK)|(refine Zyq (ad:=⟨N,0,none⟩) (.agg #[n1,n2,n3,n4]) rfl rfl ?_ ?_;(focus (intro W hW;have r:=hW.2.cell;simp [go_sem,r];done));intro K hK))
   | (go_at_call 77;refine (HC.out _ (by first|exact hB2d|exact hBa)).mono ?_;rintro e w4 ⟨v,rfl,hb4,hown4⟩;obtain ⟨a4,c4,rfl⟩:=Zb9 hown4;have hB4:Below N w w4:=(by first|exact hB2d.trans (hb4.mono hNs)|exact hBa.trans (hb4.mono (by simp;omega)));have hownN:=Zbn hown4 (show N+1≤_ from (by first|exact hN2|(simp;omega))) (fun g hg=>rfl);have bO4:Blk w4 O _ _:=(by first|exact bO2.drew.below hb4 bO2.lt|exact (bO2.alloc _).drew.below hb4 (bO2.alloc _).lt);have bN4:Blk w4 N _ _:=(by first|exact bN2.drew.below hb4 bN2.lt|exact (bN2.alloc _).drew.below hb4 (bN2.alloc _).lt);have hN4:=bN4.lt;have hI4:=And.intro bO4 bN4;have hI4a:=And.intro (bO4.alloc (.cells #[n1,n2,n3,n4] 88)) (bN4.alloc (.cells #[n1,n2,n3,n4] 88)))
   | (refine Zyf (by first|with_reducible exact hIa|with_reducible exact hI4|with_reducible exact hI4a|with_reducible exact hI6|with_reducible exact hI7) (fun _=>?_))
   | (at_builtin;refine Za2 ?_)
   | with_reducible refine Ord.top_two ?_|with_reducible refine Ord.top_three ?_|with_reducible refine Ord.at_two ?_ ?_|with_reducible refine Ord.at_three ?_ ?_ ?_|with_reducible refine Ord.tree_leaf ?_|with_reducible refine Ord.tree_two ?_|(refine o_ ?_;intro K hK)|(with_reducible first|refine Zyo ?_ ?_|refine Zyj ?_|refine Zyf bn_ (fun _=>?_)))
  ·unfold Stop
   have bG:Blk (w4.alloc (.cells #[n1,n2,n3,n4] 88)) w4.heap.size #[n1,n2,n3,n4] 88:=Blk.new _ _ _
   refine wpList_append_own _ rfl _ _ 34 rfl (N+1) 88 i0 _ 4 32 underlying34 hi hz0 hz1 hz2 rfl de_ (.slice a4 l.length c4) l.length _ rfl (hownN.alloc _) ⟨w4.heap.size,0,none⟩ 1 1 [↑n1,↑n2,↑n3,↑n4] rfl rfl (Zdh bG _ rfl) (by simp [Value.oneCell']) (by unfold maxLen;omega) om_ (by first|omega|(simp;omega)) ?_
   intro v' w6 hown6 hgrow _
   obtain ⟨va,vc,rfl⟩:=Zb9 hown6
   have hl6:Lets (fun k _=>N+1≤k) w4 w6:=((Lets.refl _ _).alloc _).grown hgrow (fun g hg hlt=>(Zad hownN hg).1)
   exact Q6
  ·unfold Stop
   have bG:=bS2.below hb4 bS2.lt
   refine wpList_append_own _ rfl _ _ 34 rfl (N+1) 88 i0 _ 4 32 underlying34 hi hz0 hz1 hz2 rfl de_ (.slice a4 l.length c4) l.length _ rfl (hownN) ⟨w2.heap.size,0,none⟩ 1 1 [↑n1,↑n2,↑n3,↑n4] rfl rfl (Zdh bG _ rfl) (by simp [Value.oneCell']) (by unfold maxLen;omega) om_ (by first|omega|(simp;omega)) ?_
   intro v' w6 hown6 hgrow _
   obtain ⟨va,vc,rfl⟩:=Zb9 hown6
   have hl6:Lets (fun k _=>N+1≤k) w4 w6:=(Lets.refl _ _).grown hgrow (fun g hg hlt=>(Zad hownN hg).1)
   exact Q6
 case rest =>
  obtain ⟨nb,va,vc,rfl,bn,hrn,hBx,hnb,hva,hcap⟩:=hcut
  have hA:=hd_ (hV.out _ _ _ _ (HAt.out wc nb va vc hBx bn hrn))
  have hmf:=hmf_ prog
  have HN1:=hd_ (fun W=>Zdf 2 W)
  have HY1:=hd_ (fun W=>Zbz 2 W)
  clear hV HAt HC bO2 bN2 hB2
  go_wp2_with (first
   | (go_at_call 61;refine hA.out.mono ?_;rintro e w8 ⟨rfl,hb8⟩;refine Za2 ?_))
  unfold Stop
  have hB8:Below N w w8:=hBx.trans (hb8.mono (by have:=bn.lt;omega))
  have bn8:=bn.below hb8 bn.lt
  have hrn8:=hrn.below hb8
  have hres:=HRes.out
  clear bn hrn hBx hb8
  cases vd with
  | false =>
   simp only [Bool.false_eq_true,if_false] at hres
   subst hres
   go_wp2_with (first
    | (go_at_call 64;refine (HN1.out _).mono ?_;rintro e w9 ⟨rfl,rfl⟩))
   exact ⟨rfl,Or.inr ⟨by show (2:Int)≠0;decide,rfl,by rw [HN.out];exact hB8⟩⟩
  | true =>
   simp only [if_true] at hres
   subst hres
   have bO8:=HBO.out w8 hB8
   have hSet:=bO8.set 11 (.slice va (l.length+1) vc)
   have hLS:Lets (fun k _=>k=O) w (w8.setCell ⟨O,11,none⟩ (.slice va (l.length+1) vc)):=(show Lets (fun k _=>k=O) w w8 from Lets.of_below (by rw [← HN.out] at hB8;exact hB8)).setCell rfl _
   have hLS8:Lets (fun k _=>k=O) w8 (w8.setCell ⟨O,11,none⟩ (.slice va (l.length+1) vc)):=(Lets.refl _ _).setCell rfl _
   have hOK:OvOk (w8.setCell ⟨O,11,none⟩ (.slice va (l.length+1) vc)) O b ln sa sc fa fc va vc:=ok_set HH.out (by rw [HLen.out];exact hSet) hLS hO (Zcc hrn8 hLS8 (fun p _ e h=>by have:=hva p e;omega)) (fun p e h=>by have:=hva p e;omega) hIn (by rw [HLen.out];exact hcap)
   have r:=bO8.cell
   have f:=bO8.free
   have lt:=bO8.lt
   have rn:=bn8.cell
   have ln8:=bn8.lt
   have HR2:=hd_ (Zn4 Zhu [(l.length:Int)] w8.heap.size 1 ((w8.setCell ⟨O,11,none⟩ (.slice va (l.length+1) vc)).alloc (.cells #[.iface 3 ↑l.length] 20)) (hOK.at_.vars.below (br_.alloc nl_ _) (by have:=hOK.at_.vars.2.2.2.2;simpa using this)) (by
    have hri:=Zba (w8.setCell ⟨O,11,none⟩ (.slice va (l.length+1) vc)) [(((l.length:Nat):Int),none)] 20
    rw [show (w8.setCell ⟨O,11,none⟩ (.slice va (l.length+1) vc)).heap.size=w8.heap.size by simp] at hri
    exact hri) de_ sp_ (fun n hn=>by simp at hn;subst hn;unfold I64;omega))
   have HOK:=hd_ hOK
   have HLS:=hd_ hLS
   clear hSet hLS hLS8 hOK hrn8 bO8 bn8
   unfold ovV at r rn
   generalize Zam Zhu [(l.length:Int)]=t at *
   unfold strV Zhu at HR2
   go_wp2_with (first
    | (go_at_call 64;refine (HY1.out _).mono ?_;rintro e w9 ⟨rfl,rfl⟩)
    | (go_at_call 235;refine HR2.out.mono ?_;rintro e wa ⟨rfl,hba⟩))
   go_ret
   have hba2:=((Below.refl (w8.setCell ⟨O,11,none⟩ (.slice va (l.length+1) vc)).heap.size _).alloc nl_ _).trans (hba.mono sp_)
   exact Or.inl ⟨rfl,rfl,HLS.out.trans (Lets.of_below hba2),va,vc,HOK.out.below hba2,fun p e=>.inr ⟨by rw [HN.out];exact (hva p e).2,by have h0:=HOK.out.below hba2;obtain ⟨gb,go,e0,hq⟩:=h0.at_.notes 0 (by rw [HLen.out];omega);rw [e] at e0;cases e0;exact bl_ _ _ (hq 0 _ rfl)⟩⟩
theorem o_note (h:OvOk w O b l sa sc fa fc na nc) (hO:9≤O) (n:Nt) (f la m:Int) (hsm : -9999≤n.2.2.1∧n.2.2.1≤9999) :
  Calls prog 232 #[.pointer O,.agg (ntL n).toArray,f,la,m] w (DoPost O b sa sc fa fc na (Zjs b l n f la m) w):=by
 unfold Zjs
 by_cases hf:(l.length:Int) < 30∧((ofO l f la).length:Int) < m
 ·rw [if_pos hf];exact Zqw h hO n f la m hsm om_ hf.2
 ·rw [if_neg hf];exact Zqx h n f la m hf
end
structure BoxAt (w:World) (p4 p5 p6 p7:Nat) (k f la m:Int):Prop where
 b4:Blk w p4 #[k] 3
 b5:Blk w p5 #[f] 3
 b6:Blk w p6 #[la] 3
 b7:Blk w p7 #[m] 3
theorem BoxAt.below {w w':World}{p4 p5 p6 p7:Nat}{k f la m:Int}(h:BoxAt w p4 p5 p6 p7 k f la m) (hb:w w'):BoxAt w' p4 p5 p6 p7 k f la m:=⟨h.b4.below hb h.b4.lt,h.b5.below hb h.b5.lt,h.b6.below hb h.b6.lt,h.b7.below hb h.b7.lt⟩
def boxP (p4 p5 p6 p7:Nat):Array Value:=#[.pointer p4,.pointer p5,.pointer p6,.pointer p7]
def Zr3 (p4 p5 p6 p7:Nat):Value:=.func (.func 231) #[] (boxP p4 p5 p6 p7)
def CapAt (B:Nat) (w:World) (k f la m:Int) (fv:Value):Prop :=
 ∃ p4 p5 p6 p7,BoxAt w p4 p5 p6 p7 k f la m ∧
  if k=4 then ∃ p,B≤p∧fv=.func (.func 233) #[] #[.pointer (some ⟨p,0,none⟩)]∧Blk w p #[Zr3 p4 p5 p6 p7] 112
  else if k=5 then ∃ p,B≤p∧fv=.func (.func 234) #[] #[.pointer (some ⟨p,0,none⟩)]∧Blk w p #[Zr3 p4 p5 p6 p7] 112
  else fv=Zr3 p4 p5 p6 p7
def Zg3 (k:Int):Int:=if k=4 then 2 else if k=5 then 2 else 3
theorem CapAt.below {B:Nat}{w w':World}{k f la m:Int}{fv:Value}(h:CapAt B w k f la m fv) (hb:w w'):CapAt B w' k f la m fv:=by
 obtain ⟨p4,p5,p6,p7,hB,h⟩:=h
 refine ⟨p4,p5,p6,p7,hB.below hb,?_⟩
 by_cases h4:k=4
 ·rw [if_pos h4] at h ⊢
  obtain ⟨p,hB,e,hp⟩:=h
  exact ⟨p,hB,e,hp.below hb hp.lt⟩
 ·rw [if_neg h4] at h ⊢
  by_cases h5:k=5
  ·rw [if_pos h5] at h ⊢
   obtain ⟨p,hB,e,hp⟩:=h
   exact ⟨p,hB,e,hp.below hb hp.lt⟩
  ·rw [if_neg h5] at h ⊢
   exact h
theorem DoPost.of_below {O:Nat}{b:Ov}{sa:Option Addr}{sc:Nat}{fa:Option Addr}{fc:Nat}{na:Option Addr}{r:Bs × Int × List Nt}{w w1 w':World}{e:Ending}(h:DoPost O b sa sc fa fc na r w1 e w') (hb:w w1):DoPost O b sa sc fa fc na r w e w':=by
 rcases h with ⟨h0,h1,h2,na',nc',h3,h4⟩ | ⟨h0,h1,h2⟩
 ·exact Or.inl ⟨h0,h1,(Lets.of_below hb).trans h2,na',nc',h3,fun p e=>(h4 p e).imp id fun x=>⟨Nat.le_trans hb.size x.1,x.2⟩⟩
 ·exact Or.inr ⟨h0,h1,hb.trans (h2.mono hb.size)⟩
section
variable {w:World}{O:Nat}{b:Ov}{l:List Nt}{sa:Option Addr}{sc:Nat}{fa:Option Addr}{fc:Nat}{na:Option Addr}{nc:Nat}
theorem Zqy (h:OvOk w O b l sa sc fa fc na nc) (hO:9≤O) {p4 p5 p6 p7:Nat}{k f la m:Int}(hb:BoxAt w p4 p5 p6 p7 k f la m) (x0 x1 x2:Int) (aa:Option Addr) (ac:Nat) (hr:RowsAt w aa 1 numL [x0,x1,x2]) (hsm : -9999≤x1∧x1≤9999) :
  Calls prog 231 #[.pointer O,.slice aa 3 ac,.pointer p4,.pointer p5,.pointer p6,.pointer p7] w (DoPost O b sa sc fa fc na (Zjs b l (k,x0,x1,x2) f la m) w):=by
 have HN:=hd_ (o_note (h.below (Below.refl w.heap.size w).drew) hO (k,x0,x1,x2) f la m hsm)
 obtain ⟨gb,go,rfl,h0⟩:=hr 0 sp_
 obtain ⟨gb1,go1,e1,h1⟩:=hr 1 sp_
 obtain ⟨gb2,go2,e2,h2⟩:=hr 2 sp_
 simp only [Option.some.injEq,Addr.mk.injEq,and_true] at e1 e2
 obtain ⟨rfl,rfl⟩:=e1
 obtain ⟨rfl,rfl⟩:=e2
 have q0:=h0 0 _ rfl
 have q1:=h1 0 _ rfl
 have q2:=h2 0 _ rfl
 simp only [Nat.zero_mul,Nat.one_mul,Nat.mul_one,Nat.add_zero] at q0 q1 q2
 have lg:=bl_ w _ q0
 have r4:=hb.b4.cell
 have r5:=hb.b5.cell
 have r6:=hb.b6.cell
 have r7:=hb.b7.cell
 have l4:=hb.b4.lt
 have l5:=hb.b5.lt
 have l6:=hb.b6.lt
 have l7:=hb.b7.lt
 clear h hb hr h0 h1 h2
 generalize Zjs b l (k,x0,x1,x2) f la m=res at *
 unfold ntL at HN
 go_enter func231,ntmps231
 go_upto_region 1 with fail
 refine Ord.wp_region [(0,0),(1,0),(2,0),(3,0),(4,0),(5,0),(6,0),(7,0),(8,0),(9,0),(10,0),(11,0),(12,0),(13,0),(14,0),(15,2),(16,0)] (fun _=>True) kr_ kr_ (fun c a d v w h=>by cases d <;> exact h) trivial ?_
 go_wp2_with (first
  | with_reducible refine Zyi rfl rfl (fun K hK=>?_)
  | ((with_reducible refine Zyh rfl ?_ (fun K hK=>?_));(focus trivial))
  | (go_at_call 232;refine Za2 ?_)
  | with_reducible refine Zyj ?_)
 unfold Stop
 refine HN.out.mono ?_
 rintro e w' hP
 have hP2:=hP.of_below (w:=w) br_.drew
 rcases hP with ⟨h0,rfl,h2,h3⟩ | ⟨h0,rfl,h2⟩
 ·unfold strV at hP2 ⊢
  go_wp2_with (first
   | with_reducible refine Zyj ?_
   | with_reducible refine Zyi rfl rfl (fun K hK=>?_)
   | ((with_reducible refine Zyf ?_ (fun hOF=>?_));(focus trivial)))
  go_ret
  exact hP2
 ·exact ⟨rfl,hP2⟩
theorem _root_.Qc {p:Prop}(h:p:=by
 go_upto_region 1 with fail
 refine Ord.wp_region [(0,1),(1,1),(2,0),(3,0),(4,0),(5,0),(6,0),(7,0),(8,2),(9,2),(10,0)] (fun W=>Blk W p #[.func (.func 231) #[] #[.pointer p4,.pointer p5,.pointer p6,.pointer p7]] 112) kr_ kr_ (fun c a d v w h=>by cases d <;> exact h) hpd ?_
 go_wp2_with (first
  | ((with_reducible refine Zye ?_);refine Zyq (ad:=⟨p,0,none⟩) (.func (.func 231) #[] #[.pointer p4,.pointer p5,.pointer p6,.pointer p7]) rfl rfl ?_ ?_;(focus (intro W hW;have r:=hW.cell;simp [go_sem,r];done));intro K hK)
  | with_reducible refine Zyi rfl rfl (fun K hK=>?_)
  | (go_at_call 231;refine Za2 ?_)
  | (refine Zyf (by first|with_reducible exact hpd|with_reducible exact hpa) (fun _=>?_))
  | (refine o_ ?_;intro K hK)|(with_reducible first|refine Zyo ?_ ?_|refine Zyj ?_|refine Zyf bn_ (fun _=>?_)))
 unfold Stop
 refine HR.out.mono ?_
 rintro e w' hP
 have hP2:=hP.of_below (w:=w) hBa
 rcases hP with ⟨h0,rfl,h2,h3⟩ | ⟨h0,rfl,h2⟩
 ·have hpf:=h2.blk hpa hpO
  unfold strV at hP2 ⊢
  go_wp2_with (first
   | with_reducible refine Zyj ?_
   | with_reducible refine Zyi rfl rfl (fun K hK=>?_)
   | (refine Zyf (by with_reducible exact hpf) (fun _=>?_)))
  go_ret
  exact hP2
 ·exact ⟨rfl,hP2⟩):p:=h
theorem _root_.Q1p {p:Prop}(h:p:=by
 rw [hc]
 obtain rfl:j=0:=by
  rcases j with _|j
  ·rfl
  ·simp [numL] at hj
 have hi3:i=0∨i=1∨i=2:=by simp at hi;omega
 rcases hi3 with rfl|rfl|rfl <;> simpa [numL] using hj):p:=h
theorem o_made2 (h:OvOk w O b l sa sc fa fc na nc) (hO:9≤O) {p4 p5 p6 p7 p:Nat}{k f la m:Int}(hb:BoxAt w p4 p5 p6 p7 k f la m) (hp:Blk w p #[Zr3 p4 p5 p6 p7] 112) (hpO:p≠O) (x0 x1:Int) (aa:Option Addr) (ac:Nat) (hr:RowsAt w aa 1 numL [x0,x1]) (hsm : -9999≤x0∧x0≤9999) :
  Calls prog 233 #[.pointer O,.slice aa 2 ac,.pointer p] w (DoPost O b sa sc fa fc na (Zjs b l (k,0,x0,x1) f la m) w):=by
 have HN:Hid (∀ W,Below w.heap.size w W→∀ aa ac,RowsAt W aa 1 numL [0,x0,x1]→Calls prog 231 #[.pointer O,.slice aa 3 ac,.pointer p4,.pointer p5,.pointer p6,.pointer p7] W (DoPost O b sa sc fa fc na (Zjs b l (k,0,x0,x1) f la m) W)):=fun W hB aa ac hr=>Zqy (h.below hB) hO (hb.below hB) 0 x0 x1 aa ac hr hsm
 obtain ⟨gb,go,rfl,h0⟩:=hr 0 sp_
 obtain ⟨gb1,go1,e1,h1⟩:=hr 1 sp_
 simp only [Option.some.injEq,Addr.mk.injEq,and_true] at e1
 obtain ⟨rfl,rfl⟩:=e1
 have q0:=h0 0 _ rfl
 have q1:=h1 0 _ rfl
 simp only [Nat.zero_mul,Nat.one_mul,Nat.mul_one,Nat.add_zero] at q0 q1
 have lg:=bl_ w _ q0
 have hpd:=hp.drew
 have rp:=hp.cell
 have lp:=hp.lt
 clear h hb hr h0 h1
 generalize Zjs b l (k,0,x0,x1) f la m=res at *
 unfold Zr3 boxP at *
 have hBa:Below w.heap.size w (w.alloc (.cells #[(),x0,x1] 3)).drew:=by exact bel_
 have hra:RowsAt (w.alloc (.cells #[(),x0,x1] 3)).drew (some ⟨w.heap.size,0,none⟩) 1 numL [0,x0,x1]:=fun i hi=>by
  refine ⟨_,_,rfl,fun j u hj=>?_⟩
  have hc:=(Blk.new w #[(),x0,x1] 3).drew.cell (0+i * 1+j)
  exact Q1p
 have hpa:Blk (w.alloc (.cells #[(),x0,x1] 3)).drew p _ _:=(hp.alloc _).drew
 have HR:=hd_ (HN.out _ hBa _ 3 hra)
 go_enter func233,ntmps233
 exact Qc
theorem o_made3 (h:OvOk w O b l sa sc fa fc na nc) (hO:9≤O) {p4 p5 p6 p7 p:Nat}{k f la m:Int}(hb:BoxAt w p4 p5 p6 p7 k f la m) (hp:Blk w p #[Zr3 p4 p5 p6 p7] 112) (hpO:p≠O) (x0 x1:Int) (aa:Option Addr) (ac:Nat) (hr:RowsAt w aa 1 numL [x0,x1]) (hsm : -9999≤x1∧x1≤9999) :
  Calls prog 234 #[.pointer O,.slice aa 2 ac,.pointer p] w (DoPost O b sa sc fa fc na (Zjs b l (k,x0,x1,0) f la m) w):=by
 have HN:Hid (∀ W,Below w.heap.size w W→∀ aa ac,RowsAt W aa 1 numL [x0,x1,0]→Calls prog 231 #[.pointer O,.slice aa 3 ac,.pointer p4,.pointer p5,.pointer p6,.pointer p7] W (DoPost O b sa sc fa fc na (Zjs b l (k,x0,x1,0) f la m) W)):=fun W hB aa ac hr=>Zqy (h.below hB) hO (hb.below hB) x0 x1 0 aa ac hr hsm
 obtain ⟨gb,go,rfl,h0⟩:=hr 0 sp_
 obtain ⟨gb1,go1,e1,h1⟩:=hr 1 sp_
 simp only [Option.some.injEq,Addr.mk.injEq,and_true] at e1
 obtain ⟨rfl,rfl⟩:=e1
 have q0:=h0 0 _ rfl
 have q1:=h1 0 _ rfl
 simp only [Nat.zero_mul,Nat.one_mul,Nat.mul_one,Nat.add_zero] at q0 q1
 have lg:=bl_ w _ q0
 have hpd:=hp.drew
 have rp:=hp.cell
 have lp:=hp.lt
 clear h hb hr h0 h1
 generalize Zjs b l (k,x0,x1,0) f la m=res at *
 unfold Zr3 boxP at *
 have hBa:Below w.heap.size w (w.alloc (.cells #[x0,x1,()] 3)).drew:=by exact bel_
 have hra:RowsAt (w.alloc (.cells #[x0,x1,()] 3)).drew (some ⟨w.heap.size,0,none⟩) 1 numL [x0,x1,0]:=fun i hi=>by
  refine ⟨_,_,rfl,fun j u hj=>?_⟩
  have hc:=(Blk.new w #[x0,x1,()] 3).drew.cell (0+i * 1+j)
  exact Q1p
 have hpa:Blk (w.alloc (.cells #[x0,x1,()] 3)).drew p _ _:=(hp.alloc _).drew
 have HR:=hd_ (HN.out _ hBa _ 3 hra)
 go_enter func234,ntmps234
 exact Qc
end
theorem Zc1:Zdw prog 114 2:=⟨_,underlying114,rfl,by kernel_rfl⟩
theorem _root_.Q1s {p:Prop}(h:p:=by
 exact Za3 hB8 ((Lets.refl _ _).rowed (X:=fun k _=>w.heap.size≤k) h9 om_) nl_ (fun _ _ h e=>om_)):p:=h
theorem o_made (k f la m:Int) (w:World) :
  Calls prog 151 #[.int .i64 k,f,la,.int .i64 m] w (fun e w'=>∃ fv,e=.returned (.agg #[.int .i64 (Zg3 k),fv])∧Below w.heap.size w w'∧CapAt w.heap.size w' k f la m fv):=by
 have hmf:=hmf_ prog
 obtain ⟨W5,hW5⟩:∃ W5,((((w.alloc (.cells #[.int .i64 k] 3)).alloc (.cells #[f] 3)).alloc (.cells #[la] 3)).alloc (.cells #[.int .i64 m] 3)).alloc (.cells #[(),.nilFunc] 114)=W5:=⟨_,rfl⟩
 have hB5:Below w.heap.size w W5:=by rw [← hW5];exact bel_
 have hx:BoxAt W5 w.heap.size (w.heap.size+1) (w.heap.size+1+1) (w.heap.size+1+1+1) k f la m:=by
  rw [← hW5]
  exact ⟨((((Blk.new _ _ _).alloc _).alloc _).alloc _).alloc _,(((Blk.new' _ _ _ _ sp_).alloc _).alloc _).alloc _,((Blk.new' _ _ _ _ sp_).alloc _).alloc _,(Blk.new' _ _ _ _ sp_).alloc _⟩
 have b8:Blk W5 (w.heap.size+1+1+1+1) #[(),.nilFunc] 114:=by rw [← hW5];exact Blk.new' _ _ _ _ sp_
 have hs5:W5.heap.size=w.heap.size+1+1+1+1+1:=by rw [← hW5];simp
 have b96:Blk (W5.alloc (.cells #[(),.nilFunc] 114)) W5.heap.size #[(),.nilFunc] 114:=Blk.new _ _ _
 have HS5:=hd_ hs5
 clear hs5
 go_enter func151,ntmps151
 go_wp2_with (first
  | (refine Za1 114 (.tmp 9) (.tmp 12) Zc1 rfl rfl rfl rfl b96 rfl rfl (by simp [Value.oneCell']) ?_;intro w7 h7;refine Za2 ?_))
 unfold Stop
 have hs7:w7.heap.size=W5.heap.size+1:=by rw [h7.size,World.size_alloc]
 have b97:=h7.blk
 have hx7:BoxAt w7 w.heap.size (w.heap.size+1) (w.heap.size+1+1) (w.heap.size+1+1+1) k f la m:=by
  have:=HS5.out
  exact ⟨h7.other (hx.b4.alloc _) om_,h7.other (hx.b5.alloc _) om_,h7.other (hx.b6.alloc _) om_,h7.other (hx.b7.alloc _) om_⟩
 have b87:=h7.other (b8.alloc (.cells #[(),.nilFunc] 114)) (by have:=HS5.out;omega)
 have hB7:Below w.heap.size w w7:=Za3 (hB5.alloc (by have:=HS5.out;omega) (.cells #[(),.nilFunc] 114)) ((Lets.refl _ _).rowed (X:=fun k _=>w.heap.size≤k) h7 (by have:=HS5.out;show w.heap.size≤W5.heap.size;omega)) nl_ (fun _ _ h e=>om_)
 have HS7:=hd_ hs7
 clear h7 b96 hx b8 hB5 hs7 hW5
 have r97:=b97.cell
 have r47:=hx7.b4.cell
 have l97:=b97.lt
 have l47:=hx7.b4.lt
 have hP7:Blk ((w7.alloc (.cells #[.func (.func 231) #[] #[.pointer (some ⟨w.heap.size,0,none⟩),.pointer (some ⟨w.heap.size+1,0,none⟩),.pointer (some ⟨w.heap.size+1+1,0,none⟩),.pointer (some ⟨w.heap.size+1+1+1,0,none⟩)]] 112))) w7.heap.size _ _:=Blk.new _ _ _
 generalize W5.heap.size=p9 at *
 have hp8:∃ p8,w.heap.size+1+1+1+1=p8:=⟨_,rfl⟩
 obtain ⟨p8,hp8⟩:=hp8
 rw [hp8] at b87 ⊢
 have HP8:=hd_ hp8
 clear hp8
 have hsf:∀ (a:Addr) (fn:Fn) (x y:Array Value) (m:Mode) (w:World),(store a (.func fn x y) m).run prog w=stored prog w a (.func fn x y) m:=fun a fn x y m w=>run_store prog w a _ m rfl
 have hL7:Lets (fun k _=>w.heap.size≤k) w w7:=Lets.of_below hB7
 by_cases h4:k=4
 ·subst h4
  go_wp2_with (first
   | (refine Za1 114 (.tmp 9) (.tmp 19) Zc1 rfl rfl rfl rfl (b97.alloc _) rfl rfl (by simp [Value.oneCell']) ?_;intro w8 h8;refine Za2 ?_))
  unfold Stop
  have e5:=HS5.out
  have e7:=HS7.out
  have e8:=HP8.out
  have b98:=h8.blk
  have b88:=h8.other (b87.alloc _) om_
  have bP8:=h8.other hP7 om_
  have hx8:BoxAt w8 w.heap.size (w.heap.size+1) (w.heap.size+1+1) (w.heap.size+1+1+1) 4 f la m:=⟨h8.other (hx7.b4.alloc _) om_,h8.other (hx7.b5.alloc _) om_,h8.other (hx7.b6.alloc _) om_,h8.other (hx7.b7.alloc _) om_⟩
  have hB8:Below w.heap.size w w8:=Za3 (hB7.alloc om_ _) ((Lets.refl _ _).rowed (X:=fun k _=>w.heap.size≤k) h8 om_) nl_ (fun _ _ h e=>om_)
  clear e5 e7 e8 h8 hx7 b97 r97 r47 b87 hP7 l97 l47 hB7
  go_wp2_with (first
   | (refine Za0 114 (.tmp 9) Zc1 rfl rfl rfl b98 rfl ?_)
   | (refine Za1 114 (.tmp 8) (.tmp 24) Zc1 rfl rfl rfl rfl b88 rfl rfl (by simp [Value.oneCell']) ?_;intro w9 h9))
  have e5:=HS5.out
  have e7:=HS7.out
  have e8:=HP8.out
  refine bodyPost_ret (Za5 rfl _ Zc1 rfl h9.blk rfl) rfl ⟨_,rfl,?_,_,_,_,_,⟨h9.other hx8.b4 om_,h9.other hx8.b5 om_,h9.other hx8.b6 om_,h9.other hx8.b7 om_⟩,?_⟩
  ·exact Q1s
  ·rw [if_pos rfl]
   exact ⟨_,om_,rfl,h9.other bP8 om_⟩
 ·by_cases h5:k=5
  ·subst h5
   go_wp2_with (first
    | (refine Za1 114 (.tmp 9) (.tmp 23) Zc1 rfl rfl rfl rfl (b97.alloc _) rfl rfl (by simp [Value.oneCell']) ?_;intro w8 h8;refine Za2 ?_))
   unfold Stop
   have e5:=HS5.out
   have e7:=HS7.out
   have e8:=HP8.out
   have b98:=h8.blk
   have b88:=h8.other (b87.alloc _) om_
   have bP8:=h8.other hP7 om_
   have hx8:BoxAt w8 w.heap.size (w.heap.size+1) (w.heap.size+1+1) (w.heap.size+1+1+1) 5 f la m:=⟨h8.other (hx7.b4.alloc _) om_,h8.other (hx7.b5.alloc _) om_,h8.other (hx7.b6.alloc _) om_,h8.other (hx7.b7.alloc _) om_⟩
   have hB8:Below w.heap.size w w8:=Za3 (hB7.alloc om_ _) ((Lets.refl _ _).rowed (X:=fun k _=>w.heap.size≤k) h8 om_) nl_ (fun _ _ h e=>om_)
   clear e5 e7 e8 h8 hx7 b97 r97 r47 b87 hP7 l97 l47 hB7
   go_wp2_with (first
    | (refine Za0 114 (.tmp 9) Zc1 rfl rfl rfl b98 rfl ?_)
    | (refine Za1 114 (.tmp 8) (.tmp 24) Zc1 rfl rfl rfl rfl b88 rfl rfl (by simp [Value.oneCell']) ?_;intro w9 h9))
   have e5:=HS5.out
   have e7:=HS7.out
   have e8:=HP8.out
   refine bodyPost_ret (Za5 rfl _ Zc1 rfl h9.blk rfl) rfl ⟨_,rfl,?_,_,_,_,_,⟨h9.other hx8.b4 om_,h9.other hx8.b5 om_,h9.other hx8.b6 om_,h9.other hx8.b7 om_⟩,?_⟩
   ·exact Q1s
   ·rw [if_neg de_,if_pos rfl]
    exact ⟨_,om_,rfl,h9.other bP8 om_⟩
  ·have hn4:(k == 4)=false:=by simpa using h4
   have hn5:(k == 5)=false:=by simpa using h5
   have e5:=HS5.out
   have e7:=HS7.out
   have e8:=HP8.out
   have b97a:=b97.alloc (.cells #[.func (.func 231) #[] #[.pointer (some ⟨w.heap.size,0,none⟩),.pointer (some ⟨w.heap.size+1,0,none⟩),.pointer (some ⟨w.heap.size+1+1,0,none⟩),.pointer (some ⟨w.heap.size+1+1+1,0,none⟩)]] 112)
   have b87a:=b87.alloc (.cells #[.func (.func 231) #[] #[.pointer (some ⟨w.heap.size,0,none⟩),.pointer (some ⟨w.heap.size+1,0,none⟩),.pointer (some ⟨w.heap.size+1+1,0,none⟩),.pointer (some ⟨w.heap.size+1+1+1,0,none⟩)]] 112)
   have hB8:=hB7.alloc (show w.heap.size≤w7.heap.size by omega) (.cells #[.func (.func 231) #[] #[.pointer (some ⟨w.heap.size,0,none⟩),.pointer (some ⟨w.heap.size+1,0,none⟩),.pointer (some ⟨w.heap.size+1+1,0,none⟩),.pointer (some ⟨w.heap.size+1+1+1,0,none⟩)]] 112)
   clear e5 e7 e8
   go_wp2_with (first
    | (refine Za0 114 (.tmp 9) Zc1 rfl rfl rfl b97a rfl ?_)
    | (refine Za1 114 (.tmp 8) (.tmp 24) Zc1 rfl rfl rfl rfl b87a rfl rfl (by simp [Value.oneCell']) ?_;intro w9 h9))
   have e5:=HS5.out
   have e7:=HS7.out
   have e8:=HP8.out
   refine bodyPost_ret (Za5 rfl _ Zc1 rfl h9.blk rfl) rfl ⟨_,by unfold Zg3;rw [if_neg h4,if_neg h5],?_,_,_,_,_,⟨h9.other (hx7.b4.alloc _) om_,h9.other (hx7.b5.alloc _) om_,h9.other (hx7.b6.alloc _) om_,h9.other (hx7.b7.alloc _) om_⟩,?_⟩
   ·exact Q1s
   ·rw [if_neg h4,if_neg h5]
    rfl
theorem Zi3:∀ (k f u:Nat),k < f→(digF f u).length≤k→u < 10 ^ k
 | k,0,u,h,_=>absurd h om_
 | 0,f+1,u,_,h=>by
  rw [digF] at h
  split at h <;> simp at h
 | k+1,f+1,u,h,hl=>by
  rw [digF] at hl
  split at hl
  ·have:10 ^ 1≤10 ^ (k+1):=Nat.pow_le_pow_right om_ om_
   omega
  ·have:=Zi3 k f (u / 10) om_ (by simp at hl;omega)
   rw [Nat.pow_succ]
   omega
theorem Zpg:∀ (f u:Nat),∀ x∈digF f u,48≤x.toNat
 | 0,u,x,h=>by simp [digF] at h
 | f+1,u,x,h=>by
  have key:∀ d,d < 10→48≤(48+UInt8.ofNat d).toNat:=by decide
  rw [digF] at h
  split at h
  ·simp at h
   subst h
   exact key u as_
  ·rcases List.mem_append.1 h with h|h
   ·exact Zpg f _ x h
   ·simp at h
    subst h
    exact key (u % 10) om_
theorem Zw7 {n:Int}(h:(magO (Zct n)).length≤4) (hn:I64 n) : -9999≤n∧n≤9999:=by
 unfold Zct magO at h
 split at h
 ·rw [if_pos sp_] at h
  have:=Zi3 4 20 n.natAbs om_ (by simpa using h)
  omega
 ·rw [if_neg (by
   intro e
   obtain ⟨x,hx⟩:∃ x,(digF 20 n.toNat).head? = some x∧x=45:=⟨_,e,rfl⟩
   have:=Zpg 20 n.toNat x (List.mem_of_mem_head? hx.1)
   rw [hx.2] at this
   exact absurd this de_)] at h
  have:=Zi3 4 20 n.toNat om_ h
  omega
theorem trim_mag (s:Bs):Lib.trimPrefix s [45]=magO s:=by
 unfold Lib.trimPrefix magO
 cases s with
 | nil=>rfl
 | cons c r =>
  by_cases h:c=45
  ·subst h;rfl
  ·simp [Lib.hasPrefix,h]
   intro e
   exact absurd e.symm h
theorem Ztu {s:Bs}{n:Int}(h:numO s=some n) : -9999≤n∧n≤9999:=by
 unfold numO at h
 split at h
 ·rename_i v hv
  split at h
  ·rename_i hc
   cases h
   have hb:=Lib.atoiAll_bounds hv
   exact Zw7 (by rw [hc.1];exact hc.2) hb
  ·cases h
 ·cases h
def NumP (r:Option Int) (w:World) (e:Ending) (w':World):Prop :=
 match r with
 | some n=>e=.returned ↑n∧w w'
 | none=>Zy6 8 w e w'
theorem _root_.Qz {p:Prop}(h:p:=by
 have heq:∀ N w,(binOp .eql 196 (.iface 374 (.pointer (some ⟨N,0,none⟩))) .nilIface).run prog w=.ok (.bool false) w:=fun _ _=>by kernel_rfl
 unfold strV at *
 clear hv hnum hsz
 go_enter func66,ntmps66
 go_wp2_with (first
  | (go_at_call 149;refine HA.out.mono ?_;rintro e w2 ⟨N,n,rfl,hb2⟩)
  | (go_at_call 64;refine (HNo.out _).mono ?_;rintro e w5 ⟨rfl,rfl⟩))
 exact ⟨rfl,rfl,hb2⟩):p:=h
theorem o_number (s:Bs) (hs:s.length≤1000000) (w:World) (hv:VarsOk w) :
  Calls prog 66 #[strV s] w (NumP (numO s) w):=by
 have hsz:(⟨s.toArray⟩:ByteArray).size=s.length:=by simp [ByteArray.size]
 have HNo:=hd_ (fun W=>Zdf 8 W)
 have HYes:=hd_ (fun W=>Zbz 8 W)
 cases hA:Lib.atoiAll s with
 | ok n =>
  have hb:=Lib.atoiAll_bounds hA
  have hnum:numO s=if Zct n=s∧(magO s).length≤4 then some n else none:=by unfold numO;rw [hA]
  rw [hnum]
  have HA:Hid (Calls prog 149 #[.string ⟨s.toArray⟩] w (fun e w'=>e=.returned (.tuple #[.int .i64 n,.nilIface])∧Below w.heap.size w w')):=(Tryz.strconv_Atoi_ok ⟨s.toArray⟩ (by rw [hsz];omega) n hA w).mono (by
   rintro e w' ⟨rfl,rfl | ⟨t,rfl⟩⟩
   ·exact ⟨rfl,Below.refl _ _⟩
   ·exact ⟨rfl,Go.Joins.below_bytesWorld _ _ _ _ nl_⟩)
  have HI:=hd_ (fun W (hB:Below w.heap.size w W)=>Zsm n hb W (hv.below hB hv.2.2.2.2))
  have HT:Hid (∀ W,Calls prog 164 #[.string ⟨s.toArray⟩,.string ⟨#[45]⟩] W (fun e w'=>e=.returned (.string ⟨(magO s).toArray⟩)∧w'=W)):=fun W=>(Tryz.strings_TrimPrefix ⟨s.toArray⟩ ⟨#[45]⟩ W).mono (by
   rintro e w' ⟨rfl,rfl⟩
   exact ⟨by rw [← trim_mag],rfl⟩)
  have hml:(magO s).length≤s.length:=by unfold magO;split <;> simp
  unfold strV at *
  clear hv hnum hsz
  generalize Zct n=t at *
  generalize magO s=ms at *
  by_cases h1:t=s
  ·subst h1
   by_cases h2:ms.length≤4
   ·rw [if_pos ⟨rfl,h2⟩]
    have h2i:(ms.length:Int)≤4:=by omega
    go_enter func66,ntmps66
    go_wp2_with (first
     | (go_at_call 149;refine HA.out.mono ?_;rintro e w2 ⟨rfl,hb2⟩)
     | (go_at_call 30;refine (HI.out _ hb2).mono ?_;rintro e w3 ⟨rfl,hb3⟩)
     | (go_at_call 164;refine (HT.out _).mono ?_;rintro e w4 ⟨rfl,rfl⟩)
     | (go_at_call 64;refine (HYes.out _).mono ?_;rintro e w5 ⟨rfl,rfl⟩))
    go_ret
    exact ⟨rfl,hb2.trans (hb3.mono hb2.size)⟩
   ·rw [if_neg (fun e=>h2 e.2)]
    have h2i:¬ (ms.length:Int)≤4:=by omega
    have h2d:decide ((ms.length:Int)≤4)=false:=by simpa using h2i
    go_enter func66,ntmps66
    go_wp2_with (first
     | (go_at_call 149;refine HA.out.mono ?_;rintro e w2 ⟨rfl,hb2⟩)
     | (go_at_call 30;refine (HI.out _ hb2).mono ?_;rintro e w3 ⟨rfl,hb3⟩)
     | (go_at_call 164;refine (HT.out _).mono ?_;rintro e w4 ⟨rfl,rfl⟩)
     | (go_at_call 64;refine (HNo.out _).mono ?_;rintro e w5 ⟨rfl,rfl⟩))
    exact ⟨rfl,rfl,hb2.trans (hb3.mono hb2.size)⟩
  ·rw [if_neg (fun e=>h1 e.1)]
   have hne:(t == s)=false:=by simpa using h1
   go_enter func66,ntmps66
   go_wp2_with (first
     | (go_at_call 149;refine HA.out.mono ?_;rintro e w2 ⟨rfl,hb2⟩)
     | (go_at_call 30;refine (HI.out _ hb2).mono ?_;rintro e w3 ⟨rfl,hb3⟩)
     | (go_at_call 164;refine (HT.out _).mono ?_;rintro e w4 ⟨rfl,rfl⟩)
     | (go_at_call 64;refine (HNo.out _).mono ?_;rintro e w5 ⟨rfl,rfl⟩))
   exact ⟨rfl,rfl,hb2.trans (hb3.mono hb2.size)⟩
 | range =>
  have hnum:numO s=none:=by unfold numO;rw [hA]
  rw [hnum]
  obtain ⟨te,pe,hv5⟩:=hv.2.2.2.1
  have HA:Hid (Calls prog 149 #[.string ⟨s.toArray⟩] w (fun e w'=>∃ N n,e=.returned (.tuple #[.int .i64 n,.iface 374 (.pointer (some ⟨N,0,none⟩))])∧Below w.heap.size w w')):=(Tryz.strconv_Atoi_range ⟨s.toArray⟩ (by rw [hsz];omega) hA _ w hv5 (.inr ⟨te,pe,rfl⟩)).mono (by
   rintro e w' ⟨N,rfl,h1,h2,h3⟩
   exact ⟨N,_,rfl,h3⟩)
  exact Qz
 | _ =>
  have hnum:numO s=none:=by unfold numO;rw [hA]
  rw [hnum]
  obtain ⟨te,pe,hv5⟩:=hv.2.2.1
  have HA:Hid (Calls prog 149 #[.string ⟨s.toArray⟩] w (fun e w'=>∃ N n,e=.returned (.tuple #[.int .i64 n,.iface 374 (.pointer (some ⟨N,0,none⟩))])∧Below w.heap.size w w')):=(Tryz.strconv_Atoi_syntax ⟨s.toArray⟩ (by rw [hsz];omega) hA _ w hv5 (.inr ⟨te,pe,rfl⟩)).mono (by
   rintro e w' ⟨N,rfl,h1,h2,h3⟩
   exact ⟨N,_,rfl,h3⟩)
  exact Qz
end Go.Proofs.YtbapgefodmmikaaGreatDoor
