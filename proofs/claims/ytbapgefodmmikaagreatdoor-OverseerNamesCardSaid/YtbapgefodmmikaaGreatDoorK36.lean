/- Parts of a proof. -/
import Derived.Test.YtbapgefodmmikaaGreatDoorKMin
import Derived.Test.YtbapgefodmmikaaGreatDoorK35
import Derived.Test.YtbapgefodmmikaaGreatDoorRows
import Derived.HandedShaped
import Derived.LaidMore
import Derived.Lay
import Derived.Shelf.Vars
set_option linter.unusedVariables false
set_option linter.unusedSimpArgs false
set_option maxHeartbeats 40000000
set_option maxRecDepth 100000
namespace Go.Proofs.YtbapgefodmmikaaGreatDoor
open Go.RowKit Go.Proofs Go.Ord Tryz
attribute [local irreducible] Ord.walk
attribute [local go_sem] Oper.semAt_some
theorem v_span (x y:Int) (w:World) :
  Calls prog 46 #[x,y] w (Zal (.agg #[x,y]) w):=by
 go_enter func46,ntmps46
 go_wp2_with (refine Za1 23 (.tmp 4) (.tmp 7) Zsg rfl rfl rfl rfl (Blk.new _ _ _) rfl rfl (by simp [Value.oneCell']) ?_;intro w2 h2)
 (try simp only [Exit.inBlock,Exit.then])
 refine bodyPost_ret (v:=.agg #[x,y]) (Za5 rfl _ Zsg rfl h2.blk rfl) rfl ⟨rfl,?_⟩
 exact h2.below (br_.alloc nl_ _) nl_
theorem Zrd (w:World) :
  Calls prog 18 #[] w (fun e w'=>∃ sa sc fa fc,e=.returned (.agg (bgV sampleO sa sc fa fc))∧Below w.heap.size w w'∧RowsAt w' sa 2 Zaz sampleO.strays∧RowsAt w' fa 1 numL sampleO.fl):=by
 have H:=hd_ (fun x y W=>v_span x y W)
 go_enter func18,ntmps18
 go_wp2_with (first
  | (go_at_call 46;refine (H.out _ _ _).mono ?_;rintro e w1 ⟨rfl,hb1⟩;have b1:=(Blk.new w #[(),(),(),(),(),(),.slice none 0 0,.slice none 0 0,(),(),()] 27).below hb1 sp_;have hB:=((Below.refl w.heap.size w).alloc nl_ _).trans (hb1.mono sp_);refine Za2 ?_))
 unfold Stop
 go_wp2_with (first
  | (go_at_call 46;refine (H.out _ _ _).mono ?_;rintro e w2 ⟨rfl,hb2⟩;refine Za2 ?_))
 unfold Stop
 have b2:=b1.below hb2 b1.lt
 have hB2:=hB.trans (hb2.mono hB.size)
 go_wp2_with (first
  | (go_at_call 46;refine (H.out _ _ _).mono ?_;rintro e w3 ⟨rfl,hb3⟩;refine Za2 ?_))
 unfold Stop
 have b3:=b2.below hb3 b2.lt
 have hB3:=hB2.trans (hb3.mono hB2.size)
 clear b1 b2 hb1 hb2 hb3 hB hB2
 go_wp2_with (first
  | (refine Za1 27 (.tmp 0) (.tmp 6) Zk3 rfl rfl rfl rfl ((b3.alloc _).alloc _) rfl rfl (by simp [Value.oneCell']) ?_;intro w4 h4))
 (try simp only [Exit.inBlock,Exit.then])
 have bS:Blk w4 w3.heap.size _ _:=h4.other ((Blk.new w3 #[(),.int .i64 1,.int .i64 (-1),()] 23).alloc _) (by have:=b3.lt;omega)
 have bF:Blk w4 (w3.heap.size+1) _ _:=h4.other (Blk.new' (w3.alloc (.cells #[(),.int .i64 1,.int .i64 (-1),()] 23)) #[.int .i64 10,.int .i64 10,.int .i64 8] 3 (w3.heap.size+1) sp_) (by have:=b3.lt;omega)
 refine bodyPost_ret (v:=.agg (bgV sampleO w3.heap.size 2 ↑(w3.heap.size+1) 3)) (Za5 rfl _ Zk3 rfl h4.blk rfl) rfl ⟨_,_,_,_,rfl,?_,?_,?_⟩
 ·exact h4.below ((hB3.alloc hB3.size _).alloc (by have:=hB3.size;simp;omega) _) nl_
 ·exact RB.rows (f:=Zaz) (l:=sampleO.strays) (fun _=>rfl) ⟨_,bS,rfl⟩
 ·exact RB.rows (f:=numL) (l:=sampleO.fl) (fun _=>rfl) ⟨_,bF,rfl⟩
theorem Zu8 (la lb:List Bs) (a b:Option Addr) (c d:Nat) (w:World) (ha:RowsAt w a 1 strL la) (hb:RowsAt w b 1 strL lb) (hla:la.length≤1000000) (hlb:lb.length≤1000000) :
  Calls prog 16 #[.slice a la.length c,.slice b lb.length d] w (Zal (.bool (la == lb)) w):=by
 by_cases hl:la.length=lb.length
 ·have HK:Hid (∀ W,Below w.heap.size w W→∀ k,k < la.length→∃ s t ga oa gb ob,a=some ⟨ga,oa,none⟩∧b=some ⟨gb,ob,none⟩∧W.cell? ⟨ga,oa+k,none⟩=some (strV s)∧W.cell? ⟨gb,ob+k,none⟩=some (strV t)∧(s≠t→(la == lb)=false)∧(la.take k=lb.take k→s=t→la.take (k+1)=lb.take (k+1))):=fun W hB k h=>by
   have h':k < lb.length:=by omega
   obtain ⟨ga,oa,e1,hqa⟩:=(ha.below hB) k h
   obtain ⟨gb,ob,e2,hqb⟩:=(hb.below hB) k h'
   have q0:=hqa 0 _ rfl
   have q1:=hqb 0 _ rfl
   rw [Nat.add_zero,Nat.mul_one] at q0 q1
   refine ⟨la[k],lb[k],ga,oa,gb,ob,e1,e2,q0,q1,fun hn=>?_,fun e1 e2=>?_⟩
   ·rw [beq_eq_false_iff_ne]
    intro e
    subst e
    exact hn rfl
   ·rw [List.take_succ_eq_append_getElem h,List.take_succ_eq_append_getElem h',e1,e2]
  have HT:Hid (la.take la.length=lb.take la.length→(la == lb)=true):=fun e=>by
   rw [List.take_length,hl,List.take_length] at e
   simpa using e
  rw [← hl]
  clear ha hb hl hlb
  generalize la.length=n at *
  generalize (la == lb)=R at *
  have hli:(n:Int)≤1000000:=by omega
  go_enter func16,ntmps16
  go_wp2_with fail
  go_loopw [5] (fun x5 wr=>∃ k:Nat,k≤n∧x5=.int .i64 (k:Int)∧Below w.heap.size w wr∧Hid (la.take k=lb.take k)) (fun x5 _=>n - (intOf x5).toNat)
  case atStart=>exact ⟨0,om_,rfl,Below.refl _ _,(rfl:la.take 0=lb.take 0)⟩
  case round =>
   obtain ⟨k,hk,rfl,hbr,ht⟩:=hrel
   by_cases hlt:k < n
   ·have hlti:(k:Int) < (n:Int):=by omega
    obtain ⟨s,t,ga,oa,gb,ob,rfl,rfl,q0,q1,hF,hN⟩:=HK.out wr hbr k hlt
    have lg0:=bl_ _ _ q0
    have lg1:=bl_ _ _ q1
    have HN:=hd_ (hN ht.out)
    clear hN
    have HF:=hd_ hF
    clear hF
    unfold strV at *
    by_cases he:s=t
    ·subst he
     have HN1:=hd_ (HN.out rfl)
     go_wp2_with fail
     refine Ord.wp_region [(0,0),(1,0),(2,0),(3,0),(4,0),(5,0),(6,0),(7,0),(8,0)] (fun _=>True) kr_ kr_ (fun c a d v w h=>by cases d <;> exact h) trivial ?_
     go_wp2_with (first|(refine o_ ?_;intro K hK)|(with_reducible first|refine Zxn ?_ ?_|refine Zxi ?_|refine Zxe bn_ (fun _=>?_)))
     exact ⟨⟨k+1,om_,by go_num,hbr.drew,HN1⟩,by simp [intOf];omega⟩
    ·have hst:(s == t)=false:=by simpa using he
     rw [HF.out he]
     go_wp2_with fail
     refine Ord.wp_region [(0,0),(1,0),(2,0),(3,0),(4,0),(5,0),(6,0),(7,0),(8,0)] (fun _=>True) kr_ kr_ (fun c a d v w h=>by cases d <;> exact h) trivial ?_
     go_wp2_with (first|(refine o_ ?_;intro K hK)|(with_reducible first|refine Zxn ?_ ?_|refine Zxi ?_|refine Zxe bn_ (fun _=>?_)))
     go_ret
     exact ⟨rfl,hbr.drew⟩
   ·obtain rfl:k=n:=by omega
    have hR:=hd_ (HT.out ht.out)
    have hlti:¬ (k:Int) < (k:Int):=by omega
    go_wp2_with fail
    go_ret
    exact ⟨by rw [hR.out];rfl,hbr⟩
 ·have hb:(la == lb)=false:=by rw [beq_eq_false_iff_ne];intro e;exact hl (by rw [e])
  rw [hb]
  have hli2:¬ (la.length:Int)=(lb.length:Int):=by omega
  have hlb2:((la.length:Int) == (lb.length:Int))=false:=by simpa using hli2
  have hlb3:((la.length:Int) != (lb.length:Int))=true:=by simpa using hli2
  clear ha hb hl
  go_enter func16,ntmps16
  go_wp2_with fail
  go_ret
  exact ⟨rfl,Below.refl _ _⟩
theorem Zx1:Zjz=[[119,104,105,116,101,115],[103,114,111,117,112,32,55,32,50,32,51],[112,97,105,114,32,48,32,49,32,49],[103,114,111,117,112,32,50,56,32,48,32,49],[107,110,111,119,110],[116,101,108,108,32,52],[115,116,114,105,107,101],[112,111,114,116,32,48,32,54,32,54],[115,104,111,114,110,32,48],[102,101,108,116,32,48,32,49],[102,101,108,116,32,48,32,49],[119,114,111,110,103,32,48],[109,111,114,101,32,49],[102,101,108,116,32,48,32,48,49]]:=by decide +kernel
theorem Zx0:Zh5=[[119,104,105,116,101,115,32,50,32,51],[110,111,116,101,32,48],[110,111,116,101,32,49],[110,111,116,101,32,50],[107,110,111,119,110,32,51,32,48],[],[115,116,114,105,107,101,32,50],[110,111,116,101,32,50],[115,104,111,114,110,32,54,32,54],[110,111,116,101,32,51],[110,111,116,101,32,52],[119,114,111,110,103,32,49,32,49,48],[109,111,114,101,32,57],[]]:=by decide +kernel
theorem Zt0:Zq1 sampleO Zjz=(Zh5,2,0):=by
 unfold Zq1
 rw [if_neg (by decide +kernel),if_pos Zi9,alive_lines.1,alive_lines.2]
theorem v_alive (w:World) (hv:VarsOk w):Calls prog 13 #[] w (Zal (.bool true) w):=by
 have HS:=hd_ (fun W=>Zrd W)
 have HVar:=hd_ (fun W (hb:Below w.heap.size w W)=>hv.below hb hv.2.2.2.2)
 have HP:Hid (∀ W sa sc fa fc ta tc,VarsOk W→RowsAt W sa 2 Zaz sampleO.strays→RowsAt W fa 1 numL sampleO.fl→RowsAt W ta 1 strL Zjz→Calls prog 14 #[.agg (bgV sampleO sa sc fa fc),.slice ta 14 tc] W (PlayP (Zh5,2,0) W)):=fun W sa sc fa fc ta tc hv h1 h2 h3=>by
  have:=o_Play (w:=W) (b:=sampleO) (sa:=sa) (sc:=sc) (fa:=fa) (fc:=fc) Zjz ta tc h1 h2 de_ de_ hv h3 de_
  rw [Zt0] at this
  exact this
 have HC:Hid (∀ W a c b d,RowsAt W a 1 strL Zh5→RowsAt W b 1 strL Zh5→Calls prog 16 #[.slice a 14 c,.slice b 14 d] W (Zal (.bool true) W)):=fun W a c b d h1 h2=>by
  have:=Zu8 Zh5 Zh5 a b c d W h1 h2 de_ de_
  rw [beq_self_eq_true] at this
  exact this
 clear hv
 go_enter func13,ntmps13
 go_wp2_with (first
  | (go_at_call 18;refine (HS.out _).mono ?_;rintro e w1 ⟨sa,sc,fa,fc,rfl,hb1,h1,h2⟩;refine Za2 ?_))
 unfold Stop
 go_wp2_with (first
  | (go_at_call 14;refine (HP.out _ sa sc fa fc _ 14 (HVar.out _ (hb1.alloc hb1.size _)) (h1.below (br_.alloc nl_ _)) (h2.below (br_.alloc nl_ _)) (RB.rows (f:=strL) (l:=Zjz) (fun _=>rfl) ⟨_,Blk.new _ _ _,by rw [Zx1];rfl⟩)).mono ?_;rintro e w2 ⟨v,rfl,hb2,hown⟩;refine Za2 ?_))
 unfold Stop
 have hB3:w w2:=(hb1.alloc hb1.size _).trans (hb2.mono (hb1.alloc hb1.size _).size)
 obtain ⟨av,cv,rfl,hrv⟩:=Zc8 strL_len hown
 clear hown hb2 h1 h2
 go_wp2_with (first
  | (go_at_call 16;refine (HC.out _ av cv _ 14 (hrv.below (br_.alloc nl_ _)) (RB.rows (f:=strL) (l:=Zh5) (fun _=>rfl) ⟨_,Blk.new _ _ _,by rw [Zx0];rfl⟩)).mono ?_;rintro e w3 ⟨rfl,hb3⟩))
 go_ret
 exact ⟨rfl,(hB3.alloc hB3.size _).trans (hb3.mono (hB3.alloc hB3.size _).size)⟩
end Go.Proofs.YtbapgefodmmikaaGreatDoor
namespace Go.Proofs.YtbapgefodmmikaaGreatDoor
open Go.RowKit Go.Proofs Go.Ord Tryz
def namesO:List (Bs × Bs × Int):=[([119,104,105,116,101,115],[119,104,105,116,101,115,32,50,32,51],0),([103,114,111,117,112,32,55,32,50,32,51],[110,111,116,101,32,48],0),([112,97,105,114,32,48,32,49,32,49],[110,111,116,101,32,49],0),([103,114,111,117,112,32,50,56,32,48,32,49],[110,111,116,101,32,50],0),([107,110,111,119,110],[107,110,111,119,110,32,51,32,48],0),([112,97,115,115,101,100],[112,97,115,115,101,100,32,49],0),([116,101,108,108,32,50],[116,101,108,108,32,51,32,50,56],0),([119,104,105,116,101,32,50],[119,104,105,116,101,32,49],0),([116,101,108,108,32,52],[],4),([112,97,105,114,32,48,32,50,32,49],[110,111,116,101,32,51],0),([107,110,111,119,110],[107,110,111,119,110,32,55,32,50,52],0),([115,116,114,105,107,101],[115,116,114,105,107,101,32,51],0),([107,110,111,119,110],[107,110,111,119,110,32,51,32,48],0),([112,97,105,114,32,48,32,50,32,50],[],2),([103,114,111,117,112,32,51,50,32,48,32,49],[],2),([112,111,114,116,32,48,32,54,32,54],[110,111,116,101,32,51],0),([112,101,110,32,48,32,53,32,53],[110,111,116,101,32,52],0),([112,111,114,116,32,50,32,52,32,53],[110,111,116,101,32,53],0),([102,108,101,101,99,101,32,49,53,32,49,54],[110,111,116,101,32,54],0),([115,104,111,114,110,32,49],[115,104,111,114,110,32,52,32,54],0),([105,110,115,105,100,101,32,49],[105,110,115,105,100,101,32,53,32,56],0),([112,111,114,116,32,49,32,56,32,56],[110,111,116,101,32,55],0),([115,104,111,114,110,32,49],[],10),([102,97,108,115,101],[102,97,108,115,101,32,49,32,52],0),([115,116,114,105,107,101],[115,116,114,105,107,101,32,55],0),([119,114,111,110,103,32,48],[119,114,111,110,103,32,48,32,49,48],0),([107,101,101,112,115,32,48],[107,101,101,112,115,32,49],0),([102,101,108,116,32,48,32,49],[110,111,116,101,32,55],0),([102,101,108,116,32,48,32,49],[110,111,116,101,32,56],0),([119,114,111,110,103,32,48],[119,114,111,110,103,32,49,32,49,48],0),([109,111,114,101,32,49],[109,111,114,101,32,57],0),([102,101,108,116,32,51,32,48],[],2),([102,101,108,116,32,48,32,48,49],[],8),([115,116,114,105,107,101,32,49],[],8),([107,110,111,119,110,32],[],8)]
def Zsf (b:Ov):List Nt→List (Bs × Bs × Int)→Bool
 | _,[]=>true
 | l,x :: r=>((Zc3 b l x.1).1 == x.2.1) && decide ((Zc3 b l x.1).2.1=x.2.2) && Zsf b (Zc3 b l x.1).2.2 r
theorem Zqd:Zsf sampleO [] namesO=true:=by decide +kernel
def Zgf (b:Ov):List Nt→List (Bs × Bs × Int)→Nat→List Nt
 | l,_,0=>l
 | l,[],_+1=>l
 | l,x :: r,k+1=>Zgf b (Zc3 b l x.1).2.2 r k
theorem Zse (b:Ov):∀ (xs:List (Bs × Bs × Int)) (l:List Nt),Zsf b l xs=true→∀ k,(h:k < xs.length)→(Zc3 b (Zgf b l xs k) xs[k].1).1=xs[k].2.1∧(Zc3 b (Zgf b l xs k) xs[k].1).2.1=xs[k].2.2∧Zgf b l xs (k+1)=(Zc3 b (Zgf b l xs k) xs[k].1).2.2
 | [],_,_,k,h=>absurd h sp_
 | x :: r,l,ha,k,h=>by
  simp only [Zsf,Bool.and_eq_true,beq_iff_eq,decide_eq_true_eq] at ha
  cases k with
  | zero=>exact ⟨ha.1.1,ha.1.2,by simp [Zgf]⟩
  | succ k=>exact Zse b r _ ha.2 k (by simpa using h)
end Go.Proofs.YtbapgefodmmikaaGreatDoor
namespace Go.Proofs.YtbapgefodmmikaaGreatDoor
open Go.RowKit Go.Proofs Go.Ord Tryz
attribute [local irreducible] Ord.walk
attribute [local go_sem] Oper.semAt_some
def NewK (b:Ov) (w:World) (e:Ending) (w':World):Prop:=∃ O sa sc fa fc,e=.returned (.tuple #[.pointer (some ⟨O,0,none⟩),()])∧w w'∧w.heap.size≤O∧OvOk w' O b [] sa sc fa fc none 0∧(∀ p,sa=some p→p.block < O)∧(∀ p,fa=some p→p.block < O)
theorem o_NewYes {w:World}{b:Ov}{sa:Option Addr}{sc:Nat}{fa:Option Addr}{fc:Nat}(hs:RowsAt w sa 2 Zaz b.strays) (hf:RowsAt w fa 1 numL b.fl) (hls:b.strays.length≤40) (hlf:b.fl.length≤40) (hv:VarsOk w) (hvd:Zdj b []=true):Calls prog 17 #[.agg (bgV b sa sc fa fc)] w (NewK b w) :=
 (o_New hs hf hls hlf hv).mono (by
  rintro e w' (⟨-,O,sa,sc,fa,fc,h1,h2,h3,h4,h5,h6⟩ | ⟨h,-⟩)
  ·exact ⟨O,sa,sc,fa,fc,h1,h2,h3,OvOk.new h4 h5 h6 hls hlf,fun p e=>by subst e;exact (h5 p.block rfl).2,fun p e=>by subst e;exact (h6 p.block rfl).2⟩
  ·rw [hvd] at h;cases h)
def nmL (x:Bs × Bs × Int):List Value:=[strV x.1,strV x.2.1,.int .i64 x.2.2]
theorem Ziw (w:World) (hv:VarsOk w):Calls prog 4 #[] w (Zal (.bool true) w):=by
 have HS:=hd_ (fun W=>Zrd W)
 have HVar:=hd_ (fun W (hb:Below w.heap.size w W)=>hv.below hb hv.2.2.2.2)
 have HNew:Hid (∀ W sa sc fa fc,VarsOk W→RowsAt W sa 2 Zaz sampleO.strays→RowsAt W fa 1 numL sampleO.fl→Calls prog 17 #[.agg (bgV sampleO sa sc fa fc)] W (NewK sampleO W)):=fun W sa sc fa fc hv h1 h2=>o_NewYes h1 h2 de_ de_ hv Zi9
 have HAl:=hd_ (fun W hv=>v_alive W hv)
 have hN9:=hv.2.2.2.2
 have hlen:namesO.length=35:=by decide +kernel
 obtain ⟨NT,hNT⟩:∃ f:Nat→List Nt,f=Zgf sampleO [] namesO:=⟨_,rfl⟩
 have HL:Hid (∀ k,(h:k < namesO.length)→∀ W O sa sc fa fc na nc,9≤O→OvOk W O sampleO (NT k) sa sc fa fc na nc→Calls prog 19 #[.pointer (some ⟨O,0,none⟩),strV namesO[k].1] W (fun e w'=>e=.returned (.tuple #[strV namesO[k].2.1,.int .i64 namesO[k].2.2])∧Lets (fun k _=>k=O) W w'∧∃ na' nc',OvOk w' O sampleO (NT (k+1)) sa sc fa fc na' nc')):=fun k h W O sa sc fa fc na nc hO hok=>by
  subst hNT
  obtain ⟨h1,h2,h3⟩:=Zse sampleO namesO [] Zqd k h
  refine (o_Line hok hO namesO[k].1).mono ?_
  rintro e w' ⟨rfl,hl,na',nc',hok',-⟩
  rw [h1,h2]
  rw [h3]
  exact ⟨rfl,hl,na',nc',hok'⟩
 have hNT0:NT 0=[]:=by subst hNT;rfl
 have HNT0:=hd_ hNT0
 clear hNT hNT0 hv
 unfold bgV at *
 go_enter func4,ntmps4
 go_wp2_with (first
  | (go_at_call 18;refine (HS.out _).mono ?_;rintro e w1 ⟨sa,sc,fa,fc,rfl,hb1,h1,h2⟩)
  | (go_at_call 17;refine (HNew.out _ sa sc fa fc (HVar.out _ hb1) h1 h2).mono ?_;rintro e w2 ⟨O,sa2,sc2,fa2,fc2,rfl,hb2,hO2,hok,-,-⟩;refine Za2 ?_))
 unfold Stop
 have hB2:w w2:=hb1.trans (hb2.mono hb1.size)
 have hO9:9≤O:=Nat.le_trans hN9 (Nat.le_trans hb1.size hO2)
 have hON:w.heap.size≤O:=Nat.le_trans hb1.size hO2
 have hOlt:=hok.at_.blk.lt
 clear h1 h2 hb1 hb2 hO2
 generalize hN:w.heap.size=N at *
 have HN:=hd_ hN
 clear hN
 go_wp2_with fail
 have hTO:w2.heap.size≠O:=by omega
 go_loopw [55] (fun x55 wr=>∃ k:Nat,k≤35∧x55=.int .i64 (k:Int)∧Below N w wr∧RowsAt wr w2.heap.size 3 nmL namesO∧∃ na nc,OvOk wr O sampleO (NT k) sa2 sc2 fa2 fc2 na nc) (fun x55 _=>35 - (intOf x55).toNat)
 case atStart=>exact ⟨0,om_,rfl,hB2.alloc (by have:=hok.at_.blk.lt;omega) _,RB.rows (f:=nmL) (l:=namesO) (fun _=>rfl) ⟨_,Blk.new _ _ _,by rfl⟩,none,0,by rw [HNT0.out];exact hok.below (br_.alloc nl_ _)⟩
 case round =>
  obtain ⟨k,hk,rfl,hbr,hrT,na,nc,hokr⟩:=hrel
  generalize w2.heap.size=T at *
  by_cases hlt:k < 35
  ·have hlti:(k:Int) < 35:=by omega
   have hkl:k < namesO.length:=by omega
   obtain ⟨gt,gp,e,hq⟩:=hrT k hkl
   simp only [Option.some.injEq,Addr.mk.injEq,and_true] at e
   obtain ⟨rfl,rfl⟩:=e
   have q0:=hq 0 _ rfl
   have q1:=hq 1 _ rfl
   have q2:=hq 2 _ rfl
   rw [Nat.add_zero] at q0
   simp only [Nat.zero_add] at q0 q1 q2
   have lg:=bl_ wr _ q0
   have HLk:=hd_ (fun W na nc (h:OvOk W O sampleO (NT k) sa2 sc2 fa2 fc2 na nc)=>HL.out k hkl W O sa2 sc2 fa2 fc2 na nc hO9 h)
   clear hq
   generalize namesO[k]=x at *
   obtain ⟨x1,x2,x3⟩:=x
   simp only at q0 q1 q2 HLk
   have hokA:=hokr.below (br_.alloc nl_ (.cells #[strV x1,strV x2,x3] 42))
   have hrTA:=hrT.below (br_.alloc nl_ (.cells #[strV x1,strV x2,x3] 42))
   have hbA:=hbr.alloc (by have:=hokr.at_.blk.lt;omega) (.cells #[strV x1,strV x2,x3] 42)
   have bX:Blk (wr.alloc (.cells #[strV x1,strV x2,x3] 42)) wr.heap.size #[strV x1,strV x2,x3] 42:=Blk.new _ _ _
   have HLc:=hd_ (HLk.out _ na nc hokA)
   have hlO:=hokr.at_.blk.lt
   clear hokA hokr
   unfold strV at *
   go_wp2_with (first
    | (go_at_call 19;refine HLc.out.mono ?_;rintro e w5 ⟨rfl,hl5,na',nc',hok5⟩;have b5:=hl5.blk bX om_;refine Za2 ?_))
   unfold Stop
   have r5:=b5.cell
   have l5:=b5.lt
   have hr5:=Zcp hrTA hl5 (fun p _ e h=>by cases e;exact hTO h)
   have hb5:Below N w w5:=Za3 hbA hl5 (by have:=HN.out;simp;omega) (fun k _ h e=>om_)
   clear hrTA hl5 bX hbA
   go_wp2_with fail
   exact ⟨⟨k+1,om_,by go_num,hb5,hr5,na',nc',hok5⟩,by simp [intOf];omega⟩
  ·obtain rfl:k=35:=by omega
   have HAc:=hd_ (HAl.out wr hokr.at_.vars)
   go_wp2_with (first
    | (go_at_call 13;refine HAc.out.mono ?_;rintro e w6 ⟨rfl,hb6⟩))
   go_ret
   exact ⟨rfl,by rw [HN.out];exact hbr.trans (hb6.mono (by have:=hokr.at_.blk.lt;omega))⟩
end Go.Proofs.YtbapgefodmmikaaGreatDoor
namespace Go.Proofs.YtbapgefodmmikaaGreatDoor
open Go.ChangeShapes Go.WideShapes Go.ChangeAt Go.RowKit Go.WideElems
def laid6 : List (String × DataW Unit) := [("math/bits.deBruijn32tab", Rows.laid_math_bits_deBruijn32tab), ("math/bits.deBruijn64tab", Rows.laid_math_bits_deBruijn64tab), ("internal/strconv.uint64pow10", Rows.laid_internal_strconv_uint64pow10), ("unicode/utf8.acceptRanges", Rows.laid_unicode_utf8_acceptRanges), ("strconv.ErrRange", Rows.laid_strconv_ErrRange), ("strconv.ErrSyntax", Rows.laid_strconv_ErrSyntax)]
def Zok : List (String × DataW Unit) := laid6 ++ [("unicode/utf8.first", Rows.laid_unicode_utf8_first)]
theorem Zgz {W:World}{fuel:Nat}{cs:List Value}{s:String}{d:DataW Unit}{p:List MemPlace}(h:DataW.trod (fun _=>()) Tryz.prog W 0 (fun _=>true) false fuel 196 cs=some (.iface s d,p)):∃ te pe,cs=[.iface te pe]:=by
 cases fuel with
 | zero=>simp [DataW.trod] at h
 | succ f =>
  unfold DataW.trod at h
  rw [Tryz.underlying196] at h
  rcases cs with _ | ⟨x,_ | ⟨y,r⟩⟩
  ·simp at h
  ·cases x with
   | iface te pe=>exact ⟨te,pe,rfl⟩
   | _=>simp at h
  ·simp at h
theorem Zpw {W:World}{n:String}{g:Nat}{cs:Array Value}(hg:Tryz.prog.globalNamed n=some g) (h:W.var? Tryz.prog n=some cs):g < W.heap.size:=by
 unfold World.var? at h
 rw [hg] at h
 simp only [Option.bind_some] at h
 refine Decidable.byContradiction fun hn=>?_
 rw [Array.getElem?_eq_none om_] at h
 cases h
theorem vars_ok {W:World}{rest:List (String × DataW Unit)}(h:laidMet Tryz.prog (laid6 ++ rest) W) (hsh:W.ShapedOpen Tryz.prog):VarsOk W:=by
 obtain ⟨ps,⟨g0,t0,cs0,f0,p0,q0,hg0,ht0,hv0,hd0,⟨g1,t1,cs1,f1,p1,q1,hg1,ht1,hv1,hd1,⟨g2,t2,cs2,f2,p2,q2,hg2,ht2,hv2,hd2,⟨g3,t3,cs3,f3,p3,q3,hg3,ht3,hv3,hd3,⟨g4,t4,cs4,f4,p4,q4,hg4,ht4,hv4,hd4,⟨g5,t5,cs5,f5,p5,q5,hg5,ht5,hv5,hd5,-,-⟩,-⟩,-⟩,-⟩,-⟩,-⟩,-,-⟩:=h
 clear hd0 hd1 hd3 hv0 hv3 hg0 hg3 ht0 ht1 ht3
 have e1 : g1 = 8 := Option.some.inj (hg1.symm.trans (show Tryz.prog.globalNamed "math/bits.deBruijn64tab" = some 8 by kernel_rfl))
 subst e1
 have hsz:=Zpw hg1 hv1
 have hm:=cell_of_shapedOpen_int (P:=Tryz.prog) (w:=W) (g:=0) (t:=3) (zero:=#[()]) (k:=.i64) hsh (of_decide_eq_true kr_) kr_ rfl kr_ kr_ kr_
 have e2 : g2 = 4 := Option.some.inj (hg2.symm.trans (show Tryz.prog.globalNamed "internal/strconv.uint64pow10" = some 4 by kernel_rfl))
 have e4 : g4 = 6 := Option.some.inj (hg4.symm.trans (show Tryz.prog.globalNamed "strconv.ErrRange" = some 6 by kernel_rfl))
 have e5 : g5 = 5 := Option.some.inj (hg5.symm.trans (show Tryz.prog.globalNamed "strconv.ErrSyntax" = some 5 by kernel_rfl))
 subst e2 e4 e5
 have h4:t4=196:=Option.some.inj (ht4.symm.trans (show (Tryz.prog.globals[6]?).map (·.type)=some 196 by kernel_rfl))
 have h5:t5=196:=Option.some.inj (ht5.symm.trans (show (Tryz.prog.globals[5]?).map (·.type)=some 196 by kernel_rfl))
 have h2:t2=390:=Option.some.inj (ht2.symm.trans (show (Tryz.prog.globals[4]?).map (·.type)=some 390 by kernel_rfl))
 subst h2 h4 h5
 have hT : Lib.TabIs Tryz.prog W "internal/strconv.uint64pow10" .u64 Lib.pow10Tab := by
  unfold Lib.TabIs
  rw [hv2,← Lib.cells_of_tab (zs:=Lib.pow10Tab) Tryz.underlying390 Tryz.underlying281 kr_ kr_ hd2]
 obtain ⟨te4,pe4,hc4⟩:=Zgz hd4
 obtain ⟨te5,pe5,hc5⟩:=Zgz hd5
 have c4:=World.var?_cell hg4 hv4 0
 have c5:=World.var?_cell hg5 hv5 0
 rw [Array.eq_one_of_toList hc4] at c4
 rw [Array.eq_one_of_toList hc5] at c5
 exact ⟨hm,hT,⟨te5,pe5,by simpa using c5⟩,⟨te4,pe4,by simpa using c4⟩,hsz⟩
theorem lifts {a:Assume}{C:Checked}{os:Os}{f:FuncId}{fn:Func}{s:ChangeSpec}{conds:List PathCond}{apart fresh handsOn again:Bool}{X:World→Array Value→Prop}{H:Type}{enc:TypeId × Value→H}
  (hX:∀ (w w':World) (args:Array Value),w.heap=w'.heap→X w args→X w' args)
  (own:ownKnob C.prog.godebug=none) (started:os.Started) (noInit:C.prog.inits.idxOf? f=none) (hfn:C.prog.funcs[f]? = some fn)
  (witness:∃ (w:World) (tape:Tape) (i:Input),w.os=os∧(w.forCall tape i).Shaped C.prog∧i.vars=[]∧Input.okWide C.prog (w.forCall tape i) .any w.heap.size f i ∧
   ((s.pre enc C.prog fn conds apart (w.forCall tape i).memory i.args∧X (w.forCall tape i).memory i.args)∧sizedMet enc C.prog fn (OpenSpec.ofChange s) apart (w.forCall tape i).memory i.args)∧a.holds C.prog (lone (Frame.enter C.prog f i.args .normal) [] (w.forCall tape i)))
  (contract:∀ (W:World) (base:Nat) (args:Array Value) (ds gs:List (DataW H)) (before:List MemPlace),
   (∀ (j:Nat) t v,fn.params[j]? = some t→args[j]? = some v→Value.okWide C.prog W .any base t v) →
   DataW.Whole enc C.prog fn.params.toList s.vars apart W args.toList ds gs before→X W args→W.ShapedOpen C.prog →
   Calls C.prog f args W fun e W'=>∃ v,e=.returned v∧s.post enc C.prog fn apart fresh handsOn again W args v W') :
  ReturnsInHanded a C os f .any (fun w args=>(s.pre enc C.prog fn conds apart w args∧X w args)∧sizedMet enc C.prog fn (OpenSpec.ofChange s) apart w args) (s.post enc C.prog fn apart fresh handsOn again):=by
 refine returnsInHanded_of_calls own started noInit witness ?_
 intro w tape i _ hsh _ hok hpre hholds
 obtain ⟨_,_,_,fn',hfn',_,_,_,_,hval⟩:=hok
 have e:fn'=fn:=Option.some.inj (hfn'.symm.trans hfn)
 subst e
 obtain ⟨⟨⟨ds,gs,before,hw,hc⟩,hx⟩,hz⟩:=hpre
 have hw':=DataW.Whole.of_heap (w':=w.forCall tape i) (by rfl) hw
 refine (contract (w.forCall tape i) w.heap.size i.args ds gs before hval hw' (hX _ _ _ (by rfl) hx) hsh).mono fun e W' ⟨v,he,hp⟩=>?_
 subst he
 exact ChangeSpec.post_blind hp
theorem own_knob:ownKnob Tryz.prog.godebug=none:=by kernel_rfl
end Go.Proofs.YtbapgefodmmikaaGreatDoor
