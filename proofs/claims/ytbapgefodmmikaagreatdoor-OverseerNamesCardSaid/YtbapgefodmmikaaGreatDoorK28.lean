/- Parts of a proof. -/
import Derived.Test.YtbapgefodmmikaaGreatDoorKMin
import Derived.Test.YtbapgefodmmikaaGreatDoorK27
set_option linter.unusedVariables false
set_option linter.unusedSimpArgs false
set_option maxHeartbeats 40000000
set_option maxRecDepth 100000
namespace Go.Proofs.YtbapgefodmmikaaGreatDoor
open Go.RowKit Go.Proofs Go.Ord Tryz
attribute [local irreducible] Ord.walk
def Zbp (t:Ty) (isB:Bool) (sa:Option Addr) (sc:Nat) (ca:Option Addr) (cc:Nat) (w:World) (e:Ending) (w':World):Prop :=
 if tyOk t=false then Zk6 1 w e w' else if isB=false then Zk6 2 w e w'
 else ∃ Y mb,e=.returned (.pointer (some ⟨Y,0,none⟩))∧w w'∧Zbf w' Y t sa sc ca cc mb∧w.heap.size≤Y∧w.heap.size≤mb
theorem Zc7 {t:Ty}(h:tyOk t=true):TyIn t t.sh.toNat:=by
 simp only [tyOk,Bool.and_eq_true,decide_eq_true_eq,List.all_eq_true] at h
 obtain ⟨⟨⟨⟨⟨h1,h2⟩,h3⟩,h4⟩,h5⟩,h6⟩:=h
 have e:t.sh=((t.sh.toNat:Nat):Int):=by omega
 exact ⟨e,om_,om_,h2,om_,h4,h5,fun c hc=>by rw [← e];exact h6 c hc⟩
def Zeq (s:Int × Int):Bool:=decide (-3≤s.1∧s.1≤s.2∧s.2≤3)
theorem Zsm {t:Ty}{k:Nat}(hk:k < t.strays.length) (h:Zeq t.strays[k]=false):tyOk t=false:=by
 cases hc:tyOk t with
 | false=>rfl
 | true =>
  have:=(Zc7 hc).spans _ (List.getElem_mem hk)
  rw [show Zeq t.strays[k]=true from decide_eq_true this] at h
  cases h
theorem Zuc {t:Ty}{k:Nat}(hk:k < t.calls.length) (h:Zcs t.sh t.calls[k]=false):tyOk t=false:=by
 cases hc:tyOk t with
 | false=>rfl
 | true =>
  have:=Zc7 hc
  have h2:=this.call _ (List.getElem_mem hk)
  rw [← this.sh,h] at h2
  cases h2
def Zvs (t:Ty):Prop:=(1≤t.sh∧t.sh≤5)∧(0≤t.most∧t.most≤60)∧((t.strays.length:Int)=t.sh - 1)∧(t.calls.length:Int)≤8
theorem tyOk_all {t:Ty}(h:Zvs t) (h5:t.strays.all Zeq=true) (h6:t.calls.all (Zcs t.sh)=true):tyOk t=true:=by
 obtain ⟨h1,h2,h3,h4⟩:=h
 simp only [tyOk,Bool.and_eq_true,decide_eq_true_eq]
 exact ⟨⟨⟨⟨⟨h1,h2⟩,h3⟩,om_⟩,h5⟩,h6⟩
theorem Zub {t:Ty}(h:¬ Zvs t):tyOk t=false:=by
 cases hc:tyOk t with
 | false=>rfl
 | true =>
  have:=Zc7 hc
  exact absurd ⟨by have h1:=this.sh;have h2:=this.one;have h3:=this.five;omega,this.most,by have h1:=this.sh;have h2:=this.strays;have h3:=this.one;omega,by have h1:=this.calls;omega⟩ h
theorem _root_.Qh {p:Prop}(h:p:=by
 go_enter func106,ntmps106
 go_wp2_with (first
  | (go_at_call 196;refine (HW.out _ _ _ _).mono ?_;rintro e w2 ⟨rfl,rfl⟩)
  | (go_at_call 195;refine (HN.out _ _).mono ?_;rintro e w3 ⟨rfl,rfl⟩))
 exact ⟨rfl,rfl,HBel.out⟩):p:=h
theorem Zuh (t:Ty) (sa:Option Addr) (sc:Nat) (ca:Option Addr) (cc:Nat) (f:Value) (w:World) (hls:t.strays.length≤9223372036854775807) (hlc:t.calls.length≤9223372036854775807)
  (hh:¬ Zvs t) :
  Calls prog 106 #[.agg (tyV t sa sc ca cc),f] w (Zk6 1 w):=by
 have HH:=hd_ hh
 clear hh
 obtain ⟨x1,e1⟩:∃ x,decide (1≤t.sh∧t.sh≤5)=x:=⟨_,rfl⟩
 obtain ⟨x2,e2⟩:∃ x,decide (0≤t.most∧t.most≤60)=x:=⟨_,rfl⟩
 obtain ⟨x3,e3⟩:∃ x,((t.strays.length:Int) == t.sh - 1)=x:=⟨_,rfl⟩
 obtain ⟨x4,e4⟩:∃ x,decide ((t.calls.length:Int)≤8)=x:=⟨_,rfl⟩
 have h:¬ (x1=true∧x2=true∧x3=true∧x4=true):=fun ⟨a,b,cc,d⟩=>HH.out ⟨of_decide_eq_true (e1.trans a),of_decide_eq_true (e2.trans b),by simpa using e3.trans cc,of_decide_eq_true (e4.trans d)⟩
 have h1:x1=true→1≤t.sh∧t.sh≤5:=fun a=>of_decide_eq_true (e1.trans a)
 obtain ⟨wi,hwi⟩:∃ wi:Int→Int→Int→Bool,(fun n lo hi=>decide (lo≤n∧n≤hi))=wi:=⟨_,rfl⟩
 have HW:Hid (∀ n lo hi W,Calls prog 196 #[.int .i64 n,.int .i64 lo,.int .i64 hi] W (Same (.bool (wi n lo hi)) W)):=by rw [← hwi];exact hd_ Zim
 have E1:wi t.sh 1 5=x1:=by rw [← hwi];exact e1
 have E2:wi t.most 0 60=x2:=by rw [← hwi];exact e2
 clear hwi
 have HN:=hd_ Zgl
 have HBel:Hid (w (((w.alloc (.cells (tyV t sa sc ca cc) 58)).alloc (.map #[] 0)).alloc (.cells (Ze3 t sa sc ca cc (w.heap.size+1)) 260))):=by show Below _ _ _;exact bel_
 have hmm:=@run_makeMap prog
 have hum:=underlying258
 clear e1 e2 HH
 unfold tyV Ze3 at *
 generalize t.strays.length=nl at *
 generalize t.calls.length=nc at *
 generalize t.most=may at *
 generalize t.sh=sh at *
 cases x1
 ·clear h1 e3 e4
  exact Qh
 cases x2
 ·clear h1 e3 e4
  exact Qh
 have h1':=h1 rfl
 clear h1
 cases x3
 ·clear e4
  exact Qh
 cases x4
 ·exact Qh
 exact absurd ⟨rfl,rfl,rfl,rfl⟩ h
theorem _root_.Q1y {p:Prop}(h:p:=by
 exact ⟨⟨k+1,om_,by go_num,HTE.out (by first|rfl|trivial),HBN.out.trans (hb2.mono (by simp;omega)),HLN.out.trans (Lets.of_below hb2)⟩,by simp [intOf];omega⟩):p:=h
theorem _root_.Q22 {p:Prop}(h:p:=by
 refine ⟨rfl,?_⟩
 unfold Zbp
 rw [if_pos (HB0.out (by first|rfl|trivial))]
 exact ⟨rfl,HBN.out.trans (hb2.mono (by simp;omega))⟩):p:=h
theorem Zsp (t:Ty) (isB:Bool) (sa:Option Addr) (sc:Nat) (ca:Option Addr) (cc:Nat) (F:FuncId) (cap:Array Value) (w:World) (hr:RowsAt w sa 2 Zaz t.strays) (hrc:RowsAt w ca 4 Zcj t.calls)
  (hh:Zvs t)
  (hcf:∀ (args:Array Value) (W:World),(callFunc F args).run prog W=.ok (.enter F args) W)
  (HIS0:∀ w' Y mb,Below w.heap.size w w'→tyOk t=true→Zbf w' Y t sa sc ca cc mb→Calls prog F (#[.pointer (some ⟨Y,0,none⟩)] ++ cap) w' (Same (.bool isB) w')) :
  Calls prog 106 #[.agg (tyV t sa sc ca cc),.func (.func F) #[] cap] w (Zbp t isB sa sc ca cc w):=by
 have HIS:=hd_ HIS0
 clear HIS0
 have HN:=hd_ Zgl
 have HY:=hd_ Zh9
 have HALL:=hd_ (fun h5 h6=>tyOk_all (t:=t) hh h5 h6)
 have HBS:Hid (∀ {k:Nat}(hk:k < t.strays.length),Zeq t.strays[k]=false→tyOk t=false):=hd_ Zsm
 have HBC:Hid (∀ {k:Nat}(hk:k < t.calls.length),Zcs t.sh t.calls[k]=false→tyOk t=false):=hd_ Zuc
 have HR:=hd_ hr
 have HRC:=hd_ hrc
 obtain ⟨h1,h2,h3,h4⟩:=hh
 have H1:=hd_ h1
 have H3:=hd_ h3
 obtain ⟨wi,hwi⟩:∃ wi:Int→Int→Int→Bool,(fun n lo hi=>decide (lo≤n∧n≤hi))=wi:=⟨_,rfl⟩
 have HW:Hid (∀ n lo hi W,Calls prog 196 #[.int .i64 n,.int .i64 lo,.int .i64 hi] W (Same (.bool (wi n lo hi)) W)):=by rw [← hwi];exact hd_ Zim
 have E1:wi t.sh 1 5=true:=by rw [← hwi];exact decide_eq_true h1
 have E2:wi t.most 0 60=true:=by rw [← hwi];exact decide_eq_true h2
 have E3:((t.strays.length:Int) == t.sh - 1)=true:=by simpa using h3
 have E4:decide ((t.calls.length:Int)≤8)=true:=decide_eq_true h4
 clear hwi
 have HSp:=hd_ Zrk
 have HCl:=hd_ (fun (W:World) (Y mb:Nat) (hy:YardAt W Y t sa sc ca cc mb) (c:Int × Int × Int × Int)=>t_isCall hy h1 c)
 clear hr hrc h2 h3
 have hmm:=@run_makeMap prog
 have hum:=underlying258
 obtain ⟨W5,hW5⟩:∃ W5,(((w.alloc (.cells (tyV t sa sc ca cc) 58)).alloc (.map #[] 0)).alloc (.cells (Ze3 t sa sc ca cc (w.heap.size+1)) 260))=W5:=⟨_,rfl⟩
 have hB5:Below w.heap.size w W5:=by rw [← hW5];exact bel_
 have bt:Blk W5 w.heap.size (tyV t sa sc ca cc) 58:=by rw [← hW5];exact ((Blk.new _ _ _).alloc _).alloc _
 have by_:Blk W5 (w.heap.size+2) (Ze3 t sa sc ca cc (w.heap.size+1)) 260:=by rw [← hW5];exact Blk.new' _ _ _ _ sp_
 have hm5:MapG.MapAt kfT vfT W5 (w.heap.size+1) []:=by
  have h0:=MapG.MapAt.new (kf:=kfT) (vf:=vfT) (w.alloc (.cells (tyV t sa sc ca cc) 58))
  rw [World.size_alloc] at h0
  rw [← hW5]
  exact h0.alloc _
 have hs5:W5.heap.size=w.heap.size+3:=by rw [← hW5];simp
 have HS5:=hd_ hs5
 clear hs5
 unfold tyV Ze3 at hW5
 have HM5:=hd_ hm5
 have HY5:=hd_ by_
 have HT5:=hd_ bt
 have HB5:=hd_ hB5
 have rt:=bt.cell
 have lt:=bt.lt
 unfold tyV at rt
 unfold tyV
 clear hm5 by_ bt hB5
 go_enter func106,ntmps106
 go_wp2_with (first
   | (go_at_call 196;refine (HW.out _ _ _ _).mono ?_;rintro e w2 ⟨rfl,rfl⟩)
   | (go_at_call 195;refine (HY.out _ _).mono ?_;rintro e w3 ⟨rfl,rfl⟩))
 clear rt lt E1 E2 E3 hmm hum
 have hle4:(t.strays.length:Int)≤4:=by have h8:=H1.out;have h9:=H3.out;omega
 go_loopw [7,41] (fun x7 x41 wr=>∃ k:Nat,k≤t.strays.length∧x41=↑k∧Hid ((t.strays.take k).all Zeq=true)∧Below w.heap.size w wr∧Lets (fun _ _=>False) W5 wr) (fun _ x41 _=>t.strays.length - (intOf x41).toNat)
 case atStart=>exact ⟨0,Nat.zero_le _,rfl,by show _=_;simp,HB5.out,Lets.refl _ _⟩
 case round =>
  obtain ⟨k,hk,rfl,HA,hB,hLt⟩:=hrel
  have hsr:=hLt.size
  by_cases hlt:k < t.strays.length
  ·have hlti:(k:Int) < (t.strays.length:Int):=by omega
   obtain ⟨gb,go,rfl,hq⟩:=HR.out k hlt
   have q0:=Za4 hB (hq 0 _ rfl)
   have q1:=Za4 hB (hq 1 _ rfl)
   rw [Nat.add_zero] at q0
   have lg:=bl_ wr _ q0
   have HB0:=hd_ (HBS.out hlt)
   have HTE:Hid (Zeq t.strays[k]=true→(t.strays.take (k+1)).all Zeq=true):=fun h=>by
    rw [List.take_succ_eq_append_getElem hlt,List.all_append,HA.out];simpa using h
   generalize t.strays[k]=s at *
   obtain ⟨s1,s2⟩:=s
   simp only at q0 q1
   obtain ⟨v,hv⟩:∃ v,Zeq (s1,s2)=v:=⟨_,rfl⟩
   have HSp2:Hid (∀ W,Calls prog 197 #[.agg #[s1,s2],.int .i64 (-3),.int .i64 3] W (Zal (.bool v) W)):=fun W=>by have:=HSp.out s1 s2 (-3) 3 W;rwa [show Zj5 (s1,s2) (-3) 3=v from hv] at this
   rw [hv] at HB0 HTE
   clear hq hv
   have hbn:w (wr.alloc (.cells #[s1,s2] 23)):=hB.alloc hB.size _
   have HBN:=hd_ hbn
   have HLN:=hd_ (hLt.alloc (.cells #[s1,s2] 23))
   have hs0:=hB.size
   clear hbn hB hLt
   cases v
   ·go_wp2_with (first
     | (go_at_call 197;refine (HSp2.out _).mono ?_;rintro e w2 ⟨rfl,hb2⟩)
     | (go_at_call 195;refine (HN.out _ _).mono ?_;rintro e w3 ⟨rfl,rfl⟩))
    exact Q22
   ·go_wp2_with (first
     | (go_at_call 197;refine (HSp2.out _).mono ?_;rintro e w2 ⟨rfl,hb2⟩)
     | (go_at_call 195;refine (HY.out _ _).mono ?_;rintro e w3 ⟨rfl,rfl⟩))
    exact Q1y
  ·have hlti:¬ (k:Int) < (t.strays.length:Int):=by omega
   obtain rfl:k=t.strays.length:=by omega
   rw [List.take_length] at HA
   have bt1:=hLt.blk HT5.out (fun e=>e)
   have rt:=bt1.cell
   have lt:=bt1.lt
   unfold tyV at rt
   have hle8:(t.calls.length:Int)≤8:=h4
   clear hlt hk HBS
   go_wp2_with fail
   clear rt lt bt1
   have HB1:=hd_ hB
   have HL1:=hd_ hLt
   clear hB hLt
   go_loopw [9,52] (fun x9 x52 wv=>∃ k:Nat,k≤t.calls.length∧x52=↑k∧Hid ((t.calls.take k).all (Zcs t.sh)=true)∧Below w.heap.size w wv∧Lets (fun _ _=>False) W5 wv) (fun _ x52 _=>t.calls.length - (intOf x52).toNat)
   case atStart=>exact ⟨0,Nat.zero_le _,rfl,by show _=_;simp,HB1.out,HL1.out⟩
   case round =>
    clear HB1 HL1 hsr
    obtain ⟨k,hk,rfl,HC,hB,hLt⟩:=hrel
    have hsr:=hLt.size
    by_cases hlt:k < t.calls.length
    ·have hlti:(k:Int) < (t.calls.length:Int):=by omega
     obtain ⟨gb,go,rfl,hq⟩:=HRC.out k hlt
     have q0:=Za4 hB (hq 0 _ rfl)
     have q1:=Za4 hB (hq 1 _ rfl)
     have q2:=Za4 hB (hq 2 _ rfl)
     have q3:=Za4 hB (hq 3 _ rfl)
     rw [Nat.add_zero] at q0
     have lg:=bl_ wr _ q0
     have HB0:=hd_ (HBC.out hlt)
     have HTE:Hid (Zcs t.sh t.calls[k]=true→(t.calls.take (k+1)).all (Zcs t.sh)=true):=fun h=>by
      rw [List.take_succ_eq_append_getElem hlt,List.all_append,HC.out];simpa using h
     generalize t.calls[k]=c at *
     obtain ⟨c1,c2,c3,c4⟩:=c
     simp only at q0 q1 q2 q3
     obtain ⟨v,hv⟩:∃ v,Zcs t.sh (c1,c2,c3,c4)=v:=⟨_,rfl⟩
     have HCl2:Hid (∀ W,Below w.heap.size w W→Lets (fun _ _=>False) W5 W→Calls prog 198 #[.pointer ↑(w.heap.size+2),.agg #[c1,c2,c3,c4]] W (Zal (.bool v) W)):=fun W hb hl=>by
      have:=HCl.out W (w.heap.size+2) (w.heap.size+1) ⟨hl.blk HY5.out (fun e=>e),HR.out.below hb,HRC.out.below hb⟩ (c1,c2,c3,c4)
      rw [hv] at this
      exact this
     rw [hv] at HB0 HTE
     clear hq hv
     have hbn:w (wr.alloc (.cells #[c1,c2,c3,c4] 137)):=hB.alloc hB.size _
     have HBN:=hd_ hbn
     have HLN:=hd_ (hLt.alloc (.cells #[c1,c2,c3,c4] 137))
     have hs0:=hB.size
     clear hbn hB hLt
     cases v
     ·go_wp2_with (first
       | (go_at_call 198;refine (HCl2.out _ HBN.out HLN.out).mono ?_;rintro e w2 ⟨rfl,hb2⟩)
       | (go_at_call 195;refine (HN.out _ _).mono ?_;rintro e w3 ⟨rfl,rfl⟩))
      exact Q22
     ·go_wp2_with (first
       | (go_at_call 198;refine (HCl2.out _ HBN.out HLN.out).mono ?_;rintro e w2 ⟨rfl,hb2⟩)
       | (go_at_call 195;refine (HY.out _ _).mono ?_;rintro e w3 ⟨rfl,rfl⟩))
      exact Q1y
    ·have hlti:¬ (k:Int) < (t.calls.length:Int):=by omega
     obtain rfl:k=t.calls.length:=by omega
     rw [List.take_length] at HC
     have hok:tyOk t=true:=HALL.out HA.out HC.out
     have hO9:Zbf wr (w.heap.size+2) t sa sc ca cc (w.heap.size+1):=by
      refine ⟨⟨hLt.blk HY5.out (fun e=>e),HR.out.below hB,HRC.out.below hB⟩,⟨[],?_,MapG.MapOk.nil,sp_⟩⟩
      exact (hLt.block _ HM5.out.lt (fun e=>e)).trans HM5.out
     have hs0:=hB.size
     clear hlt hk HBC
     go_wp2_with fail
     refine (HIS.out wr _ _ hB hok hO9).mono ?_
     rintro e w10 ⟨rfl,rfl⟩
     cases isB
     ·go_wp2_with (first
       | (go_at_call 195;refine (HN.out _ _).mono ?_;rintro e w3 ⟨rfl,rfl⟩))
      refine ⟨rfl,?_⟩
      unfold Zbp
      rw [if_neg (by rw [hok];decide),if_pos rfl]
      exact ⟨rfl,hB⟩
     ·go_wp2_with (first
       | (go_at_call 195;refine (HY.out _ _).mono ?_;rintro e w3 ⟨rfl,rfl⟩))
      go_ret
      unfold Zbp
      rw [if_neg (by rw [hok];decide),if_neg de_]
      exact ⟨_,_,rfl,hB,hO9,om_,om_⟩
section
variable {W0:World}{Y:Nat}{t:Ty}{sa:Option Addr}{sc:Nat}{ca:Option Addr}{cc mb:Nat}
theorem Zjm {s:Nat}(hT:TyIn t s):Zac t < 256:=by
 have h1:=hT.calls
 have h2:=Nat.pow_le_pow_right (show 0 < 2 by omega) h1
 have h3:=Nat.two_pow_pos t.calls.length
 unfold Zac
 omega
theorem Zuf (hO:Zbf W0 Y t sa sc ca cc mb) (s:Nat) (hT:TyIn t s) (hcan:canT (Zaa t (Zac t))=false) (w:World) (hw:LnT W0 mb t w) :
  Calls prog 199 #[.pointer Y] w (Zi5 W0 mb t 10 w):=by
 have hmb:=hO.mb_lt
 have HE:=hd_ (fun W (hW:LnT W0 mb t W)=>Zme (hO.at_ hW) hT.calls)
 have HT:=hd_ (fun W (hW:LnT W0 mb t W)=>Zmd hO s hT _ (Zjm hT) W hW)
 have HC:=hd_ (fun W=>t_can (Zaa t (Zac t)) W)
 have HA:=hd_ Zgl
 rw [hcan] at HC
 generalize Zaa t (Zac t)=TB at *
 generalize Zac t=ev at *
 clear hcan
 have hLn1:LnT W0 mb t (w.alloc (.cells zeroCells267 267)):=hw.below bel_ hmb
 have hl1:Lets (fun k _=>k=mb) w (w.alloc (.cells zeroCells267 267)):=Lets.of_below bel_
 go_enter func199,ntmps199
 go_wp2_with (first
  | (go_at_call 205;refine (HE.out _ hLn1).mono ?_;rintro e w2 ⟨rfl,rfl⟩)
  | (go_at_call 204;refine (HT.out _ hLn1).mono ?_;rintro e w2 ⟨rfl,hLn2,hl2⟩)
  | (refine Za1 267 (.tmp 3) (.tmp 7) Zae rfl rfl rfl rfl (Blk.new _ _ _) Zm8 (Zam _) (Zee _) ?_;intro w4 h4;have b4:=h4.blk;have hb4:=h4.below ((Below.refl _ w2).alloc nl_ _) nl_)
  | (refine Za0 267 (.tmp 3) Zae rfl rfl rfl b4 (Zam _) ?_)
  | (go_at_call 206;refine (HC.out _).mono ?_;rintro e w5 ⟨rfl,hb5⟩)
  | (go_at_call 195;refine (HA.out _ _).mono ?_;rintro e w3 ⟨rfl,rfl⟩))
 have hb25:=hb4.trans (hb5.mono hb4.size)
 exact ⟨rfl,rfl,hLn2.below hb25 hmb,(hl1.trans hl2).trans (Lets.of_below hb25)⟩
theorem Zso (hO:Zbf W0 Y t sa sc ca cc mb) (s:Nat) (hT:TyIn t s) (hcan:canT (Zaa t (Zac t))=true) (w:World) (hw:LnT W0 mb t w) :
  Calls prog 199 #[.pointer Y] w (Zk7 W0 mb t (.agg (ts (fl (Zaa t (Zac t))))) w):=by
 have hmb:=hO.mb_lt
 have hsz:=hw.2.size
 have HE:=hd_ (fun W (hW:LnT W0 mb t W)=>Zme (hO.at_ hW) hT.calls)
 have HT:=hd_ (fun W (hW:LnT W0 mb t W)=>Zmd hO s hT _ (Zjm hT) W hW)
 have HC:=hd_ (fun W=>t_can (Zaa t (Zac t)) W)
 have HA:=hd_ Zh9
 rw [hcan] at HC
 generalize Zaa t (Zac t)=TB at *
 generalize Zac t=ev at *
 clear hcan
 have hLn1:LnT W0 mb t (w.alloc (.cells zeroCells267 267)):=hw.below bel_ hmb
 have hl1:Lets (fun k _=>k=mb) w (w.alloc (.cells zeroCells267 267)):=Lets.of_below bel_
 have b2:Blk (w.alloc (.cells zeroCells267 267)) w.heap.size (ts fun _=>0) 267:=by rw [Zke];exact Blk.new _ _ _
 have l2:=b2.lt
 go_enter func199,ntmps199
 go_wp2_with (first
  | (go_at_call 205;refine (HE.out _ hLn1).mono ?_;rintro e w2 ⟨rfl,rfl⟩)
  | (go_at_call 204;refine (HT.out _ hLn1).mono ?_;rintro e w2 ⟨rfl,hLn2,hl2⟩;have b22:=hl2.blk b2 om_)
  | (refine Za1 267 (.tmp 3) (.tmp 7) Zae rfl rfl rfl rfl (Blk.new _ _ _) Zm8 (Zam _) (Zee _) ?_;intro w4 h4;have b4:=h4.blk;have hb4:=h4.below ((Below.refl _ w2).alloc nl_ _) nl_)
  | (refine Za0 267 (.tmp 3) Zae rfl rfl rfl b4 (Zam _) ?_;refine Za2 ?_))
 unfold Stop
 have b24:=b22.below hb4 b22.lt
 have hs4:=hb4.size
 have lt4:=b4.lt
 clear h4
 go_wp2_with (first
  | (go_at_call 206;refine (HC.out _).mono ?_;rintro e w5 ⟨rfl,hb5⟩;have b25:=b24.below hb5 b24.lt;have b45:=b4.below hb5 b4.lt)
  | (go_at_call 195;refine (HA.out _ _).mono ?_;rintro e w3 ⟨rfl,rfl⟩)
  | (refine Za0 267 (.tmp 3) Zae rfl rfl rfl b45 (Zam _) ?_)
  | (refine Za1 267 (.tmp 2) (.tmp 11) Zae rfl rfl rfl rfl b25 (Zam _) (Zam _) (Zee _) ?_;intro w6 h6))
 have hb25:=hb4.trans (hb5.mono hb4.size)
 have hl6:Lets (fun k _=>k=w.heap.size) w5 w6:=(Lets.refl _ _).rowed h6 rfl
 refine bodyPost_ret (v:=.agg (ts (fl TB))) (Za5 rfl _ Zae rfl h6.blk (Zam _)) rfl ⟨rfl,(hLn2.below hb25 hmb).lets hl6 hmb (fun k _ e=>om_),((hl1.trans hl2).trans (Lets.of_below hb25)).next hl6 (fun i hi _ e=>om_)⟩
def cntV (pen:Bool) (i:Nat):Value:=if pen then Zey i (i+1) else Zg3 i (i+1)
def cntX (pen:Bool) (s i:Nat):Nat × Nat:=if pen then penB s i else shornB i
theorem Zui (hO:Zbf W0 Y t sa sc ca cc mb) (s:Nat) (hT:TyIn t s) (hcan:canT (Zaa t (Zac t))=false) (v:Value) (w:World) (hw:LnT W0 mb t w) :
  Calls prog 109 #[.pointer Y,v] w (Zi5 W0 mb t 10 w):=by
 have hmb:=hO.mb_lt
 have HT:=hd_ (fun W (hW:LnT W0 mb t W)=>Zuf hO s hT hcan W hW)
 clear hcan
 have hLn1:LnT W0 mb t (w.alloc (.cells #[(),()] 23)):=hw.below bel_ hmb
 have hl1:Lets (fun k _=>k=mb) w (w.alloc (.cells #[(),()] 23)):=Lets.of_below bel_
 go_enter func109,ntmps109
 go_wp2_with (first
  | (go_at_call 199;refine (HT.out _ hLn1).mono ?_;rintro e w2 ⟨rfl,hLn2,hl2⟩))
 exact ⟨rfl,rfl,hLn2,hl1.trans hl2⟩
theorem _root_.Q14 {p:Prop}(h:p:=by
 have hb24:=hb3.trans (hb4.mono hb3.size)
 have hl6:Lets (fun k _=>k=w.heap.size) w4 w6:=(Lets.refl _ _).rowed h6 rfl
 refine bodyPost_ret (v:=.agg (spV (s1,s2))) (Za5 rfl _ Zas rfl h6.blk rfl) rfl ⟨rfl,(hLn2.below hb24 hmb).lets hl6 hmb (fun k _ e=>om_),((hl1.trans hl2).trans (Lets.of_below hb24)).next hl6 (fun i hi _ e=>om_)⟩):p:=h
theorem Zrj (pen:Bool) (hO:Zbf W0 Y t sa sc ca cc mb) (s:Nat) (hT:TyIn t s) (hcan:canT (Zaa t (Zac t))=true) (i:Nat) (hi:i < s) (w:World) (hw:LnT W0 mb t w) :
  Calls prog 109 #[.pointer Y,cntV pen i] w (Zk7 W0 mb t (.agg (spV (Zgn (Zaa t (Zac t)) (cntX pen s i).1 (cntX pen s i).2))) w):=by
 have hmb:=hO.mb_lt
 have hsz:=hw.2.size
 have h5:=hT.five
 have HT:=hd_ (fun W (hW:LnT W0 mb t W)=>Zso hO s hT hcan W hW)
 have hx:(cntX pen s i).1 < 11∧(cntX pen s i).2 < 11:=by
  cases pen
  ·show i+1 < 11∧i < 11;omega
  ·exact ⟨Zgb h5 hi,Zgb h5 om_⟩
 have HS:=hd_ (fun W=>t_span (Zaa t (Zac t)) (cntX pen s i).1 (cntX pen s i).2 0 0 hx.1 hx.2 W)
 have HE:Hid (∀ W,LnT W0 mb t W→Calls prog (if pen then 354 else 353) #[.agg #[.int .i64 (i:Int),.int .i64 ((i+1:Nat):Int)],.pointer Y] W (Zal (.agg (Zaq ((cntX pen s i).1,(cntX pen s i).2,0,0))) W)):=fun W hW=>by
  cases pen
  ·exact Zep i (i+1) _ W
  ·exact Zgm (hO.at_ hW) s hT.sh i (i+1) om_ om_
 have hm : ∀ w, (method 551 (if pen then 168 else 166) (.agg #[.int .i64 (i : Int), .int .i64 ((i + 1 : Nat) : Int)]) "shearworks/tally.ends").run prog w = .ok (if pen then 354 else 353, .agg #[.int .i64 (i : Int), .int .i64 ((i + 1 : Nat) : Int)]) w := fun _ => by cases pen <;> kernel_rfl
 generalize Zgn (Zaa t (Zac t)) (cntX pen s i).1 (cntX pen s i).2=SP at *
 generalize (cntX pen s i).1=xa at *
 generalize (cntX pen s i).2=xb at *
 generalize Zaa t (Zac t)=TB at *
 clear hcan hx
 obtain ⟨s1,s2⟩:=SP
 have hLn1:LnT W0 mb t (w.alloc (.cells #[(),()] 23)):=hw.below bel_ hmb
 have hl1:Lets (fun k _=>k=mb) w (w.alloc (.cells #[(),()] 23)):=Lets.of_below bel_
 have b4:Blk (w.alloc (.cells #[(),()] 23)) w.heap.size (spV (0,0)) 23:=Blk.new _ _ _
 have hmf:=hmf_ prog
 unfold cntV Zey Zg3
 generalize ((i+1:Nat):Int)=i1 at *
 cases pen
 ·simp only [Bool.false_eq_true,if_false] at *
  go_enter func109,ntmps109
  go_wp2_with (first
   | (go_at_call 199;refine (HT.out _ hLn1).mono ?_;rintro e w2 ⟨rfl,hLn2,hl2⟩;have b42:=hl2.blk b4 om_)
   | (go_at_call 353;refine (HE.out _ hLn2).mono ?_;rintro e w3 ⟨rfl,hb3⟩;have b43:=b42.below hb3 b42.lt)
   | (go_at_call 200;refine (HS.out _).mono ?_;rintro e w4 ⟨rfl,hb4⟩;have b44:=b43.below hb4 b43.lt)
   | (refine Za1 23 (.tmp 4) (.tmp 13) Zas rfl rfl rfl rfl b44 rfl rfl (by simp [spV,Value.oneCell']) ?_;intro w6 h6))
  exact Q14
 ·simp only [if_true] at *
  go_enter func109,ntmps109
  go_wp2_with (first
   | (go_at_call 199;refine (HT.out _ hLn1).mono ?_;rintro e w2 ⟨rfl,hLn2,hl2⟩;have b42:=hl2.blk b4 om_)
   | (go_at_call 354;refine (HE.out _ hLn2).mono ?_;rintro e w3 ⟨rfl,hb3⟩;have b43:=b42.below hb3 b42.lt)
   | (go_at_call 200;refine (HS.out _).mono ?_;rintro e w4 ⟨rfl,hb4⟩;have b44:=b43.below hb4 b43.lt)
   | (refine Za1 23 (.tmp 4) (.tmp 13) Zas rfl rfl rfl rfl b44 rfl rfl (by simp [spV,Value.oneCell']) ?_;intro w6 h6))
  exact Q14
end
theorem Ziz (F:FuncId) (cb:Array Value) (p:Nat→Bool) (I:World→Prop) (X:Nat→Option Obj→Prop) (l:List Nat) (g cap n:Nat) (er:Int) (w:World) (hl:l.length≤256)(hn:n < l.length) (hlo:∀ j,(h:j < n)→p (l[j]'om_)=false) (hhi:p l[n]=true)
  (hcf:∀ (args:Array Value) (W:World),(callFunc F args).run prog W=.ok (.enter F args) W) (hU:RowU w g l) (hg:∀ o,¬ X g o) (hgl:g < w.heap.size) (hI:∀ w',Below w.heap.size w w'→I w')
  (HP:∀ w' x,x∈l→I w'→Calls prog F (#[.int .u64 (x:Nat)] ++ cb) w' (fun e w''=>e=.returned (.bool (p x))∧I w''∧Lets X w' w'')) :
  Calls prog 201 #[.slice g l.length cap,.agg #[.func (.func F) #[] cb],er] w (fun e w'=>e=.returned (.int .u64 (l[n]:Nat))∧I w'∧Lets X w w'):=by
 have HI:=hd_ (fun w' (hb:Below w.heap.size w w')=>idxU F cb p I X l g cap n (n:Int) w' hl om_ hlo (fun _=>hhi) (fun _=>rfl) om_ hcf (hU.lets (X:=X) (Lets.of_below hb) hg) hg (hI w' hb) HP)
 have HM:=hd_ Zh9
 have hlti:(n:Int) < (l.length:Int):=by omega
 have hl256:(l.length:Int)≤256:=by omega
 have hU2:=hd_ (fun w' (hb:Lets X w w')=>(hU.lets hb hg) n hn)
 generalize l[n]=y at *
 clear hlo hhi HP hU hcf hI
 go_enter func201,ntmps201
 have hBb:w (w.alloc (.cells #[.func (.func F) #[] cb] 277)):=by exact bel_
 go_wp2_with (first
  | (go_at_call 264;refine (HI.out _ hBb).mono ?_;rintro e w1 ⟨rfl,hI1,hl1⟩;have HI1:=hd_ hI1;clear hI1;have hl01:=(Lets.of_below (X:=X) hBb).trans hl1;have cu:=hU2.out w1 hl01)
  | (go_at_call 195;refine (HM.out _ _).mono ?_;rintro e w' ⟨rfl,rfl⟩))
 go_ret
 exact ⟨rfl,HI1,hl01⟩
theorem Zkm (F:FuncId) (cb:Array Value) (p:Nat→Bool) (I:World→Prop) (X:Nat→Option Obj→Prop) (l:List Nat) (g cap:Nat) (er:Int) (w:World) (hl:l.length≤256)(hlo:∀ j,(h:j < l.length)→p l[j]=false)
  (hcf:∀ (args:Array Value) (W:World),(callFunc F args).run prog W=.ok (.enter F args) W) (hU:RowU w g l) (hg:∀ o,¬ X g o) (hgl:g < w.heap.size) (hI:∀ w',Below w.heap.size w w'→I w')
  (HP:∀ w' x,x∈l→I w'→Calls prog F (#[.int .u64 (x:Nat)] ++ cb) w' (fun e w''=>e=.returned (.bool (p x))∧I w''∧Lets X w' w'')) :
  Calls prog 201 #[.slice g l.length cap,.agg #[.func (.func F) #[] cb],er] w (fun e w'=>e=.panicked [{ v:=Zdw er,recovered:=false }]∧I w'∧Lets X w w'):=by
 have HI:=hd_ (fun w' (hb:Below w.heap.size w w')=>idxU F cb p I X l g cap l.length (-1) w' hl om_ hlo (fun h=>absurd h om_) (fun h=>absurd h om_) (fun _=>rfl) hcf (hU.lets (X:=X) (Lets.of_below hb) hg) hg (hI w' hb) HP)
 have HM:=hd_ Zgl
 clear hlo HP hU hcf hI
 go_enter func201,ntmps201
 have hBb:w (w.alloc (.cells #[.func (.func F) #[] cb] 277)):=by exact bel_
 go_wp2_with (first
  | (go_at_call 264;refine (HI.out _ hBb).mono ?_;rintro e w1 ⟨rfl,hI1,hl1⟩;have HI1:=hd_ hI1;clear hI1;have hl01:=(Lets.of_below (X:=X) hBb).trans hl1)
  | (go_at_call 195;refine (HM.out _ _).mono ?_;rintro e w' ⟨rfl,rfl⟩))
 exact ⟨rfl,rfl,HI1,hl01⟩
def upU (n k:Nat):Array Value:=((List.range n).map fun i=>Value.int .u64 (if i < k then (i:Int) else 0)).toArray
theorem Zrf (n k:Nat):(upU n k).size=n:=by simp [upU]
theorem upU_get (n k:Nat) {i:Nat}(h:i < n):(upU n k)[i]? = some (.int .u64 (if i < k then (i:Int) else 0)):=by simp [upU,h]
theorem upU_set (n k:Nat) (h:k < n):(upU n k).setIfInBounds k (.int .u64 (k:Int))=upU n (k+1):=by
 apply Array.ext
 ·simp [upU]
 ·intro i h1 h2
  have hi:i < n:=by simpa [upU] using h2
  rw [Array.getElem_setIfInBounds (by rw [Zrf];exact hi)]
  by_cases e:k=i
  ·subst e;simp [upU]
  ·simp only [upU,e,if_false,List.getElem_toArray,List.getElem_map,List.getElem_range]
   by_cases h3:i < k
   ·simp [h3,show i < k+1 by omega]
   ·simp [h3,show ¬ i < k+1 by omega]
theorem Zre (n:Nat):Array.replicate n (.int .u64 0)=upU n 0:=by
 apply Array.ext
 ·simp [upU]
 ·intro i h1 h2;simp [upU]
theorem upU_full (n:Nat):upU n n=((List.range n).map u64V).toArray:=by
 unfold upU
 congr 1
 refine List.map_congr_left fun i hi=>?_
 rw [if_pos (List.mem_range.1 hi)]
 rfl
theorem Zug {w:World}{Y:Nat}{t:Ty}{sa:Option Addr}{sc:Nat}{ca:Option Addr}{cc mb:Nat}(h:YardAt w Y t sa sc ca cc mb) (hl:t.calls.length≤8) :
  Calls prog 202 #[.pointer Y] w (fun e w'=>∃ g cap,e=.returned (.slice (some ⟨g,0,none⟩) (2 ^ t.calls.length) cap)∧Below w.heap.size w w'∧RowU w' g (Stab.bySize t.calls.length)∧w.heap.size≤g∧g < w'.heap.size):=by
 obtain ⟨i0,hi,hz0,hz1,hz2⟩:=Zbn Tryz.infoU
 have HE:=hd_ (Zme h hl)
 have HS:=hd_ Ztr
 have hp:0 < 2 ^ t.calls.length:=Nat.two_pow_pos _
 have hp8:2 ^ t.calls.length≤2 ^ 8:=Nat.pow_le_pow_right om_ hl
 unfold Zac at HE
 generalize t.calls.length=K at *
 obtain ⟨n,hn⟩:∃ n,2 ^ K=n:=⟨_,rfl⟩
 rw [hn] at HE hp hp8 ⊢
 have HN:=hd_ hn
 have hn256:n≤256:=hp8
 have hni:(n:Int)≤256:=by omega
 have hn1:((n - 1:Nat):Int)+1=(n:Int):=by omega
 have hn2:0≤((n - 1:Nat):Int)∧((n - 1:Nat):Int) < 256:=by omega
 generalize ((n - 1:Nat):Int)=m at *
 clear h hn hp8
 obtain ⟨W0,hW0⟩:∃ W,w.alloc (.cells (upU n 0) 151)=W:=⟨_,rfl⟩
 go_enter func202,ntmps202
 go_wp2_with (first
  | (go_at_call 205;refine HE.out.mono ?_;rintro e w2 ⟨rfl,rfl⟩)
  | (refine Zc6 rfl (.tmp 8) (.tmp 8) 273 rfl 151 i0 (.int .u64 0) underlying273 hi hz0 hz1 rfl .u64 .u64 (n:Int) (n:Int) n n rfl rfl rfl rfl nl_ (by rw [hz2];omega) (by unfold maxLen;omega) ?_;rw [Zre]))
 have b0:Blk W0 w.heap.size (upU n 0) 151:=by rw [← hW0];exact Blk.new _ _ _
 have hB0:w W0:=by rw [← hW0];exact bel_
 clear hW0
 go_loopw [4,12] (fun x4 x12 wr=>∃ k:Nat,k≤n∧x12=↑k∧Below w.heap.size w wr∧Blk wr w.heap.size (upU n k) 151) (fun _ x12 _=>n - (intOf x12).toNat)
 case atStart=>exact ⟨0,om_,rfl,hB0,b0⟩
 case round =>
  clear b0 hB0
  obtain ⟨k,hk,rfl,hB,b⟩:=hrel
  by_cases hlt:k < n
  ·have hlti:(k:Int) < (n:Int):=by omega
   have fk:=b.free k
   have ck:wr.cell? ⟨w.heap.size,k,none⟩=some (.int .u64 0):=by rw [b.cell,upU_get _ _ hlt];simp
   have lb:=b.lt
   have hku:(k:Int)≤256:=by omega
   go_wp2_with fail
   have h2:=b.set k (.int .u64 (k:Int))
   rw [upU_set _ _ hlt] at h2
   exact ⟨⟨k+1,om_,by go_num,hB.setCell nl_ _,h2⟩,by simp [intOf];omega⟩
  ·have hlti:¬ (k:Int) < (n:Int):=by omega
   obtain rfl:k=n:=by omega
   rw [upU_full] at b
   have hlb:=b.lt
   have hs0:=hB.size
   clear hlti hlt hk
   have hsrc:∀ W,Below wr.heap.size wr W→SrcAt W (.slice w.heap.size k k) k 1 ((List.range k).map u64V):=fun W hW=>by
    have b':=b.below hW hlb
    refine ⟨sp_,.inr ⟨⟨w.heap.size,0,none⟩,k,rfl,?_⟩⟩
    exact Zdd b' _ rfl
   have HSrc:=hd_ hsrc
   clear hsrc
   go_wp2_with (first
    | (refine Zc6 rfl (.tmp 22) (.tmp 22) 273 rfl 151 i0 (.int .u64 0) underlying273 hi hz0 hz1 rfl .i64 .i64 (k:Int) (k:Int) k k rfl rfl rfl rfl nl_ (by rw [hz2];omega) (by unfold maxLen;omega) ?_;rw [Zre]))
   have bA:Blk (wr.alloc (.cells (upU k 0) 151)) wr.heap.size (upU k 0) 151:=Blk.new _ _ _
   have hB1:Below wr.heap.size wr (wr.alloc (.cells (upU k 0) 151)):=br_.alloc nl_ _
   have hone:∀ v∈(List.range k).map u64V,v.oneCell'=true:=fun v hv=>by
    obtain ⟨x,_,rfl⟩:=List.mem_map.1 hv
    rfl
   rw [Zet (wr.alloc (.cells (upU k 0) 151)) 273 273 _ 151 i0 wr.heap.size k k k (.slice w.heap.size k k) (upU k 0) 151 ((List.range k).map u64V) underlying273 hi bA (by rw [hz1];exact HSrc.out _ hB1) rfl (by simp [Zrf]) hone]
   obtain ⟨w3,hw3⟩:∃ w3,(wr.alloc (.cells (upU k 0) 151)).setRow wr.heap.size ((List.range k).map u64V).toArray=w3:=⟨_,rfl⟩
   rw [hw3]
   have b3:Blk w3 wr.heap.size ((List.range k).map u64V).toArray 151:=by rw [← hw3];exact bA.setRow _
   have hl3:Lets (fun j _=>j=wr.heap.size) (wr.alloc (.cells (upU k 0) 151)) w3:=by rw [← hw3];exact ⟨rfl,rfl,rfl,sp_,fun j _ hj=>Go.setRow_other _ _ j _ hj⟩
   have hB3:Below wr.heap.size wr w3:=Za3 hB1 hl3 nl_ (fun _ _ _=>om_)
   have hown:w3.ownsRow wr.heap.size 151 1 (.slice (some ⟨wr.heap.size,0,none⟩) k k) k ((List.range k).map u64V):=⟨sp_,.inr ⟨wr.heap.size,k,_,rfl,Nat.le_refl _,b3,Nat.le_refl _,by unfold maxLen;omega,sp_,by simp [List.take_of_length_le]⟩⟩
   have hown2:w3.ownsRow wr.heap.size 151 1 (.slice (some ⟨wr.heap.size,0,none⟩) k k) (2 ^ K) ((List.range (2 ^ K)).map u64V):=by rw [HN.out];exact hown
   obtain ⟨g,cap,hg1,hg2,hcall⟩:=HS.out w3 wr.heap.size _ K hl hown2
   rw [HN.out] at hg1
   simp only [Value.slice.injEq,Option.some.injEq,Addr.mk.injEq,true_and,and_true] at hg1
   obtain ⟨rfl,rfl⟩:=hg1
   have HCall:=hd_ hcall
   have hB03:Below w.heap.size w w3:=hB.trans (hB3.mono hs0)
   clear hcall hown hown2 hw3 bA hB1 hone hl3 b HS HSrc
   go_wp2_with (first
    | (go_at_call 265;refine HCall.out.mono ?_;rintro e w9 ⟨rfl,hB9,hU,hgl⟩))
   go_ret
   exact ⟨_,_,rfl,hB03.trans (hB9.mono hs0),hU,hs0,hgl⟩
theorem _root_.Q25 {p:Prop}(h:p:=by
 intro K hK
 rcases (show K=0∨K=1∨K=2∨K=3∨K=4∨K=5∨K=6∨K=7∨K=8 by omega) with rfl|rfl|rfl|rfl|rfl|rfl|rfl|rfl|rfl <;> decide +kernel):p:=h
theorem Zpj:∀ K:Nat,K≤8→∀ x:Nat,x < 2 ^ K→bits .andNot .u64 ((2 ^ K - 1:Nat):Int) (x:Int)=((2 ^ K - 1 - x:Nat):Int):=Q25
section
variable {W0:World}{Y:Nat}{t:Ty}{sa:Option Addr}{sc:Nat}{ca:Option Addr}{cc mb:Nat}
theorem Zkk (hO:Zbf W0 Y t sa sc ca cc mb) (s:Nat) (hT:TyIn t s) (p x:Nat) (hx:x < 2 ^ t.calls.length) (w:World) (hw:LnT W0 mb t w) (hp:Blk w p #[.pointer Y] 161) :
  Calls prog 203 #[.int .u64 (x:Nat),.pointer p] w (fun e w'=>e=.returned (.bool (canT (Zaa t (Zac t - x))))∧LnT W0 mb t w'∧Lets (fun k _=>k=mb) w w'):=by
 have hmb:=hO.mb_lt
 have h8:=hT.calls
 have hlt:=Zjm hT
 have hand:=Zpj _ h8 x hx
 rw [show (2 ^ t.calls.length - 1:Nat)=Zac t from rfl] at hand
 have HE:=hd_ (fun W (hW:LnT W0 mb t W)=>Zme (hO.at_ hW) hT.calls)
 have HT:=hd_ (fun W (hW:LnT W0 mb t W)=>Zmd hO s hT (Zac t - x) om_ W hW)
 have HC:=hd_ (fun W=>t_can (Zaa t (Zac t - x)) W)
 generalize canT (Zaa t (Zac t - x))=v at *
 generalize Zaa t (Zac t - x)=TB at *
 generalize Zac t - x=d at *
 generalize Zac t=ev at *
 have r:=hp.cell
 have lp:=hp.lt
 have hwd:=hw.drew
 go_enter func203,ntmps203
 go_wp2_with fail
 refine Zxt [(0,0),(1,0),(2,0),(3,0),(4,0),(5,2),(6,2),(7,0)] (fun _=>True) kr_ kr_ trivial ?_
 go_wp2_with (first
  | (with_reducible refine Zxo ?_)
  | (go_at_call 204;refine (HT.out _ hwd).mono ?_;rintro e w2 ⟨rfl,hLn2,hl2⟩)
  | (go_at_call 206;refine (HC.out _).mono ?_;rintro e w3 ⟨rfl,hb3⟩)
  | (refine o_ ?_;intro K hK)|(with_reducible first|refine Zxn ?_ ?_|refine Zxi ?_|refine Zxe bn_ (fun _=>?_))
  | ((with_reducible refine Zxf ?_);refine Zxu rfl (fun W=>call205 _ W) (HE.out _ hwd) (fun K hK=>?_)))
 go_ret
 exact ⟨rfl,hLn2.below hb3 hmb,((Lets.refl _ _).drew.trans hl2).trans (Lets.of_below hb3)⟩
theorem t_Clash2 (hO:Zbf W0 Y t sa sc ca cc mb) (s:Nat) (hT:TyIn t s) (p x:Nat) (hx:x < 2 ^ t.calls.length) (w:World) (hw:LnT W0 mb t w) (hp:Blk w p #[.pointer Y] 161) :
  Calls prog 366 #[.int .u64 (x:Nat),.pointer p] w (fun e w'=>e=.returned (.bool (!canT (Zaa t x)))∧LnT W0 mb t w'∧Lets (fun k _=>k=mb) w w'):=by
 have hmb:=hO.mb_lt
 have h8:=hT.calls
 have h2:=Nat.pow_le_pow_right (show 0 < 2 by omega) h8
 have HT:=hd_ (fun W (hW:LnT W0 mb t W)=>Zmd hO s hT x om_ W hW)
 have HC:=hd_ (fun W=>t_can (Zaa t x) W)
 generalize canT (Zaa t x)=v at *
 generalize Zaa t x=TB at *
 have r:=hp.cell
 have lp:=hp.lt
 go_enter func366,ntmps366
 go_wp2_with (first
  | (go_at_call 204;refine (HT.out _ hw).mono ?_;rintro e w2 ⟨rfl,hLn2,hl2⟩)
  | (go_at_call 206;refine (HC.out _).mono ?_;rintro e w3 ⟨rfl,hb3⟩))
 go_ret
 exact ⟨rfl,hLn2.below hb3 hmb,hl2.trans (Lets.of_below hb3)⟩
theorem Zj7 {K:Nat}(hK:K≤8):(∀ x∈Stab.bySize K,x < 2 ^ K)∧(Stab.bySize K).length=2 ^ K:=by
 obtain ⟨-,hlen,hall⟩:=Stab.bySize_all K hK
 exact ⟨fun x hx=>by have:=List.all_eq_true.1 hall x hx;rwa [Nat.blt_eq] at this,hlen⟩
theorem Znw (hO:Zbf W0 Y t sa sc ca cc mb) (s:Nat) (hT:TyIn t s) (hf:(Stab.bySize t.calls.length).find? (fun x=>canT (Zaa t (Zac t - x)))=none) (w:World) (hw:LnT W0 mb t w) :
  Calls prog 114 #[.pointer Y] w (Zi5 W0 mb t 10 w):=by
 have hmb:=hO.mb_lt
 have hsz:=hw.2.size
 obtain ⟨hall,hlen⟩:=Zj7 hT.calls
 have h2:=Nat.pow_le_pow_right (show 0 < 2 by omega) hT.calls
 have HS:=hd_ (fun W (hW:LnT W0 mb t W)=>Zug (hO.at_ hW) hT.calls)
 have HP:Hid (∀ W p x,x∈Stab.bySize t.calls.length→LnT W0 mb t W→Blk W p #[.pointer Y] 161→Calls prog 203 #[.int .u64 (x:Nat),.pointer (some ⟨p,0,none⟩)] W (fun e w'=>e=.returned (.bool (canT (Zaa t (Zac t - x))))∧LnT W0 mb t w'∧Lets (fun k _=>k=mb) W w')):=fun W p x hx hW hp=>Zkk hO s hT p x (hall x hx) W hW hp
 have hno:=List.find?_eq_none.1 hf
 obtain ⟨pr,hpr⟩:∃ pr:Nat→Bool,(fun x=>canT (Zaa t (Zac t - x)))=pr:=⟨_,rfl⟩
 have hprx:∀ x,canT (Zaa t (Zac t - x))=pr x:=fun x=>congrFun hpr x
 simp only [hprx] at HP hno
 have hl256:(Stab.bySize t.calls.length).length≤256:=by rw [hlen];omega
 rw [← hlen] at HS
 generalize Stab.bySize t.calls.length=L at *
 clear hf hpr hprx hlen hall h2
 have hcf:∀ (args:Array Value) (W:World),(callFunc 203 args).run prog W=.ok (.enter 203 args) W:=fun args W=>call203 args W
 have hmf:=hmf_ prog
 have bp:Blk (w.alloc (.cells #[.pointer Y] 161)) w.heap.size #[.pointer Y] 161:=Blk.new _ _ _
 have hb1:w (w.alloc (.cells #[.pointer Y] 161)):=br_.alloc nl_ _
 have hLn1:=hw.below hb1 hmb
 go_enter func114,ntmps114
 go_wp2_with (first
  | (go_at_call 202;refine (HS.out _ hLn1).mono ?_;rintro e w2 ⟨g,cap,rfl,hb2,hU,hg1,hg2⟩;refine Za2 ?_))
 unfold Stop
 have bp2:=bp.below hb2 bp.lt
 have hLn2:=hLn1.below hb2 hmb
 have hb02:w w2:=hb1.trans (hb2.mono sp_)
 have hI2:∀ w',Below w2.heap.size w2 w'→(LnT W0 mb t w'∧Blk w' w.heap.size #[.pointer Y] 161):=fun w' hb=>⟨hLn2.below hb hmb,bp2.below hb bp2.lt⟩
 have hgm:∀ o:Option Obj,¬ (fun (k:Nat) (_:Option Obj)=>k=mb) g o:=fun o e=>by have:=hb2.size;simp at hg1;omega
 go_wp2_with (first
  | (go_at_call 201;refine Za2 ?_))
 unfold Stop
 refine (Zkm 203 #[.pointer w.heap.size] pr (fun w'=>LnT W0 mb t w'∧Blk w' w.heap.size #[.pointer Y] 161) (fun k _=>k=mb) L g cap 10 w2 hl256 (fun j h=>by simpa using hno _ (List.getElem_mem h)) hcf hU hgm hg2 hI2 (fun w' x hx hI=>(HP.out w' w.heap.size x hx hI.1 hI.2).mono fun e w'' h=>⟨h.1,⟨h.2.1,h.2.2.blk hI.2 om_⟩,h.2.2⟩)).mono ?_
 rintro e w3 ⟨rfl,⟨hLn3,-⟩,hl3⟩
 exact ⟨rfl,rfl,hLn3,(Lets.of_below hb02).trans hl3⟩
theorem Zmc (hO:Zbf W0 Y t sa sc ca cc mb) (s:Nat) (hT:TyIn t s) (y:Nat) (hf:(Stab.bySize t.calls.length).find? (fun x=>canT (Zaa t (Zac t - x)))=some y) (w:World) (hw:LnT W0 mb t w) :
  Calls prog 114 #[.pointer Y] w (Zk7 W0 mb t (.int .u64 (y:Nat)) w):=by
 have hmb:=hO.mb_lt
 have hsz:=hw.2.size
 obtain ⟨hall,hlen⟩:=Zj7 hT.calls
 have h2:=Nat.pow_le_pow_right (show 0 < 2 by omega) hT.calls
 have HS:=hd_ (fun W (hW:LnT W0 mb t W)=>Zug (hO.at_ hW) hT.calls)
 have HP:Hid (∀ W p x,x∈Stab.bySize t.calls.length→LnT W0 mb t W→Blk W p #[.pointer Y] 161→Calls prog 203 #[.int .u64 (x:Nat),.pointer (some ⟨p,0,none⟩)] W (fun e w'=>e=.returned (.bool (canT (Zaa t (Zac t - x))))∧LnT W0 mb t w'∧Lets (fun k _=>k=mb) W w')):=fun W p x hx hW hp=>Zkk hO s hT p x (hall x hx) W hW hp
 obtain ⟨hy,n,hn,hny,hlo⟩:=List.find?_eq_some_iff_getElem.1 hf
 obtain ⟨pr,hpr⟩:∃ pr:Nat→Bool,(fun x=>canT (Zaa t (Zac t - x)))=pr:=⟨_,rfl⟩
 have hprx:∀ x,canT (Zaa t (Zac t - x))=pr x:=fun x=>congrFun hpr x
 simp only [hprx] at HP hy hlo
 have hl256:(Stab.bySize t.calls.length).length≤256:=by rw [hlen];omega
 rw [← hlen] at HS
 generalize Stab.bySize t.calls.length=L at *
 clear hf hpr hprx hlen hall h2
 have hcf:∀ (args:Array Value) (W:World),(callFunc 203 args).run prog W=.ok (.enter 203 args) W:=fun args W=>call203 args W
 have hmf:=hmf_ prog
 have bp:Blk (w.alloc (.cells #[.pointer Y] 161)) w.heap.size #[.pointer Y] 161:=Blk.new _ _ _
 have hb1:w (w.alloc (.cells #[.pointer Y] 161)):=br_.alloc nl_ _
 have hLn1:=hw.below hb1 hmb
 have HN:=hd_ hny
 have HLo:=hd_ hlo
 have HYy:=hd_ hy
 clear hny hlo hy
 go_enter func114,ntmps114
 go_wp2_with (first
  | (go_at_call 202;refine (HS.out _ hLn1).mono ?_;rintro e w2 ⟨g,cap,rfl,hb2,hU,hg1,hg2⟩;refine Za2 ?_))
 unfold Stop
 have bp2:=bp.below hb2 bp.lt
 have hLn2:=hLn1.below hb2 hmb
 have hb02:w w2:=hb1.trans (hb2.mono sp_)
 have hI2:∀ w',Below w2.heap.size w2 w'→(LnT W0 mb t w'∧Blk w' w.heap.size #[.pointer Y] 161):=fun w' hb=>⟨hLn2.below hb hmb,bp2.below hb bp2.lt⟩
 have hgm:∀ o:Option Obj,¬ (fun (k:Nat) (_:Option Obj)=>k=mb) g o:=fun o e=>by have:=hb2.size;simp at hg1;omega
 go_wp2_with (first
  | (go_at_call 201;refine Za2 ?_))
 unfold Stop
 refine (Ziz 203 #[.pointer w.heap.size] pr (fun w'=>LnT W0 mb t w'∧Blk w' w.heap.size #[.pointer Y] 161) (fun k _=>k=mb) L g cap n 10 w2 hl256 hn (fun j h=>by simpa using HLo.out j h) (by rw [HN.out];exact HYy.out) hcf hU hgm hg2 hI2 (fun w' x hx hI=>(HP.out w' w.heap.size x hx hI.1 hI.2).mono fun e w'' h=>⟨h.1,⟨h.2.1,h.2.2.blk hI.2 om_⟩,h.2.2⟩)).mono ?_
 rw [HN.out]
 rintro e w3 ⟨rfl,⟨hLn3,-⟩,hl3⟩
 go_wp2_with fail
 go_ret
 exact ⟨rfl,hLn3,(Lets.of_below hb02).trans hl3⟩
end
end Go.Proofs.YtbapgefodmmikaaGreatDoor
