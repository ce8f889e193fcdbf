/- Parts of a proof. -/
import Derived.Test.YtbapgefodmmikaaGreatDoorLMin
import Derived.Test.YtbapgefodmmikaaGreatDoorL11
set_option linter.unusedVariables false
set_option linter.unusedSimpArgs false
set_option maxHeartbeats 40000000
set_option maxRecDepth 100000
namespace Go.Proofs.YtbapgefodmmikaaGreatDoor
open Go.RowKit Go.Proofs Go.Ord Tryz
open Go.Shelf Go.RowKit Go.Lib Go.Sort
variable {α:Type} [Inhabited α]
def Zkj (enc:α→Value) (w0:World) (blk off:Nat) (d:Array α) (e:Ending) (w':World):Prop:=e=.returned (.tuple #[])∧SW enc w0 blk off d w'
theorem _root_.Q1b {p:Prop}(h:p:=by
 have:=HB.out
 cases gk with
 | zero=>exact this
 | succ f1=>rwa [Stab.bs,if_neg om_] at this):p:=h
theorem _root_.Q35 {p:Prop}(h:p:=by
 clear hx0 hy0
 go_wp2_with fail
 go_quiet_grown (first|(go_at_fn g;refine Calls.grown_of (hc0 _ _)))
 have S2:Aside (SW enc w0 blk off d (grow (wr.drewN nq) osq)):=S1.out.grown nq osq
 clear la0 lb0 hc0 S1
 generalize grow (wr.drewN nq) osq=w2 at S2 ⊢
 clear nq osq
 clear hv0
 go_wp2
 go_roundg f1
 case measure=>omega
 case rel=>exact ⟨h+1,j,by go_num,by go_num,om_,om_,om_,om_,S2,HB3⟩):p:=h
theorem _root_.Q36 {p:Prop}(h:p:=by
 clear hx0 hy0
 go_wp2_with fail
 go_quiet_grown (first|(go_at_fn g;refine Calls.grown_of (hc0 _ _)))
 have S2:Aside (SW enc w0 blk off d (grow (wr.drewN nq) osq)):=S1.out.grown nq osq
 clear la0 lb0 hc0 S1
 generalize grow (wr.drewN nq) osq=w2 at S2 ⊢
 clear nq osq
 clear hv0
 go_wp2
 go_roundg f1
 case measure=>omega
 case rel=>exact ⟨i,h,by go_num,by go_num,om_,om_,om_,om_,S2,HB3⟩):p:=h
theorem sym_one (enc:α→Value) (cf:α→α→Int) (g:Nat) (cb:Array Value) (blk off cap L:Nat) (d0 d:Array α) (w0 w:World)
  (eg:∀ args w,(callFunc g args).run prog w=.ok (.enter g args) w) (hcmp:CmpLays1 prog g cb enc cf blk off d0.size w0) (R:Row1 enc w0 blk off d0) (h0:d0.size=L) (hs:d.size=L) (hL:L≤256) (S:SW enc w0 blk off d w) (a m b:Nat) (ham:m=a+1) (hmb:m < b) (hb:b≤L) :
  Calls prog 328 #[.slice (some ⟨blk,off,none⟩) L cap,a,m,b,.func (.func g) #[] cb] w (Zkj enc w0 blk off (Stab.ups (Stab.arrO α) a d (Stab.sHi (Stab.arrO α) (ltOf cf) a m b d - 1 - a))):=by
 have mixed:prog.follows Departure.mixedOrders=true:=by kernel_rfl
 have hcl0:=R.hO.cells
 simp only [Value.cells] at hcl0
 have hst:=R.hO.store prog
 have HC:Aside _:=hcmp
 have S0:Aside (SW enc w0 blk off d w):=S
 clear S
 clear hcmp
 obtain ⟨pp,hpp⟩:∃ pp:Nat→Bool,pp=fun h=>ltOf cf d[h]! d[a]!:=⟨_,rfl⟩
 have HPP:Hid (∀ h,pp h=ltOf cf d[h]! d[a]!):=by intro h;rw [hpp]
 have hbd:=Stab.bs_bd pp (b - m) m b om_
 obtain ⟨res,hres⟩:∃ r,r=Stab.bs pp (b - m) m b:=⟨_,rfl⟩
 have HSH:Hid (Stab.sHi (Stab.arrO α) (ltOf cf) a m b d=res):=by show _=_;rw [hres,hpp];rfl
 have HRES:Hid (Stab.bs pp (b - m) m b=res):=hres.symm
 rw [← hres] at hbd
 clear hpp hres
 have h1:((m:Int) - (a:Int) == 1)=true:=by simp;omega
 have ham1:a+1≤m:=by omega
 have ham2:m≤a+1:=by omega
 clear ham
 go_enter func328,ntmps328
 go_wp2
 go_loopg [10,11] (b - m) (fun g1 vi vj wr=>∃ (i j:Nat),vi=↑i∧vj=↑j∧m≤i∧i≤j∧j≤b∧j - i≤g1∧Aside (SW enc w0 blk off d wr)∧Hid (Stab.bs pp g1 i j=res))
 case atStart=>exact ⟨m,b,by go_num,by go_num,om_,om_,om_,om_,S0,HRES⟩
 case round =>
  clear S0
  obtain ⟨i,j,rfl,rfl,hi1,hi2,hi3,hg1,S1,HB⟩:=hrel
  by_cases hlt:i < j
  ·obtain ⟨f1,rfl⟩:∃ f1,gk=f1+1:=⟨gk - 1,om_⟩
   have hltz:(i:Int) < (j:Int):=by omega
   obtain ⟨h,hh⟩:∃ h,h=(i+j) / 2:=⟨_,rfl⟩
   have hhz:((i:Int)+(j:Int)) / 2=(h:Int):=by omega
   have hhl:i≤h:=by omega
   have hhr:h < j:=by omega
   have HB2:Hid ((if pp h=true then Stab.bs pp f1 (h+1) j else Stab.bs pp f1 i h)=res):=by
    show _=_;have:=HB.out;rwa [Stab.bs,if_pos hlt,← hh] at this
   clear HB hh
   cases hl0:ltOf cf d[h]! d[a]! with
   | true =>
    have hlv:=hd_ hl0
    have HP:pp h=true:=by rw [HPP.out];simp [hl0]
    have HB3:Hid (Stab.bs pp f1 (h+1) j=res):=by show _=_;have:=HB2.out;rwa [if_pos HP] at this
    clear hl0 HP HB2
    go_wp2_with fail
    have pi0:(0:Int)≤(h:Int):=by omega
    have bi0:(h:Int) < (L:Int):=by omega
    have ri0:IntKind.i64.wrap (h:Int)=(h:Int):=by rw [IntKind.wrap_i64];omega
    have pj0:(0:Int)≤(a:Int):=by omega
    have bj0:(a:Int) < (L:Int):=by omega
    have rj0:IntKind.i64.wrap (a:Int)=(a:Int):=by rw [IntKind.wrap_i64];omega
    obtain ⟨x0,hx0⟩:∃ x,x=d[h]!:=⟨_,rfl⟩
    obtain ⟨y0,hy0⟩:∃ x,x=d[a]!:=⟨_,rfl⟩
    have la0:=S1.out.cl R om_ (h) om_
    have lb0:=S1.out.cl R om_ (a) om_
    rw [← hx0] at la0
    rw [← hy0] at lb0
    have hc0:=S1.out.cmp HC.out om_ x0 y0
    have hv0:cf x0 y0 < 0:=by rw [hx0,hy0];exact of_decide_eq_true hlv.out
    have hd0:decide (cf x0 y0 < 0)=true:=decide_eq_true hv0
    exact Q35
   | false =>
    have hlv:=hd_ hl0
    have HP:pp h=false:=by rw [HPP.out];simp [hl0]
    have HB3:Hid (Stab.bs pp f1 i h=res):=by show _=_;have:=HB2.out;rwa [if_neg (by rw [HP];simp)] at this
    clear hl0 HP HB2
    go_wp2_with fail
    have pi0:(0:Int)≤(h:Int):=by omega
    have bi0:(h:Int) < (L:Int):=by omega
    have ri0:IntKind.i64.wrap (h:Int)=(h:Int):=by rw [IntKind.wrap_i64];omega
    have pj0:(0:Int)≤(a:Int):=by omega
    have bj0:(a:Int) < (L:Int):=by omega
    have rj0:IntKind.i64.wrap (a:Int)=(a:Int):=by rw [IntKind.wrap_i64];omega
    obtain ⟨x0,hx0⟩:∃ x,x=d[h]!:=⟨_,rfl⟩
    obtain ⟨y0,hy0⟩:∃ x,x=d[a]!:=⟨_,rfl⟩
    have la0:=S1.out.cl R om_ (h) om_
    have lb0:=S1.out.cl R om_ (a) om_
    rw [← hx0] at la0
    rw [← hy0] at lb0
    have hc0:=S1.out.cmp HC.out om_ x0 y0
    have hv0:¬ cf x0 y0 < 0:=by rw [hx0,hy0];exact of_decide_eq_false hlv.out
    have hd0:decide (cf x0 y0 < 0)=false:=decide_eq_false hv0
    exact Q36
  ·have hltz:¬ (i:Int) < (j:Int):=by omega
   obtain rfl:j=i:=by omega
   have hres:j=res:=Q1b
   subst hres
   clear HB hlt
   go_wp2_with fail
   have S3:Aside _:=S1.out
   go_loopg [13] (j - 1 - a) (fun g2 vk wr2=>∃ k:Nat,vk=↑k∧a≤k∧k≤j - 1∧j - 1 - k≤g2∧Aside (SW enc w0 blk off (Stab.ups (Stab.arrO α) a d (k - a)) wr2))
   case atStart=>exact ⟨a,by go_num,om_,om_,om_,by rw [Nat.sub_self];exact S1⟩
   case round =>
    clear S1 S3
    obtain ⟨k,rfl,hk1,hk2,hg2,S1⟩:=hrel
    by_cases hlt:k < j - 1
    ·have hltz:(k:Int) < (j:Int) - 1:=by omega
     have hsk:(Stab.ups (Stab.arrO α) a d (k - a)).size=L:=by rw [Stab.ups_size];exact hs
     have HST:Hid (Stab.ups (Stab.arrO α) a d (k+1 - a)=swp (Stab.ups (Stab.arrO α) a d (k - a)) k (k+1)):=by
      show _=_;rw [show k+1 - a=(k - a)+1 by omega,Stab.ups];show swp _ _ _=_;rw [show a+(k - a)=k by omega]
     generalize Stab.ups (Stab.arrO α) a d (k - a)=dk at S1 hsk HST
     go_wp2_with fail
     have pi1:(0:Int)≤(k:Int):=by omega
     have bi1:(k:Int) < (L:Int):=by omega
     have ri1:IntKind.i64.wrap (k:Int)=(k:Int):=by rw [IntKind.wrap_i64];omega
     obtain ⟨j1N,hj1N⟩:∃ q,q=k+1:=⟨_,rfl⟩
     have ej1:((k:Int)+1).toNat=j1N:=by omega
     have pj1:(0:Int)≤(k:Int)+1:=by omega
     have bj1:(k:Int)+1 < (L:Int):=by omega
     have rj1:IntKind.i64.wrap ((k:Int)+1)=(k:Int)+1:=by rw [IntKind.wrap_i64];omega
     obtain ⟨x1,hx1⟩:∃ x,x=dk[k]!:=⟨_,rfl⟩
     obtain ⟨y1,hy1⟩:∃ x,x=dk[k+1]!:=⟨_,rfl⟩
     have S3:Aside (SW enc w0 blk off (swp dk (k) (k+1)) ((wr.setCell ⟨blk,off+k,none⟩ (enc y1)).setCell ⟨blk,off+j1N,none⟩ (enc x1)).drew):=by rw [hj1N,hx1,hy1];exact S1.out.swapped R (k) (k+1) om_ om_
     have ca1:=S1.out.c1 R om_ (k) om_
     have cb1:=S1.out.c1 R om_ (k+1) om_
     have fa1:=S1.out.f1 R om_ (k) om_
     have fb1:=S1.out.f1 R om_ (k+1) om_
     obtain ⟨u1,cc1⟩:=S1.out.c2 R om_ (k) (k+1) om_ om_ (enc y1)
     rw [← hx1] at ca1
     rw [← hy1] at cb1
     rw [← hj1N] at cc1 cb1 fb1
     clear S1 hx1 hy1 hj1N
     go_wp2_with fail
     go_big_region_o
     clear ca1 cb1 cc1 fa1 fb1
     generalize ((wr.setCell ⟨blk,off+k,none⟩ (enc y1)).setCell ⟨blk,off+j1N,none⟩ (enc x1)).drew=w3 at S3 ⊢
     clear ej1
     go_wp2
     go_roundg (j - 1 - (k+1))
     case measure=>omega
     case rel=>exact ⟨k+1,by go_num,om_,om_,Nat.le_refl _,by rw [HST.out];exact S3⟩
    ·have hltz:¬ (k:Int) < (j:Int) - 1:=by omega
     obtain rfl:k=j - 1:=by omega
     go_wp2
     go_end0
     exact ⟨rfl,by rw [HSH.out];exact S1.out⟩
theorem _root_.Q3o {p:Prop}(h:p:=by
 have lb0:=S1.out.cl R om_ (h) om_
 rw [← hx0] at la0
 rw [← hy0] at lb0
 have hc0:=S1.out.cmp HC.out om_ x0 y0
 have hv0:¬ cf x0 y0 < 0:=by rw [hx0,hy0];exact of_decide_eq_false hlv.out
 have hd0:decide (cf x0 y0 < 0)=false:=decide_eq_false hv0
 exact Q35):p:=h
theorem _root_.Q3p {p:Prop}(h:p:=by
 have lb0:=S1.out.cl R om_ (h) om_
 rw [← hx0] at la0
 rw [← hy0] at lb0
 have hc0:=S1.out.cmp HC.out om_ x0 y0
 have hv0:cf x0 y0 < 0:=by rw [hx0,hy0];exact of_decide_eq_true hlv.out
 have hd0:decide (cf x0 y0 < 0)=true:=decide_eq_true hv0
 exact Q36):p:=h
theorem sym_two (enc:α→Value) (cf:α→α→Int) (g:Nat) (cb:Array Value) (blk off cap L:Nat) (d0 d:Array α) (w0 w:World)
  (eg:∀ args w,(callFunc g args).run prog w=.ok (.enter g args) w) (hcmp:CmpLays1 prog g cb enc cf blk off d0.size w0) (R:Row1 enc w0 blk off d0) (h0:d0.size=L) (hs:d.size=L) (hL:L≤256) (S:SW enc w0 blk off d w) (a m b:Nat) (ham:a+1 < m) (hmb:b=m+1) (hb:b≤L) :
  Calls prog 328 #[.slice (some ⟨blk,off,none⟩) L cap,a,m,b,.func (.func g) #[] cb] w (Zkj enc w0 blk off (Stab.dns (Stab.arrO α) m d (m - Stab.sLo (Stab.arrO α) (ltOf cf) a m b d))):=by
 have mixed:prog.follows Departure.mixedOrders=true:=by kernel_rfl
 have hcl0:=R.hO.cells
 simp only [Value.cells] at hcl0
 have hst:=R.hO.store prog
 have HC:Aside _:=hcmp
 have S0:Aside (SW enc w0 blk off d w):=S
 clear S
 clear hcmp
 obtain ⟨pp,hpp⟩:∃ pp:Nat→Bool,pp=fun h=>!ltOf cf d[m]! d[h]!:=⟨_,rfl⟩
 have HPP:Hid (∀ h,pp h = !ltOf cf d[m]! d[h]!):=by intro h;rw [hpp]
 have hbd:=Stab.bs_bd pp (m - a) a m om_
 obtain ⟨res,hres⟩:∃ r,r=Stab.bs pp (m - a) a m:=⟨_,rfl⟩
 have HSH:Hid (Stab.sLo (Stab.arrO α) (ltOf cf) a m b d=res):=by show _=_;rw [hres,hpp];rfl
 have HRES:Hid (Stab.bs pp (m - a) a m=res):=hres.symm
 rw [← hres] at hbd
 clear hpp hres
 have h1:((m:Int) - (a:Int) == 1)=false:=by simp;omega
 have h2:((b:Int) - (m:Int) == 1)=true:=by simp;omega
 have HMB:=hd_ hmb
 have hmb1:m+1≤b:=by omega
 have hmb2:b≤m+1:=by omega
 clear hmb
 go_enter func328,ntmps328
 go_wp2
 go_loopg [14,15] (m - a) (fun g1 vi vj wr=>∃ (i j:Nat),vi=↑i∧vj=↑j∧a≤i∧i≤j∧j≤m∧j - i≤g1∧Aside (SW enc w0 blk off d wr)∧Hid (Stab.bs pp g1 i j=res))
 case atStart=>exact ⟨a,m,by go_num,by go_num,om_,om_,om_,om_,S0,HRES⟩
 case round =>
  clear S0
  obtain ⟨i,j,rfl,rfl,hi1,hi2,hi3,hg1,S1,HB⟩:=hrel
  by_cases hlt:i < j
  ·obtain ⟨f1,rfl⟩:∃ f1,gk=f1+1:=⟨gk - 1,om_⟩
   have hltz:(i:Int) < (j:Int):=by omega
   obtain ⟨h,hh⟩:∃ h,h=(i+j) / 2:=⟨_,rfl⟩
   have hhz:((i:Int)+(j:Int)) / 2=(h:Int):=by omega
   have hhl:i≤h:=by omega
   have hhr:h < j:=by omega
   have HB2:Hid ((if pp h=true then Stab.bs pp f1 (h+1) j else Stab.bs pp f1 i h)=res):=by
    show _=_;have:=HB.out;rwa [Stab.bs,if_pos hlt,← hh] at this
   clear HB hh
   cases hl0:ltOf cf d[m]! d[h]! with
   | true =>
    have hlv:=hd_ hl0
    have HP:pp h=false:=by rw [HPP.out];simp [hl0]
    have HB3:Hid (Stab.bs pp f1 i h=res):=by show _=_;have:=HB2.out;rwa [if_neg (by rw [HP];simp)] at this
    clear hl0 HP HB2
    go_wp2_with fail
    have pi0:(0:Int)≤(m:Int):=by omega
    have bi0:(m:Int) < (L:Int):=by omega
    have ri0:IntKind.i64.wrap (m:Int)=(m:Int):=by rw [IntKind.wrap_i64];omega
    have pj0:(0:Int)≤(h:Int):=by omega
    have bj0:(h:Int) < (L:Int):=by omega
    have rj0:IntKind.i64.wrap (h:Int)=(h:Int):=by rw [IntKind.wrap_i64];omega
    obtain ⟨x0,hx0⟩:∃ x,x=d[m]!:=⟨_,rfl⟩
    obtain ⟨y0,hy0⟩:∃ x,x=d[h]!:=⟨_,rfl⟩
    have la0:=S1.out.cl R om_ (m) om_
    exact Q3p
   | false =>
    have hlv:=hd_ hl0
    have HP:pp h=true:=by rw [HPP.out];simp [hl0]
    have HB3:Hid (Stab.bs pp f1 (h+1) j=res):=by show _=_;have:=HB2.out;rwa [if_pos HP] at this
    clear hl0 HP HB2
    go_wp2_with fail
    have pi0:(0:Int)≤(m:Int):=by omega
    have bi0:(m:Int) < (L:Int):=by omega
    have ri0:IntKind.i64.wrap (m:Int)=(m:Int):=by rw [IntKind.wrap_i64];omega
    have pj0:(0:Int)≤(h:Int):=by omega
    have bj0:(h:Int) < (L:Int):=by omega
    have rj0:IntKind.i64.wrap (h:Int)=(h:Int):=by rw [IntKind.wrap_i64];omega
    obtain ⟨x0,hx0⟩:∃ x,x=d[m]!:=⟨_,rfl⟩
    obtain ⟨y0,hy0⟩:∃ x,x=d[h]!:=⟨_,rfl⟩
    have la0:=S1.out.cl R om_ (m) om_
    exact Q3o
  ·have hltz:¬ (i:Int) < (j:Int):=by omega
   obtain rfl:j=i:=by omega
   have hres:j=res:=Q1b
   subst hres
   clear HB hlt
   go_wp2_with fail
   have S3:Aside _:=S1.out
   go_loopg [17] (m - j) (fun g2 vk wr2=>∃ k:Nat,vk=↑k∧j≤k∧k≤m∧k - j≤g2∧Aside (SW enc w0 blk off (Stab.dns (Stab.arrO α) m d (m - k)) wr2))
   case atStart=>exact ⟨m,by go_num,om_,om_,om_,by rw [Nat.sub_self];exact S1⟩
   case round =>
    clear S1 S3
    obtain ⟨k,rfl,hk1,hk2,hg2,S1⟩:=hrel
    by_cases hlt:j < k
    ·obtain ⟨kp,rfl⟩:∃ q,k=q+1:=⟨k - 1,om_⟩
     have hltz:(j:Int) < (kp:Int)+1:=by omega
     have hsk:(Stab.dns (Stab.arrO α) m d (m - (kp+1))).size=L:=by rw [Stab.dns_size];exact hs
     have HST:Hid (Stab.dns (Stab.arrO α) m d (m - kp)=swp (Stab.dns (Stab.arrO α) m d (m - (kp+1))) (kp+1) kp):=by
      show _=_;rw [show m - kp=(m - (kp+1))+1 by omega,Stab.dns];show swp _ _ _=_;rw [show m - (m - (kp+1))=kp+1 by omega,Nat.add_sub_cancel]
     generalize Stab.dns (Stab.arrO α) m d (m - (kp+1))=dk at S1 hsk HST
     go_wp2_with fail
     obtain ⟨i1N,hi1N⟩:∃ q,q=kp+1:=⟨_,rfl⟩
     have ei1:((kp:Int)+1).toNat=i1N:=by omega
     have pi1:(0:Int)≤(kp:Int)+1:=by omega
     have bi1:(kp:Int)+1 < (L:Int):=by omega
     have ri1:IntKind.i64.wrap ((kp:Int)+1)=(kp:Int)+1:=by rw [IntKind.wrap_i64];omega
     have pj1:(0:Int)≤(kp:Int):=by omega
     have bj1:(kp:Int) < (L:Int):=by omega
     have rj1:IntKind.i64.wrap (kp:Int)=(kp:Int):=by rw [IntKind.wrap_i64];omega
     obtain ⟨x1,hx1⟩:∃ x,x=dk[kp+1]!:=⟨_,rfl⟩
     obtain ⟨y1,hy1⟩:∃ x,x=dk[kp]!:=⟨_,rfl⟩
     have S3:Aside (SW enc w0 blk off (swp dk (kp+1) (kp)) ((wr.setCell ⟨blk,off+i1N,none⟩ (enc y1)).setCell ⟨blk,off+kp,none⟩ (enc x1)).drew):=by rw [hi1N,hx1,hy1];exact S1.out.swapped R (kp+1) (kp) om_ om_
     have ca1:=S1.out.c1 R om_ (kp+1) om_
     have cb1:=S1.out.c1 R om_ (kp) om_
     have fa1:=S1.out.f1 R om_ (kp+1) om_
     have fb1:=S1.out.f1 R om_ (kp) om_
     obtain ⟨u1,cc1⟩:=S1.out.c2 R om_ (kp+1) (kp) om_ om_ (enc y1)
     rw [← hx1] at ca1
     rw [← hy1] at cb1
     rw [← hi1N] at cc1 ca1 fa1
     clear S1 hx1 hy1 hi1N
     go_wp2_with fail
     go_big_region_o
     clear ca1 cb1 cc1 fa1 fb1
     generalize ((wr.setCell ⟨blk,off+i1N,none⟩ (enc y1)).setCell ⟨blk,off+kp,none⟩ (enc x1)).drew=w3 at S3 ⊢
     clear ei1
     go_wp2
     go_roundg (kp - j)
     case measure=>omega
     case rel=>exact ⟨kp,by go_num,om_,om_,Nat.le_refl _,by rw [HST.out];exact S3⟩
    ·have hltz:¬ (j:Int) < (k:Int):=by omega
     obtain rfl:k=j:=by omega
     go_wp2
     go_end0
     exact ⟨rfl,by rw [HSH.out];exact S1.out⟩
variable {α:Type} [Inhabited α]
def Zqa (enc:α→Value) (cf:α→α→Int) (g:Nat) (cb:Array Value) (blk off cap L:Nat) (w0:World) (f:Nat):Prop :=
 ∀ (d:Array α) (w:World),d.size=L→SW enc w0 blk off d w→∀ (xi yi zi:Int) (a m b:Nat),xi=a→yi=m→zi=b→b - a≤f→a < m→m < b→b≤L →
  Calls prog 328 #[.slice (some ⟨blk,off,none⟩) L cap,xi,yi,zi,.func (.func g) #[] cb] w (Zkj enc w0 blk off (Stab.sym (Stab.arrO α) (ltOf cf) f a m b d))
theorem _root_.Q3e {p:Prop}(h:p:=by
 refine (SY.out T _ hTs2 S2.out _ _ _ mid en b om_ om_ om_ om_ om_ om_ om_).mono ?_
 rintro e w4 ⟨rfl,S4⟩
 have S4:=(show Aside _ from S4)
 go_wp2_with fail
 go_end0
 exact ⟨rfl,by rw [HEE2.out,if_pos ⟨om_,om_⟩,if_neg om_];exact S4.out⟩):p:=h
theorem _root_.Q3f {p:Prop}(h:p:=by
 refine (SY.out T _ hTs2 S2.out _ _ _ a j mid om_ om_ om_ om_ om_ om_ om_).mono ?_
 rintro e w3 ⟨rfl,S3⟩
 have S3:=(show Aside _ from S3)
 go_wp2_with fail
 go_end0
 exact ⟨rfl,by rw [HEE2.out,if_neg om_,if_pos ⟨om_,om_⟩];exact S3.out⟩):p:=h
theorem _root_.Q0 {p:Prop}(h:p:=by
 by_cases hB1:a < j
 ·by_cases hC2:en < b
  ·have hTs2:T.size=L:=by rw [hTs];exact hs
   clear hTs
   have hTT:T=Stab.rotate (Stab.arrO α) j m en d:=by rw [HT2,if_pos ⟨om_,om_⟩]
   clear HT2
   have HTT:=hd_ hTT
   clear hTT
   have za1:(j:Int) < (m:Int):=by omega
   have za1b:(mid:Int) < (en:Int):=by omega
   have za2:(j:Int) < (mid:Int):=by omega
   have za2b:(m:Int) < (en:Int):=by omega
   have zb1:(a:Int) < (j:Int):=by omega
   have zc2:(en:Int) < (b:Int):=by omega
   go_wp2_with fail
   refine (RT.out d _ hs S1.out _ _ _ j m en om_ om_ om_ om_ om_ om_).mono ?_
   rintro e w2 ⟨rfl,S2⟩
   rw [← HTT.out] at S2
   have S2:=(show Aside _ from S2)
   go_wp2_with fail
   refine (SY.out T _ hTs2 S2.out _ _ _ a j mid om_ om_ om_ om_ om_ om_ om_).mono ?_
   rintro e w3 ⟨rfl,S3⟩
   have S3:=(show Aside _ from S3)
   go_wp2_with fail
   refine (SY.out (Stab.sym (Stab.arrO α) (ltOf cf) f a j mid T) _ (by rw [Stab.sym_size];exact hTs2) S3.out _ _ _ mid en b om_ om_ om_ om_ om_ om_ om_).mono ?_
   rintro e w4 ⟨rfl,S4⟩
   have S4:=(show Aside _ from S4)
   go_wp2_with fail
   go_end0
   exact ⟨rfl,by rw [HEE2.out,if_pos ⟨om_,om_⟩,if_pos ⟨om_,om_⟩];exact S4.out⟩
  ·have hTs2:T.size=L:=by rw [hTs];exact hs
   clear hTs
   have hTT:T=Stab.rotate (Stab.arrO α) j m en d:=by rw [HT2,if_pos ⟨om_,om_⟩]
   clear HT2
   have HTT:=hd_ hTT
   clear hTT
   have za1:(j:Int) < (m:Int):=by omega
   have za1b:(mid:Int) < (en:Int):=by omega
   have za2:(j:Int) < (mid:Int):=by omega
   have za2b:(m:Int) < (en:Int):=by omega
   have zb1:(a:Int) < (j:Int):=by omega
   have zc2:¬ (en:Int) < (b:Int):=by omega
   go_wp2_with fail
   refine (RT.out d _ hs S1.out _ _ _ j m en om_ om_ om_ om_ om_ om_).mono ?_
   rintro e w2 ⟨rfl,S2⟩
   rw [← HTT.out] at S2
   have S2:=(show Aside _ from S2)
   go_wp2_with fail
   exact Q3f
 ·by_cases hC2:en < b
  ·have hTs2:T.size=L:=by rw [hTs];exact hs
   clear hTs
   have hTT:T=Stab.rotate (Stab.arrO α) j m en d:=by rw [HT2,if_pos ⟨om_,om_⟩]
   clear HT2
   have HTT:=hd_ hTT
   clear hTT
   have za1:(j:Int) < (m:Int):=by omega
   have za1b:(mid:Int) < (en:Int):=by omega
   have za2:(j:Int) < (mid:Int):=by omega
   have za2b:(m:Int) < (en:Int):=by omega
   have zb1:¬ (a:Int) < (j:Int):=by omega
   have zc2:(en:Int) < (b:Int):=by omega
   go_wp2_with fail
   refine (RT.out d _ hs S1.out _ _ _ j m en om_ om_ om_ om_ om_ om_).mono ?_
   rintro e w2 ⟨rfl,S2⟩
   rw [← HTT.out] at S2
   have S2:=(show Aside _ from S2)
   go_wp2_with fail
   exact Q3e
  ·have hTs2:T.size=L:=by rw [hTs];exact hs
   clear hTs
   have hTT:T=Stab.rotate (Stab.arrO α) j m en d:=by rw [HT2,if_pos ⟨om_,om_⟩]
   clear HT2
   have HTT:=hd_ hTT
   clear hTT
   have za1:(j:Int) < (m:Int):=by omega
   have za1b:(mid:Int) < (en:Int):=by omega
   have za2:(j:Int) < (mid:Int):=by omega
   have za2b:(m:Int) < (en:Int):=by omega
   have zb1:¬ (a:Int) < (j:Int):=by omega
   have zc2:¬ (en:Int) < (b:Int):=by omega
   go_wp2_with fail
   refine (RT.out d _ hs S1.out _ _ _ j m en om_ om_ om_ om_ om_ om_).mono ?_
   rintro e w2 ⟨rfl,S2⟩
   rw [← HTT.out] at S2
   have S2:=(show Aside _ from S2)
   go_wp2_with fail
   go_end0
   exact ⟨rfl,by rw [HEE2.out,if_neg om_,if_neg om_];exact S2.out⟩):p:=h
theorem _root_.Q2 {p:Prop}(h:p:=by
 obtain ⟨f1,rfl⟩:∃ f1,gk=f1+1:=⟨gk - 1,om_⟩
 have hltz:(i:Int) < (j:Int):=by omega
 obtain ⟨h,hh⟩:∃ h,h=(i+j) / 2:=⟨_,rfl⟩
 have hhz:((i:Int)+(j:Int)) / 2=(h:Int):=by omega
 have hhl:i≤h:=by omega
 have hhr:h < j:=by omega
 have HB2:Hid ((if pp h=true then Stab.bs pp f1 (h+1) j else Stab.bs pp f1 i h)=res):=by
  show _=_;have:=HB.out;rwa [Stab.bs,if_pos hlt,← hh] at this
 clear HB hh
 obtain ⟨q,hq⟩:∃ q,q=mid+m - 1 - h:=⟨_,rfl⟩
 have hqz:(mid:Int)+(m:Int) - 1 - (h:Int)=(q:Int):=by omega
 have hqL:q < L:=by omega
 cases hl0:ltOf cf d[q]! d[h]! with
 | true =>
  have hlv:=hd_ hl0
  have HP:pp h=false:=by rw [HPP.out,← hq];simp [hl0]
  have HB3:Hid (Stab.bs pp f1 i h=res):=by show _=_;have:=HB2.out;rwa [if_neg (by rw [HP];simp)] at this
  clear hl0 HP HB2 hq
  go_wp2_with fail
  have pi0:(0:Int)≤(q:Int):=by omega
  have bi0:(q:Int) < (L:Int):=by omega
  have ri0:IntKind.i64.wrap (q:Int)=(q:Int):=by rw [IntKind.wrap_i64];omega
  have pj0:(0:Int)≤(h:Int):=by omega
  have bj0:(h:Int) < (L:Int):=by omega
  have rj0:IntKind.i64.wrap (h:Int)=(h:Int):=by rw [IntKind.wrap_i64];omega
  obtain ⟨x0,hx0⟩:∃ x,x=d[q]!:=⟨_,rfl⟩
  obtain ⟨y0,hy0⟩:∃ x,x=d[h]!:=⟨_,rfl⟩
  have la0:=S1.out.cl R om_ (q) om_
  exact Q3p
 | false =>
  have hlv:=hd_ hl0
  have HP:pp h=true:=by rw [HPP.out,← hq];simp [hl0]
  have HB3:Hid (Stab.bs pp f1 (h+1) j=res):=by show _=_;have:=HB2.out;rwa [if_pos HP] at this
  clear hl0 HP HB2 hq
  go_wp2_with fail
  have pi0:(0:Int)≤(q:Int):=by omega
  have bi0:(q:Int) < (L:Int):=by omega
  have ri0:IntKind.i64.wrap (q:Int)=(q:Int):=by rw [IntKind.wrap_i64];omega
  have pj0:(0:Int)≤(h:Int):=by omega
  have bj0:(h:Int) < (L:Int):=by omega
  have rj0:IntKind.i64.wrap (h:Int)=(h:Int):=by rw [IntKind.wrap_i64];omega
  obtain ⟨x0,hx0⟩:∃ x,x=d[q]!:=⟨_,rfl⟩
  obtain ⟨y0,hy0⟩:∃ x,x=d[h]!:=⟨_,rfl⟩
  have la0:=S1.out.cl R om_ (q) om_
  exact Q3o):p:=h
theorem _root_.Q20 {p:Prop}(h:p:=by
 intro dk W hk S xi yi zi x y z hx hy hz h1 h2 h3
 subst hx;subst hy;subst hz
 exact Zsf enc cf g cb blk off cap L d0 dk w0 W eg HC.out R h0 hk hL S x y z h1 h2 h3):p:=h
theorem sym_gt (enc:α→Value) (cf:α→α→Int) (g:Nat) (cb:Array Value) (blk off cap L:Nat) (d0 d:Array α) (w0 w:World)
  (eg:∀ args w,(callFunc g args).run prog w=.ok (.enter g args) w) (hcmp:CmpLays1 prog g cb enc cf blk off d0.size w0) (R:Row1 enc w0 blk off d0) (h0:d0.size=L) (hs:d.size=L) (hL:L≤256) (S:SW enc w0 blk off d w) (f a m b:Nat) (ham:a+1 < m) (hmb:m+1 < b) (hb:b≤L) (hf:b - a≤f+1) (HREC:Zqa enc cf g cb blk off cap L w0 f) (hmm:(a+b) / 2 < m) :
  Calls prog 328 #[.slice (some ⟨blk,off,none⟩) L cap,a,m,b,.func (.func g) #[] cb] w (Zkj enc w0 blk off (Stab.sym (Stab.arrO α) (ltOf cf) (f+1) a m b d)):=by
 have mixed:prog.follows Departure.mixedOrders=true:=by kernel_rfl
 have hcl0:=R.hO.cells
 simp only [Value.cells] at hcl0
 have hst:=R.hO.store prog
 have HC:Aside _:=hcmp
 have S0:Aside (SW enc w0 blk off d w):=S
 clear S
 clear hcmp
 have RT:Hid (∀ (dk:Array α) W,dk.size=L→SW enc w0 blk off dk W→∀ (xi yi zi:Int) (x y z:Nat),xi=x→yi=y→zi=z→x < y→y < z→z≤L→Calls prog 334 #[.slice (some ⟨blk,off,none⟩) L cap,xi,yi,zi,.func (.func g) #[] cb] W fun e w'=>e=.returned (.tuple #[])∧SW enc w0 blk off (Stab.rotate (Stab.arrO α) x y z dk) w'):=Q20
 have SY:Hid (Zqa enc cf g cb blk off cap L w0 f):=HREC
 clear HREC
 have HE:Stab.sym (Stab.arrO α) (ltOf cf) (f+1) a m b d=if (a+b) / 2 < (a+b) / 2+m - Stab.st (Stab.arrO α) (ltOf cf) a m b d∧(a+b) / 2+m - Stab.st (Stab.arrO α) (ltOf cf) a m b d < b then
   Stab.sym (Stab.arrO α) (ltOf cf) f ((a+b) / 2) ((a+b) / 2+m - Stab.st (Stab.arrO α) (ltOf cf) a m b d) b (if a < Stab.st (Stab.arrO α) (ltOf cf) a m b d∧Stab.st (Stab.arrO α) (ltOf cf) a m b d < (a+b) / 2 then Stab.sym (Stab.arrO α) (ltOf cf) f a (Stab.st (Stab.arrO α) (ltOf cf) a m b d) ((a+b) / 2) (Stab.tn (Stab.arrO α) (ltOf cf) a m b d) else Stab.tn (Stab.arrO α) (ltOf cf) a m b d)
  else (if a < Stab.st (Stab.arrO α) (ltOf cf) a m b d∧Stab.st (Stab.arrO α) (ltOf cf) a m b d < (a+b) / 2 then Stab.sym (Stab.arrO α) (ltOf cf) f a (Stab.st (Stab.arrO α) (ltOf cf) a m b d) ((a+b) / 2) (Stab.tn (Stab.arrO α) (ltOf cf) a m b d) else Stab.tn (Stab.arrO α) (ltOf cf) a m b d):=by
  rw [Stab.sym,if_neg om_,if_neg om_]
 have hT:Stab.tn (Stab.arrO α) (ltOf cf) a m b d=if Stab.st (Stab.arrO α) (ltOf cf) a m b d < m∧m < (a+b) / 2+m - Stab.st (Stab.arrO α) (ltOf cf) a m b d then Stab.rotate (Stab.arrO α) (Stab.st (Stab.arrO α) (ltOf cf) a m b d) m ((a+b) / 2+m - Stab.st (Stab.arrO α) (ltOf cf) a m b d) d else d:=rfl
 have hTs:=Stab.tn_size (ltOf cf) a m b d
 have hst1:Stab.s0 a m b=(a+b) / 2+m - b:=by unfold Stab.s0;rw [if_pos hmm]
 have hst2:Stab.r0 a m b=(a+b) / 2:=by unfold Stab.r0;rw [if_pos hmm]
 obtain ⟨pp,hpp⟩:∃ pp:Nat→Bool,pp=fun c=>!ltOf cf d[(a+b) / 2+m - 1 - c]! d[c]!:=⟨_,rfl⟩
 obtain ⟨lo,hlo⟩:∃ lo,lo=Stab.s0 a m b:=⟨_,rfl⟩
 obtain ⟨hi,hhi⟩:∃ hi,hi=Stab.r0 a m b:=⟨_,rfl⟩
 have hst0:Stab.st (Stab.arrO α) (ltOf cf) a m b d=Stab.bs pp (hi - lo) lo hi:=by
  rw [hlo,hhi,hpp];rfl
 rw [hst1] at hlo
 rw [hst2] at hhi
 have hpp2:∀ c,pp c = !ltOf cf d[(a+b) / 2+m - 1 - c]! d[c]!:=by intro c;rw [hpp]
 clear hpp hst1 hst2
 obtain ⟨mid,hmid⟩:∃ mid,mid=(a+b) / 2:=⟨_,rfl⟩
 rw [← hmid] at HE hT hmm hlo hhi
 simp only [← hmid] at hpp2
 have HPP:=hd_ hpp2
 clear hpp2
 have hm1:2 * mid≤a+b:=by omega
 have hm2:a+b≤2 * mid+1:=by omega
 have hmidz:((a:Int)+(b:Int)) / 2=(mid:Int):=by omega
 clear hmid
 have hlo1:mid+m≤lo+b:=by omega
 have hlo2:lo+b≤mid+m:=by omega
 clear hlo
 have hhi1:mid≤hi:=by omega
 have hhi2:hi≤mid:=by omega
 clear hhi
 have hbd:=Stab.bs_bd pp (hi - lo) lo hi om_
 rw [← hst0] at hbd
 obtain ⟨res,hres⟩:∃ r,r=Stab.st (Stab.arrO α) (ltOf cf) a m b d:=⟨_,rfl⟩
 rw [← hres] at HE hT hst0 hbd
 have HRES:Hid (Stab.bs pp (hi - lo) lo hi=res):=hst0.symm
 clear hst0 hres
 generalize Stab.tn (Stab.arrO α) (ltOf cf) a m b d=T at HE hT hTs
 have HT:=hd_ hT
 have HEE:=hd_ HE
 clear hT HE
 have h1:((m:Int) - (a:Int) == 1)=false:=by simp;omega
 have h2:((b:Int) - (m:Int) == 1)=false:=by simp;omega
 have hmmz:(mid:Int) < (m:Int):=by omega
 go_enter func328,ntmps328
 go_wp2
 go_loopg [20,21] (hi - lo) (fun g1 vi vj wr=>∃ (i j:Nat),vi=↑i∧vj=↑j∧lo≤i∧i≤j∧j≤hi∧j - i≤g1∧Aside (SW enc w0 blk off d wr)∧Hid (Stab.bs pp g1 i j=res))
 case atStart=>exact ⟨lo,hi,by first|go_num|(congr 1;omega),by first|go_num|(congr 1;omega),om_,om_,om_,om_,S0,HRES⟩
 case round =>
  clear S0
  obtain ⟨i,j,rfl,rfl,hi1,hi2,hi3,hg1,S1,HB⟩:=hrel
  by_cases hlt:i < j
  ·exact Q2
  ·have hltz:¬ (i:Int) < (j:Int):=by omega
   obtain rfl:j=i:=by omega
   have hres:j=res:=Q1b
   subst hres
   clear HB hlt
   clear hm1 hm2 HRES HPP
   obtain ⟨en,hen⟩:∃ en,en=mid+m - j:=⟨_,rfl⟩
   have henz:(mid:Int)+(m:Int) - (j:Int)=(en:Int):=by omega
   have hen1:en+j≤mid+m:=by omega
   have hen2:mid+m≤en+j:=by omega
   have HE2:=HEE.out
   have HT2:=HT.out
   rw [← hen] at HE2 HT2
   have HEE2:=hd_ HE2
   clear HEE HT HE2 hen
   by_cases hA1:j < m
   ·by_cases hA2:j < mid
    ·exact Q0
    ·by_cases hC2:en < b
     ·have hTs2:T.size=L:=by rw [hTs];exact hs
      clear hTs
      have hTT:T=d:=by rw [HT2,if_neg om_]
      clear HT2
      have HTT:=hd_ hTT
      clear hTT
      have za1:(j:Int) < (m:Int):=by omega
      have za1b:(mid:Int) < (en:Int):=by omega
      have za2:¬ (j:Int) < (mid:Int):=by omega
      have za2b:¬ (m:Int) < (en:Int):=by omega
      have zc2:(en:Int) < (b:Int):=by omega
      go_wp2_with fail
      have S2:Aside (SW enc w0 blk off T wr):=(show SW enc w0 blk off T wr by rw [HTT.out];exact S1.out)
      exact Q3e
     ·exfalso;omega
   ·exfalso;omega
variable {α:Type} [Inhabited α]
theorem sym_le (enc:α→Value) (cf:α→α→Int) (g:Nat) (cb:Array Value) (blk off cap L:Nat) (d0 d:Array α) (w0 w:World)
  (eg:∀ args w,(callFunc g args).run prog w=.ok (.enter g args) w) (hcmp:CmpLays1 prog g cb enc cf blk off d0.size w0) (R:Row1 enc w0 blk off d0) (h0:d0.size=L) (hs:d.size=L) (hL:L≤256) (S:SW enc w0 blk off d w) (f a m b:Nat) (ham:a+1 < m) (hmb:m+1 < b) (hb:b≤L) (hf:b - a≤f+1) (HREC:Zqa enc cf g cb blk off cap L w0 f) (hmm:¬ (a+b) / 2 < m) :
  Calls prog 328 #[.slice (some ⟨blk,off,none⟩) L cap,a,m,b,.func (.func g) #[] cb] w (Zkj enc w0 blk off (Stab.sym (Stab.arrO α) (ltOf cf) (f+1) a m b d)):=by
 have mixed:prog.follows Departure.mixedOrders=true:=by kernel_rfl
 have hcl0:=R.hO.cells
 simp only [Value.cells] at hcl0
 have hst:=R.hO.store prog
 have HC:Aside _:=hcmp
 have S0:Aside (SW enc w0 blk off d w):=S
 clear S
 clear hcmp
 have RT:Hid (∀ (dk:Array α) W,dk.size=L→SW enc w0 blk off dk W→∀ (xi yi zi:Int) (x y z:Nat),xi=x→yi=y→zi=z→x < y→y < z→z≤L→Calls prog 334 #[.slice (some ⟨blk,off,none⟩) L cap,xi,yi,zi,.func (.func g) #[] cb] W fun e w'=>e=.returned (.tuple #[])∧SW enc w0 blk off (Stab.rotate (Stab.arrO α) x y z dk) w'):=Q20
 have SY:Hid (Zqa enc cf g cb blk off cap L w0 f):=HREC
 clear HREC
 have HE:Stab.sym (Stab.arrO α) (ltOf cf) (f+1) a m b d=if (a+b) / 2 < (a+b) / 2+m - Stab.st (Stab.arrO α) (ltOf cf) a m b d∧(a+b) / 2+m - Stab.st (Stab.arrO α) (ltOf cf) a m b d < b then
   Stab.sym (Stab.arrO α) (ltOf cf) f ((a+b) / 2) ((a+b) / 2+m - Stab.st (Stab.arrO α) (ltOf cf) a m b d) b (if a < Stab.st (Stab.arrO α) (ltOf cf) a m b d∧Stab.st (Stab.arrO α) (ltOf cf) a m b d < (a+b) / 2 then Stab.sym (Stab.arrO α) (ltOf cf) f a (Stab.st (Stab.arrO α) (ltOf cf) a m b d) ((a+b) / 2) (Stab.tn (Stab.arrO α) (ltOf cf) a m b d) else Stab.tn (Stab.arrO α) (ltOf cf) a m b d)
  else (if a < Stab.st (Stab.arrO α) (ltOf cf) a m b d∧Stab.st (Stab.arrO α) (ltOf cf) a m b d < (a+b) / 2 then Stab.sym (Stab.arrO α) (ltOf cf) f a (Stab.st (Stab.arrO α) (ltOf cf) a m b d) ((a+b) / 2) (Stab.tn (Stab.arrO α) (ltOf cf) a m b d) else Stab.tn (Stab.arrO α) (ltOf cf) a m b d):=by
  rw [Stab.sym,if_neg om_,if_neg om_]
 have hT:Stab.tn (Stab.arrO α) (ltOf cf) a m b d=if Stab.st (Stab.arrO α) (ltOf cf) a m b d < m∧m < (a+b) / 2+m - Stab.st (Stab.arrO α) (ltOf cf) a m b d then Stab.rotate (Stab.arrO α) (Stab.st (Stab.arrO α) (ltOf cf) a m b d) m ((a+b) / 2+m - Stab.st (Stab.arrO α) (ltOf cf) a m b d) d else d:=rfl
 have hTs:=Stab.tn_size (ltOf cf) a m b d
 have hst1:Stab.s0 a m b=a:=by unfold Stab.s0;rw [if_neg hmm]
 have hst2:Stab.r0 a m b=m:=by unfold Stab.r0;rw [if_neg hmm]
 obtain ⟨pp,hpp⟩:∃ pp:Nat→Bool,pp=fun c=>!ltOf cf d[(a+b) / 2+m - 1 - c]! d[c]!:=⟨_,rfl⟩
 obtain ⟨lo,hlo⟩:∃ lo,lo=Stab.s0 a m b:=⟨_,rfl⟩
 obtain ⟨hi,hhi⟩:∃ hi,hi=Stab.r0 a m b:=⟨_,rfl⟩
 have hst0:Stab.st (Stab.arrO α) (ltOf cf) a m b d=Stab.bs pp (hi - lo) lo hi:=by
  rw [hlo,hhi,hpp];rfl
 rw [hst1] at hlo
 rw [hst2] at hhi
 have hpp2:∀ c,pp c = !ltOf cf d[(a+b) / 2+m - 1 - c]! d[c]!:=by intro c;rw [hpp]
 clear hpp hst1 hst2
 obtain ⟨mid,hmid⟩:∃ mid,mid=(a+b) / 2:=⟨_,rfl⟩
 rw [← hmid] at HE hT hmm
 simp only [← hmid] at hpp2
 have HPP:=hd_ hpp2
 clear hpp2
 have hm1:2 * mid≤a+b:=by omega
 have hm2:a+b≤2 * mid+1:=by omega
 have hmidz:((a:Int)+(b:Int)) / 2=(mid:Int):=by omega
 clear hmid
 have hlo1:a≤lo:=by omega
 have hlo2:lo≤a:=by omega
 clear hlo
 have hhi1:m≤hi:=by omega
 have hhi2:hi≤m:=by omega
 clear hhi
 have hbd:=Stab.bs_bd pp (hi - lo) lo hi om_
 rw [← hst0] at hbd
 obtain ⟨res,hres⟩:∃ r,r=Stab.st (Stab.arrO α) (ltOf cf) a m b d:=⟨_,rfl⟩
 rw [← hres] at HE hT hst0 hbd
 have HRES:Hid (Stab.bs pp (hi - lo) lo hi=res):=hst0.symm
 clear hst0 hres
 generalize Stab.tn (Stab.arrO α) (ltOf cf) a m b d=T at HE hT hTs
 have HT:=hd_ hT
 have HEE:=hd_ HE
 clear hT HE
 have h1:((m:Int) - (a:Int) == 1)=false:=by simp;omega
 have h2:((b:Int) - (m:Int) == 1)=false:=by simp;omega
 have hmmz:¬ (mid:Int) < (m:Int):=by omega
 go_enter func328,ntmps328
 go_wp2
 go_loopg [20,21] (hi - lo) (fun g1 vi vj wr=>∃ (i j:Nat),vi=↑i∧vj=↑j∧lo≤i∧i≤j∧j≤hi∧j - i≤g1∧Aside (SW enc w0 blk off d wr)∧Hid (Stab.bs pp g1 i j=res))
 case atStart=>exact ⟨lo,hi,by first|go_num|(congr 1;omega),by first|go_num|(congr 1;omega),om_,om_,om_,om_,S0,HRES⟩
 case round =>
  clear S0
  obtain ⟨i,j,rfl,rfl,hi1,hi2,hi3,hg1,S1,HB⟩:=hrel
  by_cases hlt:i < j
  ·exact Q2
  ·have hltz:¬ (i:Int) < (j:Int):=by omega
   obtain rfl:j=i:=by omega
   have hres:j=res:=Q1b
   subst hres
   clear HB hlt
   clear hm1 hm2 HRES HPP
   obtain ⟨en,hen⟩:∃ en,en=mid+m - j:=⟨_,rfl⟩
   have henz:(mid:Int)+(m:Int) - (j:Int)=(en:Int):=by omega
   have hen1:en+j≤mid+m:=by omega
   have hen2:mid+m≤en+j:=by omega
   have HE2:=HEE.out
   have HT2:=HT.out
   rw [← hen] at HE2 HT2
   have HEE2:=hd_ HE2
   clear HEE HT HE2 hen
   by_cases hA1:j < m
   ·by_cases hA2:j < mid
    ·exact Q0
    ·exfalso;omega
   ·by_cases hA2:j < mid
    ·by_cases hB1:a < j
     ·have hTs2:T.size=L:=by rw [hTs];exact hs
      clear hTs
      have hTT:T=d:=by rw [HT2,if_neg om_]
      clear HT2
      have HTT:=hd_ hTT
      clear hTT
      have za1:¬ (j:Int) < (m:Int):=by omega
      have za1b:¬ (mid:Int) < (en:Int):=by omega
      have za2:(j:Int) < (mid:Int):=by omega
      have za2b:(m:Int) < (en:Int):=by omega
      have zb1:(a:Int) < (j:Int):=by omega
      go_wp2_with fail
      have S2:Aside (SW enc w0 blk off T wr):=(show SW enc w0 blk off T wr by rw [HTT.out];exact S1.out)
      exact Q3f
     ·exfalso;omega
    ·have hTs2:T.size=L:=by rw [hTs];exact hs
     clear hTs
     have hTT:T=d:=by rw [HT2,if_neg om_]
     clear HT2
     have HTT:=hd_ hTT
     clear hTT
     have za1:¬ (j:Int) < (m:Int):=by omega
     have za1b:¬ (mid:Int) < (en:Int):=by omega
     have za2:¬ (j:Int) < (mid:Int):=by omega
     have za2b:¬ (m:Int) < (en:Int):=by omega
     go_wp2_with fail
     have S2:Aside (SW enc w0 blk off T wr):=(show SW enc w0 blk off T wr by rw [HTT.out];exact S1.out)
     go_end0
     exact ⟨rfl,by rw [HEE2.out,if_neg om_,if_neg om_];exact S2.out⟩
theorem sym_rec (enc:α→Value) (cf:α→α→Int) (g:Nat) (cb:Array Value) (blk off cap L:Nat) (d0:Array α) (w0:World)
  (eg:∀ args w,(callFunc g args).run prog w=.ok (.enter g args) w) (hcmp:CmpLays1 prog g cb enc cf blk off d0.size w0) (R:Row1 enc w0 blk off d0) (h0:d0.size=L) (hL:L≤256):∀ f,Zqa enc cf g cb blk off cap L w0 f:=by
 intro f
 induction f with
 | zero=>intro d w hd S xi yi zi a m b hx hy hz h1 h2 h3 h4;omega
 | succ f ih =>
  intro d w hd S xi yi zi a m b hx hy hz h1 h2 h3 h4
  subst hx;subst hy;subst hz
  by_cases c1:m - a=1
  ·have:=sym_one enc cf g cb blk off cap L d0 d w0 w eg hcmp R h0 hd hL S a m b om_ h3 h4
   rwa [show Stab.sym (Stab.arrO α) (ltOf cf) (f+1) a m b d=_ by rw [Stab.sym,if_pos c1]]
  ·by_cases c2:b - m=1
   ·have:=sym_two enc cf g cb blk off cap L d0 d w0 w eg hcmp R h0 hd hL S a m b om_ om_ h4
    rwa [show Stab.sym (Stab.arrO α) (ltOf cf) (f+1) a m b d=_ by rw [Stab.sym,if_neg c1,if_pos c2]]
   ·by_cases c3:(a+b) / 2 < m
    ·exact sym_gt enc cf g cb blk off cap L d0 d w0 w eg hcmp R h0 hd hL S f a m b om_ om_ h4 h1 ih c3
    ·exact sym_le enc cf g cb blk off cap L d0 d w0 w eg hcmp R h0 hd hL S f a m b om_ om_ h4 h1 ih c3
end Go.Proofs.YtbapgefodmmikaaGreatDoor
