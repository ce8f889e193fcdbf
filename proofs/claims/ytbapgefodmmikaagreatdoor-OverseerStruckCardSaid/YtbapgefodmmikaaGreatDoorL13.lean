/- Parts of a proof. -/
import Derived.Test.YtbapgefodmmikaaGreatDoorLMin
import Derived.Test.YtbapgefodmmikaaGreatDoorL12
set_option linter.unusedVariables false
set_option linter.unusedSimpArgs false
set_option maxHeartbeats 40000000
set_option maxRecDepth 100000
namespace Go.Proofs.YtbapgefodmmikaaGreatDoor
open Go.RowKit Go.Proofs Go.Ord Tryz
open Go.Shelf Go.RowKit Go.Lib Go.Sort
variable {α:Type} [Inhabited α]
def Zt7 (enc:α→Value) (w0:World) (blk off:Nat) (d:Array α) (e:Ending) (w':World):Prop:=e=.returned (.tuple #[])∧SW enc w0 blk off d w'
theorem Zne (lt:α→α→Bool) (a b:Nat) (d:Array α):(Stab.ins (Stab.arrO α) lt d a b).size=d.size:=by
 have hI:∀ (j:Nat) (d:Array α),(Stab.insI (Stab.arrO α) lt a j d).size=d.size:=by
  intro j;induction j with
  | zero=>intro d;rfl
  | succ j ih =>
   intro d;rw [Stab.insI];split
   ·rw [ih];exact size_swp _ _ _
   ·rfl
 have hO:∀ (f i:Nat) (d:Array α),(Stab.insO (Stab.arrO α) lt a b f i d).size=d.size:=by
  intro f;induction f with
  | zero=>intro i d;rfl
  | succ f ih =>
   intro i d;rw [Stab.insO];split
   ·rw [ih,hI]
   ·rfl
 exact hO _ _ _
theorem Zkc (lt:α→α→Bool) (n:Nat):∀ (f a:Nat) (d:Array α),(Stab.blocks (Stab.arrO α) lt n f a d).size=d.size
 | 0,_,_=>rfl
 | f+1,a,d=>by
  rw [Stab.blocks];split
  ·rw [Zkc,Zne]
  ·rw [Zne]
theorem Zoy (lt:α→α→Bool) (n bz:Nat):∀ (f a:Nat) (d:Array α),(Stab.pass (Stab.arrO α) lt n bz f a d).size=d.size
 | 0,_,_=>rfl
 | f+1,a,d=>by
  rw [Stab.pass];split
  ·rw [Zoy,Stab.sym_size]
  ·split
   ·rw [Stab.sym_size]
   ·rfl
theorem Zqu (lt:α→α→Bool) (n f bz:Nat) (d:Array α) (h:¬ bz < n):Stab.passes (Stab.arrO α) lt n f bz d=d:=by
 cases f with
 | zero=>rfl
 | succ f=>rw [Stab.passes,if_neg h]
theorem stable_w (enc:α→Value) (cf:α→α→Int) (g:Nat) (cb:Array Value) (blk off cap L:Nat) (d0 d:Array α) (w0 w:World)
  (eg:∀ args w,(callFunc g args).run prog w=.ok (.enter g args) w) (hcmp:CmpLays1 prog g cb enc cf blk off d0.size w0) (R:Row1 enc w0 blk off d0) (h0:d0.size=L) (hs:d.size=L) (hL:L≤256) (S:SW enc w0 blk off d w) :
  Calls prog 302 #[.slice (some ⟨blk,off,none⟩) L cap,L,.func (.func g) #[] cb] w (Zt7 enc w0 blk off (Stab.stable (Stab.arrO α) (ltOf cf) L d)):=by
 have mixed:prog.follows Departure.mixedOrders=true:=by kernel_rfl
 have hcl0:=R.hO.cells
 simp only [Value.cells] at hcl0
 have hst:=R.hO.store prog
 have HC:Aside _:=hcmp
 have S0:Aside (SW enc w0 blk off d w):=S
 clear S
 clear hcmp
 have INS:Hid (∀ (dk:Array α) W,dk.size=L→SW enc w0 blk off dk W→∀ (xi yi:Int) (x y:Nat),xi=x→yi=y→x≤y→y≤L→Calls prog 327 #[.slice (some ⟨blk,off,none⟩) L cap,xi,yi,.func (.func g) #[] cb] W fun e w'=>e=.returned (.tuple #[])∧SW enc w0 blk off (Stab.ins (Stab.arrO α) (ltOf cf) dk x y) w'):=by
  intro dk W hk S xi yi x y hx hy h1 h2
  subst hx;subst hy
  exact ins_w enc cf g cb blk off cap L d0 dk w0 W eg HC.out R h0 hk hL S x y h1 h2
 have SY:=hd_ (sym_rec enc cf g cb blk off cap L d0 w0 eg HC.out R h0 hL)
 have HFIN:Hid (Stab.stable (Stab.arrO α) (ltOf cf) L d=Stab.passes (Stab.arrO α) (ltOf cf) L (L+1) 20 (Stab.blocks (Stab.arrO α) (ltOf cf) L (L+1) 0 d)):=rfl
 have hbs:=Zkc (ltOf cf) L (L+1) 0 d
 rw [hs] at hbs
 generalize Stab.stable (Stab.arrO α) (ltOf cf) L d=FIN at *
 obtain ⟨BL,hBL⟩:∃ B,B=Stab.blocks (Stab.arrO α) (ltOf cf) L (L+1) 0 d:=⟨_,rfl⟩
 rw [← hBL] at hbs HFIN
 have HBL:Hid (Stab.blocks (Stab.arrO α) (ltOf cf) L (L+1) 0 d=BL):=hBL.symm
 clear hBL
 go_enter func302,ntmps302
 go_wp2
 go_loopg [7,8] (L+1) (fun g1 va vb wr=>∃ (a b:Nat) (dk:Array α),va=↑a∧vb=↑b∧a+20≤b∧b≤a+20∧a≤L∧L - a < g1∧dk.size=L∧Aside (SW enc w0 blk off dk wr)∧Hid (Stab.blocks (Stab.arrO α) (ltOf cf) L g1 a dk=BL))
 case atStart=>exact ⟨0,20,d,rfl,rfl,om_,om_,om_,om_,hs,S0,HBL⟩
 case round =>
  clear S0 HBL
  obtain ⟨a,b,dk,rfl,rfl,hb1,hb2,ha,hg1,hsk,S1,HB⟩:=hrel
  obtain ⟨f1,rfl⟩:∃ f1,gk=f1+1:=⟨gk - 1,om_⟩
  by_cases hlt:b≤L
  ·have hltz:(b:Int)≤(L:Int):=by omega
   have HB2:Hid (Stab.blocks (Stab.arrO α) (ltOf cf) L f1 b (Stab.ins (Stab.arrO α) (ltOf cf) dk a b)=BL):=by
    show _=_;have:=HB.out;rw [Stab.blocks,if_pos om_] at this;rwa [show a+20=b by omega] at this
   have hs2:=Zne (ltOf cf) a b dk
   clear HB
   go_wp2_with fail
   refine (INS.out dk _ hsk S1.out _ _ a b om_ om_ om_ om_).mono ?_
   rintro e w2 ⟨rfl,S2⟩
   have S2:=(show Aside _ from S2)
   go_wp2_with fail
   go_roundg f1
   case measure=>omega
   case rel=>exact ⟨b,b+20,_,by go_num,by go_num,om_,om_,om_,om_,by rw [hs2];exact hsk,S2,HB2⟩
  ·have hltz:¬ (b:Int)≤(L:Int):=by omega
   have HB2:Hid (Stab.ins (Stab.arrO α) (ltOf cf) dk a L=BL):=by
    show _=_;have:=HB.out;rwa [Stab.blocks,if_neg om_] at this
   clear HB
   go_wp2_with fail
   refine (INS.out dk _ hsk S1.out _ _ a L om_ om_ om_ om_).mono ?_
   rintro e w2 ⟨rfl,S2⟩
   rw [HB2.out] at S2
   have S2:=(show Aside _ from S2)
   clear HB2 S1 hsk
   go_wp2_with fail
   go_loopg [6] (L+1) (fun g1 vz wr=>∃ (bz:Nat) (dk:Array α),vz=↑bz∧20≤bz∧L < bz+g1∧bz≤2 * L+20∧dk.size=L∧Aside (SW enc w0 blk off dk wr)∧Hid (Stab.passes (Stab.arrO α) (ltOf cf) L g1 bz dk=FIN))
   case atStart=>exact ⟨20,BL,rfl,om_,om_,om_,hbs,S2,(show _=_ from HFIN.out.symm)⟩
   case round =>
    clear S2 HFIN hbs
    obtain ⟨bz,dk,rfl,hz1,hz2,hz3,hsk,S1,HB⟩:=hrel
    by_cases hlt:bz < L
    ·have hltz:(bz:Int) < (L:Int):=by omega
     obtain ⟨f1,rfl⟩:∃ f1,gk=f1+1:=⟨gk - 1,om_⟩
     obtain ⟨PS,hPS⟩:∃ B,B=Stab.pass (Stab.arrO α) (ltOf cf) L bz (L+1) 0 dk:=⟨_,rfl⟩
     have HB2:Hid (Stab.passes (Stab.arrO α) (ltOf cf) L f1 (2 * bz) PS=FIN):=by
      show _=_;have:=HB.out;rwa [Stab.passes,if_pos hlt,← hPS] at this
     have hps:=Zoy (ltOf cf) L bz (L+1) 0 dk
     rw [← hPS,hsk] at hps
     have HPS:Hid (Stab.pass (Stab.arrO α) (ltOf cf) L bz (L+1) 0 dk=PS):=hPS.symm
     clear hPS HB
     go_wp2_with fail
     go_loopg [7,8] (L+1) (fun g1 va vb wr=>∃ (a b:Nat) (dk:Array α),va=↑a∧vb=↑b∧a+2 * bz≤b∧b≤a+2 * bz∧a≤L∧L - a < g1∧dk.size=L∧Aside (SW enc w0 blk off dk wr)∧Hid (Stab.pass (Stab.arrO α) (ltOf cf) L bz g1 a dk=PS))
     case atStart=>exact ⟨0,2 * bz,dk,rfl,by go_num,om_,om_,om_,om_,hsk,S1,HPS⟩
     case round =>
      clear S1 HPS hsk
      clear dk
      obtain ⟨a,b,dk,rfl,rfl,hb1,hb2,ha,hg1,hsk,S1,HB⟩:=hrel
      obtain ⟨f2,rfl⟩:∃ f2,gk=f2+1:=⟨gk - 1,om_⟩
      by_cases hlt2:b≤L
      ·have hltz2:(b:Int)≤(L:Int):=by omega
       have HB3:Hid (Stab.pass (Stab.arrO α) (ltOf cf) L bz f2 b (Stab.sym (Stab.arrO α) (ltOf cf) (2 * bz) a (a+bz) b dk)=PS):=by
        show _=_;have:=HB.out;rw [Stab.pass,if_pos om_] at this;rwa [show a+2 * bz=b by omega] at this
       have hs2:=Stab.sym_size (ltOf cf) (2 * bz) a (a+bz) b dk
       clear HB
       go_wp2_with fail
       refine (SY.out (2 * bz) dk _ hsk S1.out _ _ _ a (a+bz) b om_ om_ om_ om_ om_ om_ om_).mono ?_
       rintro e w3 ⟨rfl,S3⟩
       have S3:=(show Aside _ from S3)
       go_wp2_with fail
       go_roundg f2
       case measure=>omega
       case rel=>exact ⟨b,b+2 * bz,_,by go_num,by go_num,om_,om_,om_,om_,by rw [hs2];exact hsk,S3,HB3⟩
      ·have hltz2:¬ (b:Int)≤(L:Int):=by omega
       by_cases hm:a+bz < L
       ·have hmz:(a:Int)+(bz:Int) < (L:Int):=by omega
        have HB3:Hid (Stab.sym (Stab.arrO α) (ltOf cf) (L - a) a (a+bz) L dk=PS):=by
         show _=_;have:=HB.out;rwa [Stab.pass,if_neg om_,if_pos hm] at this
        clear HB
        go_wp2_with fail
        refine (SY.out (L - a) dk _ hsk S1.out _ _ _ a (a+bz) L om_ om_ om_ om_ om_ om_ om_).mono ?_
        rintro e w3 ⟨rfl,S3⟩
        rw [HB3.out] at S3
        have S3:=(show Aside _ from S3)
        go_wp2_with fail
        go_roundg f1
        case measure=>omega
        case rel=>exact ⟨2 * bz,PS,by first|go_num|(congr 1;omega),om_,om_,om_,hps,S3,HB2⟩
       ·have hmz:¬ (a:Int)+(bz:Int) < (L:Int):=by omega
        have HB3:dk=PS:=by
         have:=HB.out;rwa [Stab.pass,if_neg om_,if_neg hm] at this
        subst HB3
        clear HB
        go_wp2_with fail
        go_roundg f1
        case measure=>omega
        case rel=>exact ⟨2 * bz,dk,by first|go_num|(congr 1;omega),om_,om_,om_,hps,S1,HB2⟩
    ·have hltz:¬ (bz:Int) < (L:Int):=by omega
     go_wp2_with fail
     go_end0
     exact ⟨rfl,by rw [← HB.out,Zqu _ _ _ _ _ hlt];exact S1.out⟩
theorem Zii (enc:α→Value) (cf:α→α→Int) (g:Nat) (cb:Array Value) (blk off cap L:Nat) (d0 d:Array α) (w0 w:World)
  (eg:∀ args w,(callFunc g args).run prog w=.ok (.enter g args) w) (hcmp:CmpLays1 prog g cb enc cf blk off d0.size w0) (R:Row1 enc w0 blk off d0) (h0:d0.size=L) (hs:d.size=L) (hL:L≤256) (S:SW enc w0 blk off d w) :
  Calls prog 265 #[.slice (some ⟨blk,off,none⟩) L cap,.func (.func g) #[] cb] w (Zt7 enc w0 blk off (Stab.stable (Stab.arrO α) (ltOf cf) L d)):=by
 have H:=hd_ (stable_w enc cf g cb blk off cap L d0 d w0 w eg hcmp R h0 hs hL S)
 clear hcmp R h0 hs S
 go_enter func265,ntmps265
 go_wp2_with (go_at_call 302;refine H.out.mono ?_;rintro e w' ⟨rfl,S⟩)
 go_end0
 exact ⟨rfl,S⟩
end Go.Proofs.YtbapgefodmmikaaGreatDoor
namespace Go.Proofs.YtbapgefodmmikaaGreatDoor
open Go.RowKit Go.Proofs Go.Ord Tryz
attribute [local irreducible] Ord.walk
open Go.Sort Go.Shelf Go.Lib
def u64V (n:Nat):Value:=.int .u64 (n:Nat)
def USl (w:World) (g:Nat) (l:List Nat):Prop:=∀ i,(h:i < l.length)→w.cell? ⟨g,i,none⟩=some (.int .u64 (l[i]:Nat))
theorem Zmk {α:Type} [Inhabited α] (enc:α→Value) (w:World) (g n:Nat) (d:Array α) (os:Array Obj) (base:Nat) (hb:base≤g) (hg:g < w.heap.size):Below base w (sortWorld enc w g 0 n d os):=by
 refine ⟨rfl,rfl,rfl,?_,?_⟩
 ·unfold sortWorld;rw [size_grow,size_putRow];show w.heap.size≤w.heap.size+_;omega
 ·intro k hk
  show ((putRow enc (Sort.ahead w n) g 0 d).heap ++ os)[k]? = _
  rw [Array.getElem?_append_left (by rw [size_putRow];show k < w.heap.size;omega)]
  show (w.heap.modify g _)[k]? = _
  rw [Array.getElem?_modify,if_neg om_]
def Zqb (base g k:Nat) (w:World) (e:Ending) (w':World):Prop:=e=.returned (.tuple #[])∧Below base w w'∧USl w' g (Stab.bySize k)∧g < w'.heap.size
end Go.Proofs.YtbapgefodmmikaaGreatDoor
namespace Go.Proofs.YtbapgefodmmikaaGreatDoor
open Go.RowKit Go.Proofs Go.Ord Tryz
attribute [local irreducible] Ord.walk
theorem gr_eq (n all:Nat):grI (n:Int) (all:Int)=Zhy n all:=by
 unfold grI Zhy
 by_cases h1:n=all
 ·subst h1;simp
 ·rw [if_neg om_,if_neg h1]
  by_cases h0:n=0
  ·subst h0;simp
  ·rw [if_neg om_,if_neg h0]
theorem Zu6 (l:List Nat) (hl:∀ w∈l,sz w≤8) (m:Nat) (hm:m≤9):((cl (fun n=>l.countP fun w=>sz w == n)).drop m).sum=l.countP fun w=>decide (m≤sz w):=by
 induction l with
 | nil =>
  rcases (show m=0∨m=1∨m=2∨m=3∨m=4∨m=5∨m=6∨m=7∨m=8∨m=9 by omega) with rfl|rfl|rfl|rfl|rfl|rfl|rfl|rfl|rfl|rfl <;> simp [cl]
 | cons a l ih =>
  have ih:=ih (fun w hw=>hl w (List.mem_cons_of_mem _ hw))
  have ha:=hl a List.mem_cons_self
  rw [List.countP_cons,← ih]
  clear ih
  generalize hs:sz a=s at *
  have key:∀ f:Nat→Nat,((cl (fun n=>f n+if s == n then 1 else 0)).drop m).sum=((cl f).drop m).sum+if decide (m≤s)=true then 1 else 0:=by
   intro f
   rcases (show m=0∨m=1∨m=2∨m=3∨m=4∨m=5∨m=6∨m=7∨m=8∨m=9 by omega) with rfl|rfl|rfl|rfl|rfl|rfl|rfl|rfl|rfl|rfl <;>
   rcases (show s=0∨s=1∨s=2∨s=3∨s=4∨s=5∨s=6∨s=7∨s=8 by omega) with rfl|rfl|rfl|rfl|rfl|rfl|rfl|rfl|rfl <;> simp [cl] <;> omega
  exact (congrArg (fun f:Nat→Nat=>((cl f).drop m).sum) (funext fun n=>by rw [List.countP_cons,hs])).trans (key _)
theorem TL_lt {b:Bn}(hv:valid b=true) {w:Nat}(h:w∈TL b):w < 256:=Zkw hv h
theorem TL_sz {b:Bn}(hv:valid b=true):∀ w∈TL b,sz w≤8:=fun _ h=>sz_le (TL_lt hv h)
theorem Zvu {b:Bn}(hv:valid b=true):((cl (Za6 b.V.toNat b.lo b.hi (knOf b))).drop b.nd.toNat).sum=passN (TL b) b.nd:=by
 have hnd:=Zry hv
 have hV:=Zb6 hv
 have e:Za6 b.V.toNat b.lo b.hi (knOf b)=fun n=>(TL b).countP fun w=>sz w == n:=funext fun n=>Zk4 hv n
 rw [e,Zu6 _ (TL_sz hv) _ om_]
 unfold passN
 apply List.countP_congr
 intro w _
 simp only [decide_eq_true_eq]
 omega
theorem lo_fold (l:List Nat) (x0:Nat):(∀ x∈l,l.foldl (fun m x=>min m (sz x)) x0≤sz x)∧l.foldl (fun m x=>min m (sz x)) x0≤x0∧(l.foldl (fun m x=>min m (sz x)) x0=x0∨∃ x∈l,l.foldl (fun m x=>min m (sz x)) x0=sz x):=by
 induction l generalizing x0 with
 | nil=>simp
 | cons a l ih =>
  obtain ⟨h1,h2,h3⟩:=ih (min x0 (sz a))
  rw [List.foldl_cons]
  refine ⟨fun x hx=>?_,om_,?_⟩
  ·rcases List.mem_cons.1 hx with rfl|hx
   ·omega
   ·exact h1 x hx
  ·rcases h3 with h | ⟨x,hx,h⟩
   ·rcases Nat.le_total x0 (sz a) with h4|h4
    ·left;omega
    ·right;exact ⟨a,List.mem_cons_self,om_⟩
   ·right;exact ⟨x,List.mem_cons_of_mem _ hx,h⟩
theorem hi_fold (l:List Nat) (x0:Nat):(∀ x∈l,sz x≤l.foldl (fun m x=>max m (sz x)) x0)∧x0≤l.foldl (fun m x=>max m (sz x)) x0∧(l.foldl (fun m x=>max m (sz x)) x0=x0∨∃ x∈l,l.foldl (fun m x=>max m (sz x)) x0=sz x):=by
 induction l generalizing x0 with
 | nil=>simp
 | cons a l ih =>
  obtain ⟨h1,h2,h3⟩:=ih (max x0 (sz a))
  rw [List.foldl_cons]
  refine ⟨fun x hx=>?_,om_,?_⟩
  ·rcases List.mem_cons.1 hx with rfl|hx
   ·omega
   ·exact h1 x hx
  ·rcases h3 with h | ⟨x,hx,h⟩
   ·rcases Nat.le_total x0 (sz a) with h4|h4
    ·right;exact ⟨a,List.mem_cons_self,om_⟩
    ·left;omega
   ·right;exact ⟨x,List.mem_cons_of_mem _ hx,h⟩
theorem Zso {l:List Nat}(h:l≠[]):l.headD 0∈l:=by cases l with|nil=>exact absurd rfl h|cons a l=>simp
theorem loL_prop {l:List Nat}(h:l≠[]):(∀ x∈l,loL l≤sz x)∧∃ x∈l,loL l=sz x:=by
 obtain ⟨h1,h2,h3⟩:=lo_fold l (sz (l.headD 0))
 refine ⟨h1,?_⟩
 rcases h3 with h4|h4
 ·exact ⟨_,Zso h,h4⟩
 ·exact h4
theorem hiL_prop {l:List Nat}(h:l≠[]):(∀ x∈l,sz x≤hiL l)∧∃ x∈l,hiL l=sz x:=by
 obtain ⟨h1,h2,h3⟩:=hi_fold l (sz (l.headD 0))
 refine ⟨h1,?_⟩
 rcases h3 with h4|h4
 ·exact ⟨_,Zso h,h4⟩
 ·exact h4
theorem Zi6 {b:Bn}(hv:valid b=true) (n:Nat):0 < Za6 b.V.toNat b.lo b.hi (knOf b) n↔∃ x∈TL b,sz x=n:=by
 rw [Zk4 hv,List.countP_pos_iff]
 simp
theorem Zk3 {b:Bn}(hv:valid b=true) (n:Nat) (h:∀ x∈TL b,sz x≠n):Za6 b.V.toNat b.lo b.hi (knOf b) n=0:=by
 have:=mt (Zi6 hv n).1 (by rintro ⟨x,hx,e⟩;exact h x hx e)
 omega
theorem sz_V {b:Bn}(hv:valid b=true) {x:Nat}(hx:x∈TL b):sz x≤b.V.toNat:=by
 have h:=List.mem_range.1 (List.mem_filter.1 (show x∈(List.range (2 ^ b.V.toNat)).filter (okB b (2 ^ b.kn - 1)) from hx)).1
 have hV:=Zb6 hv
 rw [sz_pop _ (TL_lt hv hx)]
 exact pop_le_k om_ h
def Zq8 (n:Nat) (x:Int) (w1:World) (e:Exit) (a:Act) (w:World):Prop :=
 e=.panic [{ v:=Zfy x,recovered:=false }]∧a.defers=[{ target:=Target.fn (Fn.func 99) #[Value.pointer (some { block:=n+1+1,off:=0 })],args:=#[] }] ∧
 a.tmps.getD 4 undef=↑()∧a.tmps.getD 5 undef=↑()∧a.tmps.getD 6 undef=.pointer ↑(n+1+1)∧w1 w
theorem Zru (b:Bn) (ga:Option Addr) (gc:Nat) (pa:Option Addr) (pc:Nat) (n:Nat) (w:World) (hg:GsAt w ga b.gs) (hp:PsAt w pa b.ps) (hv:valid b=true) (hi:(inB n 0 b.V)=true) (hs:0 < csum (Za6 b.V.toNat b.lo b.hi (knOf b))) (hn:Za6 b.V.toNat b.lo b.hi (knOf b) n=0) :
  Calls prog 35 #[bv b ga gc pa pc,n] w (Zfm ↑() ↑() (.int .i64 4) w):=by
 have hmf:=hmf_ prog
 have HO:=hd_ (fun w' (hb:Below w.heap.size w w') (hc0:w'.cell? ⟨w.heap.size+1,0,none⟩=some (.int .i64 n))=>Zbv b ga gc pa pc 100 #[.pointer ↑(w.heap.size+1)] w' (hg.below hb) (hp.below hb) hv (fun args W=>call100 args W) (fun w2 v hb2 h0=>by have:=Zhe v _ b.V n w2 h0 (Za4 hb2 hc0);rwa [hi] at this))
 have HC:=hd_ Zft
 have HS:=hd_ hs
 have HT:=hd_ (fun w1 v ka kc (hvt:Vt w1 v b b.V.toNat (knOf b) ga gc pa pc ka kc)=>Zd9 hvt HS.out)
 have hle:=Zbb b.V.toNat (by have:=Zb6 hv;omega) b.lo b.hi (knOf b)
 have q1:=Zf7 (Za6 b.V.toNat b.lo b.hi (knOf b))
 have q2:=Zf8 (Za6 b.V.toNat b.lo b.hi (knOf b))
 have hcv:Hid (cv (Za6 b.V.toNat b.lo b.hi (knOf b))=.agg (Zb2 (Za6 b.V.toNat b.lo b.hi (knOf b)))):=rfl
 have hb:=Zds hi
 have hV:=Zb6 hv
 have hn9:n < 9:=by omega
 have HM:=hd_ (Zxq (Za6 b.V.toNat b.lo b.hi (knOf b)) (n:Int) n rfl hn9)
 have hsm:decide (0 < Za6 b.V.toNat b.lo b.hi (knOf b) n)=false:=by simpa using hn
 rw [hsm] at HM
 clear hs q1 q2 hcv hle hn hi hsm hb hV
 generalize cv (Za6 b.V.toNat b.lo b.hi (knOf b))=CV at *
 unfold bv at *
 go_enter_defers func35,ntmps35
 go_wp2_with fail
 with_reducible refine (HO.out _ bel_ (by simp [go_sem];done)).mono ?_
 rintro e w1 ⟨v,ka,kc,rfl,hvt,hb1,hle⟩
 go_wp2_with fail
 have HT1:=hd_ (fun w2 (hb:Below w1.heap.size w1 w2)=>HT.out w2 v ka kc (hvt.below hb))
 have ht3:w1.cell? ⟨w.heap.size+1,0,none⟩=some (.int .i64 n):=by rw [hb1.cell (p:=⟨w.heap.size+1,0,none⟩) ar_];simp [go_sem]
 have hz1:w.heap.size+3≤w1.heap.size:=by have:=hb1.size;simpa using this
 have b1:Blk w1 (w.heap.size+2) #[()] 31:=(Blk.new' _ _ _ _ sp_).below hb1 ar_
 have hB1:Below w.heap.size w w1:=((((br_.alloc nl_ _).alloc ar_ _).alloc ar_ _).trans (hb1.mono ar_))
 refine wp_mono (Q:=Zq8 w.heap.size 4 w1) ?_ ?_
 ·refine Zyx [(0,0),(2,1),(1,2),(3,2),(4,2)] (fun W=>Below w1.heap.size w1 W) kr_ kr_ ?_ br_.drew ?_
  ·rintro c ⟨tm,ds⟩ d v u ⟨o,ho,rfl⟩ h
   have hd:o.dst=some 13∨o.dst=some 14∨o.dst=some 15∨o.dst=some 16∨o.dst=some 17:=Q2m
   unfold Zq8 at *
   rcases hd with e|e|e|e|e <;> rw [e] at h <;> simpa [Act.put,Array.getD_eq_getD_getElem?] using h
  ·go_wp2_with (first
    | (go_at_call 85;refine (HT1.out _ bel_).mono ?_;rintro e w3 ⟨rfl,hb3⟩;refine Za2 ?_)
    | ((with_reducible refine Zye ?_);refine Zyq (ad:=⟨w.heap.size+1,0,none⟩) ↑n rfl rfl ?_ ?_;(focus (intro W hW;obtain ⟨cW,_,zW⟩:=Zbe hW rfl;simp [go_sem,cW,↓IntWalk.iteOmega,ht3];done));intro K hK)
    | (refine o_ ?_;intro K hK)|(with_reducible first|refine Zyo ?_ ?_|refine Zyj ?_|refine Zyf bn_ (fun _=>?_)))
   unfold Stop
   have hB3:Below w1.heap.size w1 w3:=br_.drew.trans (hb3.mono sp_)
   have z3:=hB3.size
   go_wp2_with (first
    | (go_at_call 86;refine (HM.out _).mono ?_;rintro e w4 ⟨rfl,hb4⟩;refine Za2 ?_)
    | (refine o_ ?_;intro K hK)|(with_reducible first|refine Zyo ?_ ?_|refine Zyj ?_|refine Zyf bn_ (fun _=>?_)))
   unfold Stop
   have hB4:Below w1.heap.size w1 w4:=hB3.trans (hb4.mono z3)
   go_wp2_with (first
    | (go_at_call 102;refine (Zcg _ _).mono ?_;rintro e w' ⟨rfl,rfl⟩)
    | (refine o_ ?_;intro K hK)|(with_reducible first|refine Zyo ?_ ?_|refine Zyj ?_|refine Zyf bn_ (fun _=>?_)))
   exact ⟨rfl,rfl,rfl,rfl,rfl,hB4⟩
 rintro e ⟨tm,ds⟩ w3 ⟨rfl,rfl,h4,h5,h6,hb3⟩
 simp only [Array.getD_eq_getD_getElem?] at h4 h5 h6
 have b3:=b1.below hb3 b1.lt
 have hB:w w3:=hB1.trans (hb3.mono hB1.size)
 refine leaves_cons (f:=99) (args:=#[.pointer ↑(w.heap.size+2)]) sp_ (by simp [go_sem]) ?_
 refine ((HC.out).1 4 (w.heap.size+2) _ b3).mono ?_
 rintro e u' w4 ⟨rfl,rfl,ho,hb⟩
 have hB2:w w4:=hB.trans (ho.below hB.size sp_)
 have r2:=hb.cell
 simp only [settle,Leaves]
 simp [Leaves,settle,results,results35,go_sem,r2,h4,h5,h6]
 exact ⟨rfl,hB2⟩
theorem Zxu (b:Bn) (ga:Option Addr) (gc:Nat) (pa:Option Addr) (pc:Nat) (n:Nat) (w:World) (hg:GsAt w ga b.gs) (hp:PsAt w pa b.ps) (hv:valid b=true) (hi:(inB n 0 b.V)=true) (hs:0 < csum (Za6 b.V.toNat b.lo b.hi (knOf b))) (hn:0 < Za6 b.V.toNat b.lo b.hi (knOf b) n) :
  Calls prog 35 #[bv b ga gc pa pc,n] w (Zfm (.int .i64 (Zay (atN n) b.V.toNat b.lo b.hi (knOf b) b.V.toNat).1) (.int .i64 (Zay (atN n) b.V.toNat b.lo b.hi (knOf b) b.V.toNat).2) ↑() w):=by
 have hmf:=hmf_ prog
 have HO:=hd_ (fun w' (hb:Below w.heap.size w w') (hc0:w'.cell? ⟨w.heap.size+1,0,none⟩=some (.int .i64 n))=>Zbv b ga gc pa pc 100 #[.pointer (some ⟨w.heap.size+1,0,none⟩)] w' (hg.below hb) (hp.below hb) hv (fun args W=>call100 args W) (fun w2 v hb2 h0=>by have:=Zhe v _ b.V n w2 h0 (Za4 hb2 hc0);rwa [hi] at this))
 have HC:=hd_ Zft
 have HS:=hd_ hs
 have HT:=hd_ (fun w1 v ka kc (hvt:Vt w1 v b b.V.toNat (knOf b) ga gc pa pc ka kc)=>Zd9 hvt HS.out)
 have hle:=Zbb b.V.toNat (by have:=Zb6 hv;omega) b.lo b.hi (knOf b)
 have q1:=Zf7 (Za6 b.V.toNat b.lo b.hi (knOf b))
 have q2:=Zf8 (Za6 b.V.toNat b.lo b.hi (knOf b))
 have hcv:Hid (cv (Za6 b.V.toNat b.lo b.hi (knOf b))=.agg (Zb2 (Za6 b.V.toNat b.lo b.hi (knOf b)))):=rfl
 have hb:=Zds hi
 have hV:=Zb6 hv
 have hn9:n < 9:=by omega
 have HM:=hd_ (Zxq (Za6 b.V.toNat b.lo b.hi (knOf b)) (n:Int) n rfl hn9)
 have hsm:decide (0 < Za6 b.V.toNat b.lo b.hi (knOf b) n)=true:=by simpa using hn
 rw [hsm] at HM
 have HU:=hd_ (fun w1 v ka kc (hvt:Vt w1 v b b.V.toNat (knOf b) ga gc pa pc ka kc) pb (hp:w1.cell? ⟨pb,0,none⟩=some (.int .i64 n))=>Zrp hvt pb n hn9 hp)
 clear hs q1 q2 hcv hle hn hi hsm hb hV
 generalize Zay (atN n) b.V.toNat b.lo b.hi (knOf b) b.V.toNat=SU at *
 generalize cv (Za6 b.V.toNat b.lo b.hi (knOf b))=CV at *
 unfold bv at *
 go_enter_defers func35,ntmps35
 refine Zd5 ?_
 go_wp2_with fail
 with_reducible refine (HO.out _ bel_ (by simp [go_sem];done)).mono ?_
 rintro e w1 ⟨v,ka,kc,rfl,hvt,hb1,hle⟩
 go_wp2_with fail
 have HT1:=hd_ (fun w2 (hb:Below w1.heap.size w1 w2)=>HT.out w2 v ka kc (hvt.below hb))
 have ht3:w1.cell? ⟨w.heap.size+1,0,none⟩=some (.int .i64 n):=by rw [hb1.cell (p:=⟨w.heap.size+1,0,none⟩) ar_];simp [go_sem]
 have hz1:w.heap.size+3≤w1.heap.size:=by have:=hb1.size;simpa using this
 have b1:Blk w1 (w.heap.size+2) #[()] 31:=(Blk.new' _ _ _ _ sp_).below hb1 ar_
 have hB1:Below w.heap.size w w1:=((((br_.alloc nl_ _).alloc ar_ _).alloc ar_ _).trans (hb1.mono ar_))
 refine Ord.wp_region [(0,0),(2,1),(1,2),(3,2),(4,2)] (fun W=>Below w1.heap.size w1 W) kr_ kr_ (fun c a d v w h=>by cases d <;> exact h) br_.drew ?_
 go_wp2_with (first
  | (go_at_call 85;refine (HT1.out _ bel_).mono ?_;rintro e w3 ⟨rfl,hb3⟩;refine Za2 ?_)
  | ((with_reducible refine Zye ?_);refine Zyq (ad:=⟨w.heap.size+1,0,none⟩) ↑n rfl rfl ?_ ?_;(focus (intro W hW;obtain ⟨cW,_,zW⟩:=Zbe hW rfl;simp [go_sem,cW,↓IntWalk.iteOmega,ht3];done));intro K hK)
  | (refine o_ ?_;intro K hK)|(with_reducible first|refine Zyo ?_ ?_|refine Zyj ?_|refine Zyf bn_ (fun _=>?_)))
 unfold Stop
 have hB3:Below w1.heap.size w1 w3:=br_.drew.trans (hb3.mono sp_)
 have z3:=hB3.size
 go_wp2_with (first
  | (go_at_call 86;refine (HM.out _).mono ?_;rintro e w4 ⟨rfl,hb4⟩;refine Za2 ?_)
  | (refine o_ ?_;intro K hK)|(with_reducible first|refine Zyo ?_ ?_|refine Zyj ?_|refine Zyf bn_ (fun _=>?_)))
 unfold Stop
 have hB4:Below w1.heap.size w1 w4:=hB3.trans (hb4.mono z3)
 go_wp2_with (first
  | (go_at_call 102;refine (Zib _ _).mono ?_;rintro e w' ⟨rfl,rfl⟩)
  | (refine o_ ?_;intro K hK)|(with_reducible first|refine Zyo ?_ ?_|refine Zyj ?_|refine Zyf bn_ (fun _=>?_)))
 have z4:=hB4.size
 have hvt4:=hvt.below hB4
 have ht4:=Za4 hB4 ht3
 refine (HU.out _ _ _ _ hvt4 _ ht4).mono ?_
 rintro e w5 ⟨rfl,hb5⟩
 have hB5:Below w1.heap.size w1 w5:=hB4.trans (hb5.mono z4)
 have b3:=b1.below hB5 b1.lt
 have hB3:Below w.heap.size w w5:=hB1.trans (hB5.mono hB1.size)
 clear hb3 hb4 hb5 hB4 
 go_wp2_with (first
  | (refine Za1 157 (.tmp 8) (.tmp 20) Zdu rfl rfl rfl rfl (Blk.new _ _ _) rfl rfl (by simp [Value.oneCell']) ?_;intro w6 h6))
 have b4:=h6.blk
 have r4:=b4.cell
 have b5:=h6.other (b3.alloc _) (by have:=b3.lt;omega)
 have hB5:Below w.heap.size w w6:=h6.below (hB3.alloc hB3.size _) hB3.size
 have r5:=b5.cell
 have f5:=b5.free
 refine Ord.wp_region [(0,0),(1,0),(2,0),(3,0),(4,0),(5,0),(6,2)] (fun _=>True) kr_ kr_ (fun c a d v w h=>by cases d <;> exact h) trivial ?_
 go_wp2_with (first
  | (refine o_ ?_;intro K hK)|(with_reducible first|refine Zyo ?_ ?_|refine Zyj ?_|refine Zyf bn_ (fun _=>?_)))
 refine Zdg ?_
 refine leaves_cons (f:=99) (args:=#[.pointer (some ⟨w.heap.size+2,0,none⟩)]) sp_ (by simp [go_sem]) ?_
 refine ((HC.out).2 (w.heap.size+2) _).mono ?_
 rintro e u' w7 ⟨rfl,rfl,rfl⟩
 have r6:=(b5.set 0 ↑()).drew.cell
 simp only [settle,Leaves]
 simp [Leaves,settle,results,results35,go_sem,r6]
 exact ⟨rfl,(hB5.setCell ar_ _).drew⟩
theorem Zrs (b:Bn) (ga:Option Addr) (gc:Nat) (pa:Option Addr) (pc:Nat) (lo hi:Nat) (w:World) (hg:GsAt w ga b.gs) (hp:PsAt w pa b.ps) (hv:valid b=true) (hs:0 < csum (Za6 b.V.toNat b.lo b.hi (knOf b))) (V:Nat) (hVe:b.V=V) (hloV:lo≤V) (hhiV:hi≤V) (h1:0 < Za6 b.V.toNat b.lo b.hi (knOf b) lo) (h2:∀ j,j < lo→Za6 b.V.toNat b.lo b.hi (knOf b) j=0) (h3:0 < Za6 b.V.toNat b.lo b.hi (knOf b) hi) (h4:∀ j,hi < j→j≤V→Za6 b.V.toNat b.lo b.hi (knOf b) j=0) :
  Calls prog 31 #[bv b ga gc pa pc] w (Zat (.agg #[lo,hi]) ↑() w):=by
 have hmf:=hmf_ prog
 have HO:=hd_ (fun w' (hb:Below w.heap.size w w')=>Zbv b ga gc pa pc 84 #[] w' (hg.below hb) (hp.below hb) hv (fun args W=>call84 args W) (fun w2 v _ _=>Zch _ _))
 have HC:=hd_ Zfa
 have HS:=hd_ hs
 have HT:=hd_ (fun w1 v ka kc (hvt:Vt w1 v b b.V.toNat (knOf b) ga gc pa pc ka kc)=>Zd9 hvt HS.out)
 have hle:=Zbb b.V.toNat (by have:=Zb6 hv;omega) b.lo b.hi (knOf b)
 have q1:=Zf7 (Za6 b.V.toNat b.lo b.hi (knOf b))
 have q2:=Zf8 (Za6 b.V.toNat b.lo b.hi (knOf b))
 have hcv:Hid (cv (Za6 b.V.toNat b.lo b.hi (knOf b))=.agg (Zb2 (Za6 b.V.toNat b.lo b.hi (knOf b)))):=rfl
 have hV:=Zb6 hv
 have hV8:V≤8:=by omega
 have HM:Hid (∀ k:Nat,k≤8→∀ W,Calls prog 86 #[cv (Za6 b.V.toNat b.lo b.hi (knOf b)),.int .i64 (k:Int)] W (Zak (.bool (decide (0 < Za6 b.V.toNat b.lo b.hi (knOf b) k))) W)):=fun k hk W=>Zxq (Za6 b.V.toNat b.lo b.hi (knOf b)) (k:Int) k rfl om_ W
 have HL0:Hid (∀ k,k < lo→decide (0 < Za6 b.V.toNat b.lo b.hi (knOf b) k)=false):=fun k hk=>by simpa using h2 k hk
 have HL1:Hid (decide (0 < Za6 b.V.toNat b.lo b.hi (knOf b) lo)=true):=by show _=_;simpa using h1
 have HH0:Hid (∀ k,hi < k→k≤V→decide (0 < Za6 b.V.toNat b.lo b.hi (knOf b) k)=false):=fun k hk hk2=>by simpa using h4 k hk hk2
 have HH1:Hid (decide (0 < Za6 b.V.toNat b.lo b.hi (knOf b) hi)=true):=by show _=_;simpa using h3
 clear h1 h2 h3 h4 hs hle hV
 generalize Za6 b.V.toNat b.lo b.hi (knOf b)=c at *
 have HVE:=hd_ hVe
 have hcv2:=hcv
 generalize hCV:cv c=CV at *
 have HCV:=hd_ hCV
 clear hCV
 generalize Zb2 c=OC at *
 obtain rfl:=hcv.out
 clear hcv hcv2 hVe
 unfold bv at *
 go_enter_defers func31,ntmps31
 refine Zd5 ?_
 go_wp2_with fail
 with_reducible refine (HO.out _ bel_).mono ?_
 rintro e w1 ⟨v,ka,kc,rfl,hvt,hb1,hle⟩
 go_wp2_with fail
 with_reducible refine (HT.out _ _ _ _ hvt).mono ?_
 rintro e w2 ⟨rfl,hb2⟩
 go_wp2_with (first
  | (refine Za1 142 (.tmp 4) (.tmp 11) Zap rfl rfl rfl rfl (Blk.new _ _ _) rfl q1 q2 ?_;intro w3 h3;refine Za2 ?_))
 unfold Stop
 have z1:=hb1.size
 have z2:=hb2.size
 simp only [World.size_alloc] at z1
 have b1:Blk w3 w.heap.size #[b.V,b.nd,b.lo,b.hi,.slice ga b.gs.length gc,.slice pa b.ps.length pc] 54 :=
  h3.other ((((((Blk.new w _ _).alloc _).alloc _).below hb1 ar_).below hb2 om_).alloc _) om_
 have b2:Blk w3 (w.heap.size+1) #[(),()] 23 :=
  h3.other (((((Blk.new' _ _ _ _ sp_).alloc _).below hb1 ar_).below hb2 om_).alloc _) om_
 have b3:Blk w3 (w.heap.size+2) #[()] 31 :=
  h3.other ((((Blk.new' _ _ _ _ sp_).below hb1 ar_).below hb2 om_).alloc _) om_
 have b4:=h3.blk
 have hB3:Below w.heap.size w w3:=h3.below ((((((br_.alloc nl_ _).alloc ar_ _).alloc ar_ _).trans (hb1.mono ar_)).trans (hb2.mono om_)).alloc om_ _) om_
 have z3:=hB3.size
 clear hb1 hb2 h3 hvt
 rw [HVE.out] at *
 have r1:=b1.cell 0
 go_wp2_with (first
  | (refine Za0 142 (.tmp 4) Zap rfl rfl rfl b4 q1 ?_))
 refine Ord.wp_region [(0,0),(1,0),(2,0),(3,0)] (fun _=>True) kr_ kr_ (fun c a d v w h=>by cases d <;> exact h) trivial ?_
 go_wp2_with (first
  | (refine o_ ?_;intro K hK)|(with_reducible first|refine Zyo ?_ ?_|refine Zyj ?_|refine Zyf bn_ (fun _=>?_)))
 go_loopw [6] (fun i wr=>∃ k:Nat,k≤lo∧i=.int .i64 k∧Below w3.heap.size w3 wr) (fun i _=>lo - (intOf i).toNat)
 case atStart=>exact ⟨0,om_,rfl,br_.drew⟩
 case round =>
  obtain ⟨k,hk,rfl,hbw⟩:=hrel
  by_cases hlt:k < lo
  ·have HMk:=HM.out k om_
   rw [HL0.out k hlt] at HMk
   have HMK:=hd_ HMk
   clear HMk
   go_wp2_with (go_at_call 86;refine (HMK.out _).mono ?_;rintro e w5 ⟨rfl,hb5⟩)
   exact ⟨⟨k+1,om_,by go_num,hbw.trans (hb5.mono hbw.size)⟩,by simp [intOf];omega⟩
  ·have hkl:k=lo:=by omega
   subst hkl
   have HMk:=HM.out k om_
   rw [HL1.out] at HMk
   have HMK:=hd_ HMk
   clear HMk
   go_wp2_with (go_at_call 86;refine (HMK.out _).mono ?_;rintro e w5 ⟨rfl,hb5⟩)
   have hbw5:=hbw.trans (hb5.mono hbw.size)
   clear hbw hb5
   go_loopw [7] (fun i wr=>∃ m:Nat,hi≤m∧m≤V∧i=↑m∧Below w3.heap.size w3 wr) (fun i _=>(intOf i).toNat)
   case atStart=>exact ⟨V,hhiV,Nat.le_refl _,rfl,hbw5⟩
   case round =>
    obtain ⟨m,hm,hmV,rfl,hbx⟩:=hrel
    by_cases hlt2:hi < m
    ·have HMk:=HM.out m om_
     rw [HH0.out m hlt2 hmV] at HMk
     have HMK:=hd_ HMk
     clear HMk
     go_wp2_with (go_at_call 86;refine (HMK.out _).mono ?_;rintro e w6 ⟨rfl,hb6⟩)
     exact ⟨⟨m - 1,om_,om_,by rw [Int.natCast_sub om_];rfl,hbx.trans (hb6.mono hbx.size)⟩,by simp [intOf];omega⟩
    ·have hml:m=hi:=by omega
     subst hml
     have HMk:=HM.out m om_
     rw [HH1.out] at HMk
     have HMK:=hd_ HMk
     clear HMk
     go_wp2_with (go_at_call 86;refine (HMK.out _).mono ?_;rintro e w6 ⟨rfl,hb6⟩;have hbw6:=hbx.trans (hb6.mono hbx.size);have b26:=b2.below hbw6 b2.lt;have b36:=b3.below hbw6 b3.lt;have r26:=b26.cell;have f26:=b26.free;have r36:=b36.cell;have f36:=b36.free)
     have hB6:Below w.heap.size w w6:=hB3.trans (hbw6.mono z3)
     have c1:=((b26.set 0 (.int .i64 k)).set 1 ↑m).other (p:=⟨w.heap.size+2,0,none⟩) (by show _≠_;simp) ↑()
     have c2:=((b36.other (p:=⟨w.heap.size+1,0,none⟩) (by show _≠_;simp) (.int .i64 k)).other (p:=⟨w.heap.size+1,1,none⟩) (by show _≠_;simp) ↑m).set 0 ↑()
     refine Zdg ?_
     refine leaves_cons (f:=81) (args:=#[.pointer (some ⟨w.heap.size+2,0,none⟩)]) sp_ (by simp [go_sem]) ?_
     refine ((HC.out).2 (w.heap.size+2) _).mono ?_
     rintro e u' w7 ⟨rfl,rfl,rfl⟩
     have r7:=c1.cell
     have r8:=c2.cell
     simp only [settle,Leaves]
     simp [Leaves,settle,results,results31,go_sem,r7,r8]
     exact ⟨rfl,((hB6.setCell ar_ _).setCell ar_ _).setCell ar_ _⟩
end Go.Proofs.YtbapgefodmmikaaGreatDoor
