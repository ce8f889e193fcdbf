/- Parts of a proof. -/
import Derived.Test.YtbapgefodmmikaaGreatDoorLMin
import Derived.Test.YtbapgefodmmikaaGreatDoorL18
import Derived.DefersIn
set_option linter.unusedVariables false
set_option linter.unusedSimpArgs false
set_option maxHeartbeats 40000000
set_option maxRecDepth 100000
namespace Go.Proofs.YtbapgefodmmikaaGreatDoor
open Go.RowKit Go.Proofs Go.Ord Tryz
attribute [local irreducible] Ord.walk
def Zbi (c:Cl) (isB:Bool) (ba:Option Addr) (bc:Nat) (w:World) (e:Ending) (w':World):Prop :=
 if clOk c=false then Zhh 1 w e w' else if isB=false then Zhh 2 w e w'
 else ∃ T mb,e=.returned (.pointer (some ⟨T,0,none⟩))∧w w'∧Zb4 w' T c ba bc mb∧w.heap.size≤T∧w.heap.size≤mb
theorem Zar {c:Cl}(h:clOk c=true):Zc3 c:=by
 simp only [clOk,Bool.and_eq_true,decide_eq_true_eq,List.all_eq_true,Ze3] at h
 obtain ⟨⟨⟨⟨h1,h2⟩,h3⟩,h4⟩,h5⟩:=h
 exact ⟨h1,h2,h3,h4,fun b hb=>h5 b hb⟩
theorem Zxf {c:Cl}{k:Nat}(hk:k < c.bs.length) (h:Ze3 c.bs[k]=false):clOk c=false:=by
 cases hc:clOk c with
 | false=>rfl
 | true =>
  simp only [clOk,Bool.and_eq_true,List.all_eq_true] at hc
  rw [hc.2 _ (List.getElem_mem hk)] at h
  cases h
theorem clOk_all {c:Cl}(h1:1≤c.bs.length∧c.bs.length≤6) (h2:0≤c.may∧c.may≤30) (h3:0≤c.drift∧c.drift≤30) (h4:0≤c.mist∧c.mist≤6) (h5:c.bs.all Ze3=true):clOk c=true:=by
 simp [clOk,h1,h2,h3,h4,h5]
theorem Zxe {c:Cl}(h:¬ ((1≤(c.bs.length:Int)∧(c.bs.length:Int)≤6)∧(0≤c.may∧c.may≤30)∧(0≤c.drift∧c.drift≤30)∧(0≤c.mist∧c.mist≤6))):clOk c=false:=by
 cases hc:clOk c with
 | false=>rfl
 | true =>
  have:=Zar hc
  exact absurd ⟨by have:=this.len;omega,this.may,this.drift,this.mist⟩ h
theorem Zah:Zdw prog 62 4:=⟨_,underlying62,rfl,by kernel_rfl⟩
def clV (c:Cl) (ba:Option Addr) (bc:Nat):Array Value:=#[.slice ba c.bs.length bc,c.may,c.drift,c.mist]
theorem _root_.Qh {p:Prop}(h:p:=by
 go_enter func117,ntmps117
 go_wp2_with (first
  | (go_at_call 209;refine (HW.out _ _ _ _).mono ?_;rintro e w2 ⟨rfl,rfl⟩)
  | (go_at_call 124;refine (HN.out _ _).mono ?_;rintro e w3 ⟨rfl,rfl⟩))
 exact ⟨rfl,rfl,HBel.out⟩):p:=h
theorem Zxi (c:Cl) (ba:Option Addr) (bc:Nat) (f:Value) (w:World) (hlen:c.bs.length≤9223372036854775807)
  (hh:¬ ((1≤(c.bs.length:Int)∧(c.bs.length:Int)≤6)∧(0≤c.may∧c.may≤30)∧(0≤c.drift∧c.drift≤30)∧(0≤c.mist∧c.mist≤6))) :
  Calls prog 117 #[.agg (clV c ba bc),f] w (Zhh 1 w):=by
 have HH:=hd_ hh
 clear hh
 obtain ⟨x1,e1⟩:∃ x,decide (1≤(c.bs.length:Int)∧(c.bs.length:Int)≤6)=x:=⟨_,rfl⟩
 obtain ⟨x2,e2⟩:∃ x,decide (0≤c.may∧c.may≤30)=x:=⟨_,rfl⟩
 obtain ⟨x3,e3⟩:∃ x,decide (0≤c.drift∧c.drift≤30)=x:=⟨_,rfl⟩
 obtain ⟨x4,e4⟩:∃ x,decide (0≤c.mist∧c.mist≤6)=x:=⟨_,rfl⟩
 have h:¬ (x1=true∧x2=true∧x3=true∧x4=true):=fun ⟨a,b,cc,d⟩=>HH.out ⟨of_decide_eq_true (e1.trans a),of_decide_eq_true (e2.trans b),of_decide_eq_true (e3.trans cc),of_decide_eq_true (e4.trans d)⟩
 obtain ⟨wi,hwi⟩:∃ wi:Int→Int→Int→Bool,(fun n lo hi=>decide (lo≤n∧n≤hi))=wi:=⟨_,rfl⟩
 have HW:Hid (∀ n lo hi W,Calls prog 209 #[.int .i64 n,.int .i64 lo,.int .i64 hi] W (Same (.bool (wi n lo hi)) W)):=by rw [← hwi];exact hd_ Znr
 have E1:wi (c.bs.length:Int) 1 6=x1:=by rw [← hwi];exact e1
 have E2:wi c.may 0 30=x2:=by rw [← hwi];exact e2
 have E3:wi c.drift 0 30=x3:=by rw [← hwi];exact e3
 have E4:wi c.mist 0 6=x4:=by rw [← hwi];exact e4
 clear hwi
 have HN:=hd_ Zfv
 have HBel:Hid (w (w.alloc (.cells (clV c ba bc) 62))):=hd_ bel_
 clear e1 e2 e3 e4 HH
 unfold clV at *
 generalize c.bs.length=nl at *
 generalize c.may=may at *
 generalize c.drift=dr at *
 generalize c.mist=mi at *
 cases x1
 ·exact Qh
 cases x2
 ·exact Qh
 cases x3
 ·exact Qh
 cases x4
 ·exact Qh
 exact absurd ⟨rfl,rfl,rfl,rfl⟩ h
theorem _root_.Qt {p:Prop}(h:p:=by
 go_wp2_with (first
  | (go_at_call 209;refine (HW.out _ _ _ _).mono ?_;rintro e w2 ⟨rfl,rfl⟩)
  | (go_at_call 124;refine (HN.out _ _).mono ?_;rintro e w3 ⟨rfl,rfl⟩))
 exact ⟨rfl,HPost.out (HB0.out (by rw [HBO.out];rfl)) _ _ ⟨rfl,HBN.out⟩⟩):p:=h
theorem Zua (c:Cl) (isB:Bool) (ba:Option Addr) (bc:Nat) (F:FuncId) (cap:Array Value) (w:World) (hr:RowsAt w ba 3 Zbf c.bs)
  (h1:1≤(c.bs.length:Int)∧(c.bs.length:Int)≤6) (h2:0≤c.may∧c.may≤30) (h3:0≤c.drift∧c.drift≤30) (h4:0≤c.mist∧c.mist≤6)
  (hcf:∀ (args:Array Value) (W:World),(callFunc F args).run prog W=.ok (.enter F args) W)
  (HIS0:∀ w' T mb,Below w.heap.size w w'→clOk c=true→Zb4 w' T c ba bc mb→Calls prog F (#[.pointer (some ⟨T,0,none⟩)] ++ cap) w' (Same (.bool isB) w')) :
  Calls prog 117 #[.agg (clV c ba bc),.func (.func F) #[] cap] w (Zbi c isB ba bc w):=by
 have HIS:=hd_ HIS0
 clear HIS0
 have HN:=hd_ Zfv
 have HY:=hd_ Ze2
 have HALL:=hd_ (fun h5=>clOk_all (c:=c) om_ h2 h3 h4 h5)
 have HBAD:Hid (∀ {k:Nat}(hk:k < c.bs.length),Ze3 c.bs[k]=false→clOk c=false):=hd_ Zxf
 have HP:Hid (∀ e w',Zbi c isB ba bc w e w'=Zbi c isB ba bc w e w'):=fun _ _=>rfl
 have HR:=hd_ hr
 obtain ⟨wi,hwi⟩:∃ wi:Int→Int→Int→Bool,(fun n lo hi=>decide (lo≤n∧n≤hi))=wi:=⟨_,rfl⟩
 have HW:Hid (∀ n lo hi W,Calls prog 209 #[.int .i64 n,.int .i64 lo,.int .i64 hi] W (Same (.bool (wi n lo hi)) W)):=by rw [← hwi];exact hd_ Znr
 have E1:wi (c.bs.length:Int) 1 6=true:=by rw [← hwi];exact decide_eq_true h1
 have E2:wi c.may 0 30=true:=by rw [← hwi];exact decide_eq_true h2
 have E3:wi c.drift 0 30=true:=by rw [← hwi];exact decide_eq_true h3
 have E4:wi c.mist 0 6=true:=by rw [← hwi];exact decide_eq_true h4
 have HWI:=hd_ hwi
 clear hwi
 have hle6:(c.bs.length:Int)≤6:=h1.2
 clear hr h1 h2 h3 h4
 unfold clV
 go_enter func117,ntmps117
 go_wp2_with (first
   | (go_at_call 209;refine (HW.out _ _ _ _).mono ?_;rintro e w2 ⟨rfl,rfl⟩)
   | (go_at_call 124;refine (HY.out _ _).mono ?_;rintro e w3 ⟨rfl,rfl⟩))
 have hBel:w (w.alloc (.cells (clV c ba bc) 62)):=by exact bel_
 have bb:Blk (w.alloc (.cells (clV c ba bc) 62)) w.heap.size (clV c ba bc) 62:=Blk.new _ _ _
 go_loopw [6,31] (fun x6 x31 wr=>∃ k:Nat,k≤c.bs.length∧x31=↑k∧(c.bs.take k).all Ze3=true∧Below w.heap.size w wr∧Blk wr w.heap.size (clV c ba bc) 62) (fun _ x31 _=>c.bs.length - (intOf x31).toNat)
 case atStart=>exact ⟨0,Nat.zero_le _,rfl,sp_,hBel,bb⟩
 case round =>
  clear hBel bb
  obtain ⟨k,hk,rfl,hall,hB,bb⟩:=hrel
  have HA:=hd_ hall
  clear hall
  by_cases hlt:k < c.bs.length
  ·have hlti:(k:Int) < (c.bs.length:Int):=by omega
   obtain ⟨gb,go,rfl,hq⟩:=HR.out k hlt
   have q0:=Za4 hB (hq 0 _ rfl)
   have q1:=Za4 hB (hq 1 _ rfl)
   have q2:=Za4 hB (hq 2 _ rfl)
   rw [Nat.add_zero] at q0
   have lg:=bl_ wr _ q0
   have HB0:=hd_ (HBAD.out hlt)
   have hte:Hid (Ze3 c.bs[k]=true→(c.bs.take (k+1)).all Ze3=true):=fun h=>by
    rw [List.take_succ_eq_append_getElem hlt,List.all_append,HA.out];simpa using h
   generalize c.bs[k]=b at *
   obtain ⟨F1,L1,W1⟩:=b
   simp only at q0 q1 q2
   clear hq
   have hbn:w (wr.alloc (.cells #[F1,L1,W1] 139)):=hB.alloc hB.size _
   have HBN:=hd_ hbn
   have HBB:=hd_ (bb.alloc (.cells #[F1,L1,W1] 139))
   clear hbn
   obtain ⟨y1,f1⟩:∃ x,decide (1≤F1∧F1≤30)=x:=⟨_,rfl⟩
   obtain ⟨y2,f2⟩:∃ x,decide (0≤L1∧L1≤F1)=x:=⟨_,rfl⟩
   obtain ⟨y3,f3⟩:∃ x,decide (0≤W1∧W1≤L1)=x:=⟨_,rfl⟩
   have HBO:Hid (Ze3 (F1,L1,W1)=(y1 && (y2 && y3))):=by
    show _=_
    rw [← f1,← f2,← f3,Bool.eq_iff_iff]
    simp only [Ze3,Bool.and_eq_true,decide_eq_true_eq]
    omega
   have G1:wi F1 1 30=y1:=by rw [← HWI.out];exact f1
   have G2:wi L1 0 F1=y2:=by rw [← HWI.out];exact f2
   have G3:wi W1 0 L1=y3:=by rw [← HWI.out];exact f3
   clear f1 f2 f3 E1 E2 E3 E4
   have HPost:Hid (clOk c=false→∀ e w',Zhh 1 w e w'→Zbi c isB (some ⟨gb,go,none⟩) bc w e w'):=fun hbad e w' h=>by unfold Zbi;rw [if_pos hbad];exact h
   cases y1
   ·exact Qt
   cases y2
   ·exact Qt
   cases y3
   ·exact Qt
   go_wp2_with (first
    | (go_at_call 209;refine (HW.out _ _ _ _).mono ?_;rintro e w2 ⟨rfl,rfl⟩)
    | (go_at_call 124;refine (HY.out _ _).mono ?_;rintro e w3 ⟨rfl,rfl⟩))
   exact ⟨⟨k+1,om_,by go_num,hte.out (by rw [HBO.out];rfl),HBN.out,HBB.out⟩,by simp [intOf];omega⟩
  ·have hlti:¬ (k:Int) < (c.bs.length:Int):=by omega
   have hkk:k=c.bs.length:=by omega
   have hok:clOk c=true:=HALL.out (by have:=HA.out;rwa [hkk,List.take_length] at this)
   have rb:=bb.cell
   unfold clV at rb
   clear hlt hlti
   have hmm:=@run_makeMap prog
   have hum:=underlying176
   have lb:=bb.lt
   go_wp2_with fail
   obtain ⟨w9,hw9⟩:∃ w9,(wr.alloc (.map #[] 0)).alloc (.cells #[.slice ba c.bs.length bc,c.may,c.drift,c.mist,.map (some wr.heap.size)] 178)=w9:=⟨_,rfl⟩
   rw [hw9]
   have hB9:Below w.heap.size w w9:=by rw [← hw9];have:=hB.size;exact (hB.alloc om_ _).alloc (by simp;omega) _
   have hO9:Zb4 w9 (wr.heap.size+1) c ba bc wr.heap.size:=by
    refine ⟨⟨by rw [← hw9];exact Blk.new' _ _ _ _ sp_,HR.out.below hB9⟩,⟨[],by rw [← hw9];exact (MapG.MapAt.new wr).alloc _,MapG.MapOk.nil,sp_⟩⟩
   have hsz9:=hB.size
   clear hw9 hmm hum
   refine (HIS.out w9 _ _ hB9 hok hO9).mono ?_
   rintro e w10 ⟨rfl,rfl⟩
   cases isB
   ·go_wp2_with (first
     | (go_at_call 124;refine (HN.out _ _).mono ?_;rintro e w3 ⟨rfl,rfl⟩))
    refine ⟨rfl,?_⟩
    unfold Zbi
    rw [if_neg (by rw [hok];decide),if_pos rfl]
    exact ⟨rfl,hB9⟩
   ·go_wp2_with (first
     | (go_at_call 124;refine (HY.out _ _).mono ?_;rintro e w3 ⟨rfl,rfl⟩))
    go_ret
    unfold Zbi
    rw [if_neg (by rw [hok];decide),if_neg de_]
    exact ⟨_,_,rfl,hB9,hO9,om_,om_⟩
theorem Zb0 {P:Program}{f:FuncId}{fn:Func}{c:Code}{args:Array Value}{u:FrameMode}{w:World}{R:Ending→FrameMode→World→Prop}
  (hf:P.funcs[f]? = some fn) (hb:fn.body=some c)
  (h:∀ (c₀:Frame) (cs:List Frame),c₀.mode=u→c.wpS P (bodyPostS P fn c₀ cs R) { tmps:=args ++ Array.replicate (fn.ntmps - args.size) undef,defers:=[] } (c₀ :: cs) w) :
  CallsDIn Fence.wide 0 P f args u w R:=by
 refine ⟨trivial,fun c₀ cs hu _=>?_⟩
 obtain ⟨b,hbb⟩:∃ b:Frame,b={ (default:Frame) with fn:=f,kind:=.deferred }:=⟨_,rfl⟩
 have hfn:b.fn=f:=by rw [hbb]
 have hkd:b.kind=.deferred:=by rw [hbb]
 have hent:Frame.enter P f args .deferred=b.at { tmps:=args ++ Array.replicate (fn.ntmps - args.size) undef,defers:=[] } [.code c]:=by
  rw [hbb];simp [Frame.enter,Frame.at,hf,hb]
 obtain ⟨e,a',cs',w',hq,har⟩:=h c₀ cs hu b [] hkd (by rw [hbb];rfl)
 rw [← hent] at har
 cases e with
 | normal =>
  obtain ⟨hd,u',rfl,v,hr,hR⟩:=hq
  exact ⟨.returned v,u',w',_,hR,comesIn_wide.2 (Steps.trans har (.one step_end)),hkd,hfn,rfl,hd,fn,(show P.funcs[b.fn]? = some fn by rw [hfn];exact hf),hr⟩
 | ret =>
  obtain ⟨hd,u',rfl,v,hr,hR⟩:=hq
  obtain ⟨todo,hs⟩:=har
  exact ⟨.returned v,u',w',_,hR,comesIn_wide.2 hs,hkd,hfn,rfl,hd,fn,(show P.funcs[b.fn]? = some fn by rw [hfn];exact hf),hr⟩
 | panic chain =>
  obtain ⟨hd,u',rfl,hR⟩:=hq
  obtain ⟨todo,hs⟩:=har
  exact ⟨.panicked chain,u',w',_,hR,comesIn_wide.2 hs,hkd,hfn,rfl,hd,fn,(show P.funcs[b.fn]? = some fn by rw [hfn];exact hf)⟩
 | exit id=>exact hq.elim
 | goto l=>exact hq.elim
 | outgrown =>
  obtain ⟨u',hR⟩:=hq
  exact ⟨.outgrown,u',w',b,hR,comesIn_wide.2 (har.resolve_left (by simp [hkd])),hkd,hfn,trivial⟩
def Zo6 (e:Int) (pb:Nat) (w:World) (w':World):Prop:=Lets (fun k _=>k=pb) w w'∧Blk w' pb #[e] 31
def Zip (sv:Int→Value) (K:FuncId):Prop :=
 (∀ (e:Int) (pb:Nat) (w:World),Blk w pb #[()] 31→CallsDIn Fence.wide 0 prog K #[.pointer pb] (.panicking [{ v:=sv e,recovered:=false }]) w
  fun x u' w'=>x=.returned (.tuple #[])∧u'=.panicking [{ v:=sv e,recovered:=true }]∧Zo6 e pb w w') ∧
 (∀ (pb:Nat) (w:World),CallsDIn Fence.wide 0 prog K #[.pointer pb] .returning w fun x u' w'=>x=.returned (.tuple #[])∧u'=.returning∧w'=w)
abbrev panE (sv:Int→Value) (e:Int):Exit:=.panic [{ v:=sv e,recovered:=false }]
theorem Zal {sv:Int→Value}{fn:Func}{K:FuncId}{pb:Nat}{e:Int}{v:Value}{a:Act}{w:World}{R:Ending→World→Prop}{g:Fn}{cap xs:Array Value}(hK:Zip sv K) (hi:∀ w,(invoke (.fn g cap) xs).run prog w=.ok (.enter K #[.pointer pb]) w) (hd:a.defers=[{ target:=.fn g cap,args:=xs }]) (hb:Blk w pb #[()] 31)
  (h:∀ w',Lets (fun k _=>k=pb) w w'→Blk w' pb #[e] 31→(results fn a.tmps).run prog w'=.ok v w'∧R (.returned v) w'):bodyPostM Fence.wide 0 prog fn R (panE sv e) a w:=by
 show LeavesInM _ _ _ _ _ _ a.defers _ _
 rw [hd]
 refine ⟨sp_,.inr ⟨fun h=>by simp [Fence.wide] at h,_,_,K,_,rfl,hi w,fun _ _=>trivial,?_⟩⟩
 obtain ⟨h1,h2⟩:=hK.1 e pb w hb
 refine ⟨h1,fun c cs hu hr=>?_⟩
 obtain ⟨e',u',w',fr,⟨rfl,rfl,hc⟩,rest⟩:=h2 c cs hu hr
 refine ⟨.returned (.tuple #[]),_,w',fr,?_,rest⟩
 have:=h w' hc.1 hc.2
 exact ⟨v,this.1,this.2⟩
theorem Zcd {sv:Int→Value}{fn:Func}{K:FuncId}{pb:Nat}{v:Value}{a:Act}{w:World}{R:Ending→World→Prop}{g:Fn}{cap xs:Array Value}(hK:Zip sv K) (hi:∀ w,(invoke (.fn g cap) xs).run prog w=.ok (.enter K #[.pointer pb]) w) (hd:a.defers=[{ target:=.fn g cap,args:=xs }])
  (h:(results fn a.tmps).run prog w=.ok v w) (hr:R (.returned v) w):bodyPostM Fence.wide 0 prog fn R .ret a w:=by
 show LeavesInM _ _ _ _ _ _ a.defers _ _
 rw [hd]
 refine ⟨sp_,.inr ⟨fun h=>by simp [Fence.wide] at h,_,_,K,_,rfl,hi w,fun _ _=>trivial,?_⟩⟩
 obtain ⟨h1,h2⟩:=hK.2 pb w
 refine ⟨h1,fun c cs hu hro=>?_⟩
 obtain ⟨e',u',w',fr,⟨rfl,rfl,rfl⟩,rest⟩:=h2 c cs hu hro
 exact ⟨.returned (.tuple #[]),.returning,_,fr,⟨v,h,hr⟩,rest⟩
def PanE (sv:Int→Value) (ds:List Deferred) (i j:Nat) (s t:Value) (E:Int) (P:World→Prop) (e:Exit) (a:Act) (w:World):Prop:=e=panE sv E∧a.defers=ds∧a.tmps.getD i undef=s∧a.tmps.getD j undef=t∧P w
theorem Znu (e:Int) (pb:Nat) (w:World) (hb:Blk w pb #[()] 31) :
  CallsDIn Fence.wide 0 prog 116 #[.pointer pb] (.panicking [{ v:=refC e,recovered:=false }]) w
   fun x u' w'=>x=.returned (.tuple #[])∧u'=.panicking [{ v:=refC e,recovered:=true }]∧Zo6 e pb w w':=by
 have r0:=hb.cell
 have r1:=hb.free
 have hlt:=hb.lt
 have hta:∀ w,(Instr.typeAssert (refC e) 20 282 true).run prog w=.ok (.tuple #[e,.bool true]) w:=fun _=>by kernel_rfl
 have heq:∀ w,(Go.binOp .neq 20 (refC e) .nilIface).run prog w=.ok (.bool true) w:=fun _=>by kernel_rfl
 refine Zb0 func116 rfl fun c₀ cs hu=>?_
 refine wpS_seq ?_
 apply wpS_region
 unfold refC at *
 simp [wpOpsS,go_sem,recoverD,hu,ntmps116]
 refine wpS_of_wp ?_
 change Code.wp _ _ _ { tmps:=#[.pointer pb,undef,.iface 282 ↑e,undef,undef,.iface 282 ↑e,undef,undef,undef,undef,undef,undef,undef,undef,undef,undef,undef,undef,undef],defers:=[] } _
 go_wp2
 simp [bodyPostS,results,results116,go_sem]
 exact ⟨(Lets.refl _ _).setCell rfl _,hb.set 0 _⟩
theorem Znv (pb:Nat) (w:World) :
  CallsDIn Fence.wide 0 prog 116 #[.pointer pb] .returning w fun x u' w'=>x=.returned (.tuple #[])∧u'=.returning∧w'=w:=by
 refine Zb0 func116 rfl fun c₀ cs hu=>?_
 refine wpS_seq ?_
 apply wpS_region
 simp [wpOpsS,go_sem,recoverD,hu,ntmps116]
 refine wpS_of_wp ?_
 change Code.wp _ _ _ { tmps:=#[.pointer pb,undef,.nilIface,undef,undef,.nilIface,undef,undef,undef,undef,undef,undef,undef,undef,undef,undef,undef,undef,undef],defers:=[] } _
 go_wp2
 cases c₀
 simp_all [bodyPostS,results,results116,go_sem]
theorem Zcm:Zip refC 116:=⟨Znu,Znv⟩
def errC (c:Cl) (isB:Bool):Int:=if clOk c=false then 1 else if isB=false then 2 else if canC c (Zag c.bs)=false then 10 else 0
theorem Zi1 (c:Cl) (b:Bool):((clOk c=false∨b=false)∧errC c b≠0∧errC c b=if clOk c=false then 1 else 2)∨(clOk c=true∧b=true∧canC c (Zag c.bs)=false∧errC c b=10)∨(clOk c=true∧b=true∧canC c (Zag c.bs)=true∧errC c b=0):=by
 unfold errC
 cases clOk c <;> cases b <;> cases canC c (Zag c.bs) <;> simp
def Zac (c:Cl) (i:Int):Bool:=decide (0≤i∧i≤(c.bs.length:Int) - 1)
theorem Zhw {c:Cl}{i:Int}(h:Zac c i=true):∃ n:Nat,i=(n:Int)∧n < c.bs.length:=by
 have:=of_decide_eq_true h
 exact ⟨i.toNat,om_,om_⟩
theorem Zeo (c:Cl) (isB:Bool) (ba:Option Addr) (bc:Nat) (F:FuncId) (cap:Array Value) (w:World) (hr:RowsAt w ba 3 Zbf c.bs) (hlen:c.bs.length≤9223372036854775807)
  (hcf:∀ (args:Array Value) (W:World),(callFunc F args).run prog W=.ok (.enter F args) W)
  (HIS0:∀ w' T mb,Below w.heap.size w w'→clOk c=true→Zb4 w' T c ba bc mb→Calls prog F (#[.pointer (some ⟨T,0,none⟩)] ++ cap) w' (Same (.bool isB) w')) :
  Calls prog 117 #[.agg (clV c ba bc),.func (.func F) #[] cap] w (Zbi c isB ba bc w):=by
 by_cases hh:((1≤(c.bs.length:Int)∧(c.bs.length:Int)≤6)∧(0≤c.may∧c.may≤30)∧(0≤c.drift∧c.drift≤30)∧(0≤c.mist∧c.mist≤6))
 ·exact Zua c isB ba bc F cap w hr hh.1 hh.2.1 hh.2.2.1 hh.2.2.2 hcf HIS0
 ·refine (Zxi c ba bc _ w hlen hh).mono fun e w' h=>?_
  unfold Zbi
  rw [if_pos (Zxe hh)]
  exact h
theorem Zfp {c:Cl}{isB:Bool}{ba:Option Addr}{bc:Nat}{w:World}{e:Ending}{w':World}(h:Zbi c isB ba bc w e w') (hk:clOk c=false∨isB=false):Zhh (errC c isB) w e w':=by
 unfold Zbi at h
 unfold errC
 by_cases h1:clOk c=false
 ·rw [if_pos h1] at h ⊢;exact h
 ·rw [if_neg h1] at h ⊢
  rcases hk with hk|hk
  ·exact absurd hk h1
  ·rw [if_pos hk] at h ⊢;exact h
theorem Zdr {c:Cl}{isB:Bool}{ba:Option Addr}{bc:Nat}{w:World}{e:Ending}{w':World}(h:Zbi c isB ba bc w e w') (hk:clOk c=true) (hb:isB=true):∃ T mb,e=.returned (.pointer (some ⟨T,0,none⟩))∧w w'∧Zb4 w' T c ba bc mb∧w.heap.size≤T∧w.heap.size≤mb:=by
 unfold Zbi at h
 rw [if_neg (by rw [hk];decide),if_neg (by rw [hb];decide)] at h
 exact h
theorem _root_.Q1h {p:Prop}(h:p:=by
 go_wp2_with (first
  | (go_at_call 119;refine H.out.mono ?_;rintro e w2 ⟨rfl,rfl⟩))
 go_ret
 exact ⟨rfl,rfl⟩):p:=h
theorem Zk9 (i:Int) (p:Nat) {w:World}{T:Nat}{c:Cl}{ba:Option Addr}{bc mb:Nat}(hc:clOk c=true) (hO:Zb4 w T c ba bc mb) (hp:Blk w p #[i] 3) :
  Calls prog 118 #[.pointer T,.pointer p] w (Same (.bool (Zac c i)) w):=by
 have H:=hd_ (Znt hO (Zar hc) i w (Ln.start hO))
 have r:=hp.cell
 unfold Zac
 generalize decide (0≤i∧i≤(c.bs.length:Int) - 1)=v at *
 go_enter func118,ntmps118
 exact Q1h
theorem Zka (i:Int) (p:Nat) {w:World}{T:Nat}{c:Cl}{ba:Option Addr}{bc mb:Nat}(hc:clOk c=true) (hO:Zb4 w T c ba bc mb) (hp:Blk w p #[i] 3) :
  Calls prog 121 #[.pointer T,.pointer p] w (Same (.bool (Zac c i)) w):=by
 have H:=hd_ (Znt hO (Zar hc) i w (Ln.start hO))
 have r:=hp.cell
 unfold Zac
 generalize decide (0≤i∧i≤(c.bs.length:Int) - 1)=v at *
 go_enter func121,ntmps121
 exact Q1h
theorem Zhc (i:Int) (p:Nat) {w:World}{T:Nat}{c:Cl}{ba:Option Addr}{bc mb:Nat}(hc:clOk c=true) (hO:Zb4 w T c ba bc mb) (hp:Blk w p #[i] 3) :
  Calls prog 123 #[.pointer T,.pointer p] w (Same (.bool (Zac c i)) w):=by
 have H:=hd_ (Znt hO (Zar hc) i w (Ln.start hO))
 have r:=hp.cell
 unfold Zac
 generalize decide (0≤i∧i≤(c.bs.length:Int) - 1)=v at *
 go_enter func123,ntmps123
 exact Q1h
theorem _root_.Qy {p:Prop}(h:p:=by
 rintro c ⟨tm,ds⟩ d v u ⟨o,ho,rfl⟩ h
 have hd:o.dst=some 6∨o.dst=some 7∨o.dst=some 8∨o.dst=some 9∨o.dst=some 10∨o.dst=none:=by
  simp only [List.mem_toArray,List.mem_cons,List.not_mem_nil,or_false] at ho
  rcases ho with rfl|rfl|rfl|rfl|rfl|rfl|rfl <;> simp
 unfold PanE at *
 rcases hd with e|e|e|e|e|e <;> rw [e] at h <;> simpa [Act.put,Array.getD_eq_getD_getElem?] using h):p:=h
theorem _root_.Q23 {p:Prop}(h:p:=by
 simp only [Array.getD_eq_getD_getElem?] at h4 h5
 have r4:=hb.cell
 have r3:=(hl.blk hs8 om_).cell
 unfold spV at *
 simp [results,results39,go_sem,h4,h5,r4,r3]):p:=h
theorem Zpu (c:Cl) (ba:Option Addr) (bc:Nat) (i:Int) (w:World) (hr:RowsAt w ba 3 Zbf c.bs) (hlen:c.bs.length≤9223372036854775807) (hk:clOk c=false∨Zac c i=false) :
  Calls prog 39 #[.agg (clV c ba bc),i] w (Zat (.agg (spV (0,0))) (.int .i64 (errC c (Zac c i))) w):=by
 have hmf:=hmf_ prog
 have HO:Hid (∀ W,Below w.heap.size w W→Blk W (w.heap.size+1) #[i] 3→Calls prog 117 #[.agg (clV c ba bc),.func (.func 118) #[] #[.pointer ↑(w.heap.size+1)]] W (Zhh (errC c (Zac c i)) W)):=fun W hb b1 =>
  (Zeo c (Zac c i) ba bc 118 #[.pointer ↑(w.heap.size+1)] W (hr.below hb) hlen (fun args W=>call118 args W) (fun w' T mb hb' hc hO=>Zk9 i _ hc hO (b1.below hb' b1.lt))).mono fun e w' h=>Zfp h hk
 generalize errC c (Zac c i)=E at *
 clear hr hlen hk
 have bm0:Blk (w.alloc (.cells (clV c ba bc) 62)) w.heap.size (clV c ba bc) 62:=Blk.new _ _ _
 obtain ⟨W5,hW5⟩:∃ W5,((((w.alloc (.cells (clV c ba bc) 62)).alloc (.cells #[i] 3)).alloc (.cells #[(),()] 23)).alloc (.cells #[()] 31))=W5:=⟨_,rfl⟩
 have hB5:Below w.heap.size w W5:=by rw [← hW5];exact bel_
 have bm:Blk W5 w.heap.size (clV c ba bc) 62:=by rw [← hW5];exact ((bm0.alloc _).alloc _).alloc _
 have b1:Blk W5 (w.heap.size+1) #[i] 3:=by rw [← hW5];exact (((Blk.new' _ _ _ _ sp_).alloc _).alloc _)
 have b3:Blk W5 (w.heap.size+2) (spV (0,0)) 23:=by rw [← hW5];exact (Blk.new' _ _ _ _ sp_).alloc _
 have b4:Blk W5 (w.heap.size+3) #[()] 31:=by rw [← hW5];exact Blk.new' _ _ _ _ sp_
 have hs5:W5.heap.size=w.heap.size+4:=by rw [← hW5];simp
 have hs5a:W5.heap.size≤w.heap.size+4∧w.heap.size+4≤W5.heap.size:=by omega
 clear hs5 bm0
 unfold clV at *
 generalize c.bs.length=nl at *
 refine callsIn_wide.1 (callsIn_of_wp_marks (F:=Fence.wide) (n:=0) func39 rfl trivial (wpIn_wide.2 ?_) rfl)
 simp only [ntmps39,List.size_toArray,List.length_cons,List.length_nil,Nat.reduceAdd,Nat.reduceSub,Array.replicate_succ,Array.replicate_zero,List.push_toArray,List.append_toArray,List.nil_append,List.cons_append]
 go_wp2_with fail
 clear hW5
 have bmd:=bm.drew
 have b1d:=b1.drew
 have r1:=b1.cell
 have HO5:=hd_ (HO.out W5.drew hB5.drew b1.drew)
 refine wp_mono (Q:=PanE refC [{ target:=.fn (.func 116) #[],args:=#[.pointer ↑(w.heap.size+3)] }] 4 5 (.pointer ↑(w.heap.size+2)) (.pointer ↑(w.heap.size+3)) E (fun W=>Below w.heap.size w W∧Blk W (w.heap.size+3) #[()] 31∧Blk W (w.heap.size+2) (spV (0,0)) 23)) ?_ ?_
 ·refine Zyx [(0,0),(1,0),(3,1),(2,2),(4,2),(5,2),(6,2)] (fun W=>Blk W (w.heap.size+1) #[i] 3) kr_ kr_ ?_ b1.drew ?_
  ·exact Qy
  go_wp2_with (first
   | (refine Za0 62 (.tmp 2) Zah rfl rfl rfl bmd rfl ?_)
   | (go_at_call 117;refine HO5.out.mono ?_;rintro e w6 ⟨rfl,hb6⟩;exact ⟨rfl,rfl,rfl,rfl,hB5.trans (hb6.undrew.mono om_),b4.drew.below hb6 b4.lt,b3.drew.below hb6 b3.lt⟩)
   | ((with_reducible refine Zye ?_);refine Zyq (ad:=⟨w.heap.size+1,0,none⟩) ↑i rfl rfl ?_ ?_;(focus (intro W hW;have r:=hW.cell;simp [go_sem,r];done));intro K hK)
   | (refine o_ ?_;intro K hK)|(with_reducible first|refine Zyo ?_ ?_|refine Zyj ?_|refine Zyf bn_ (fun _=>?_)))
 rintro e ⟨tm,ds⟩ w8 ⟨rfl,rfl,h4,h5,hb8,he8,hs8⟩
 refine Zal (v:=.tuple #[.agg (spV (0,0)),E]) Zcm (fun W=>by simp [go_sem]) rfl he8 fun w' hl hb=>⟨?_,rfl,Za3 hb8 hl nl_ (fun _ _ _=>om_)⟩
 exact Q23
theorem Znw (c:Cl) (ba:Option Addr) (bc:Nat) (i:Int) (w:World) (hr:RowsAt w ba 3 Zbf c.bs) (hlen:c.bs.length≤9223372036854775807) (hk:clOk c=true) (hi:Zac c i=true) (hcan:canC c (Zag c.bs)=false) :
  Calls prog 39 #[.agg (clV c ba bc),i] w (Zat (.agg (spV (0,0))) (.int .i64 10) w):=by
 have hmf:=hmf_ prog
 have HO:Hid (∀ W,Below w.heap.size w W→Blk W (w.heap.size+1) #[i] 3→Calls prog 117 #[.agg (clV c ba bc),.func (.func 118) #[] #[.pointer ↑(w.heap.size+1)]] W (fun e w'=>∃ T mb,e=.returned (.pointer (some ⟨T,0,none⟩))∧Below W.heap.size W w'∧Zb4 w' T c ba bc mb∧W.heap.size≤T∧W.heap.size≤mb)):=fun W hb b1 =>
  (Zeo c (Zac c i) ba bc 118 #[.pointer ↑(w.heap.size+1)] W (hr.below hb) hlen (fun args W=>call118 args W) (fun w' T mb hb' hc hO=>Zk9 i _ hc hO (b1.below hb' b1.lt))).mono fun e w' h=>Zdr h hk hi
 have HWn:Hid (∀ {W0:World}{T mb:Nat},Zb4 W0 T c ba bc mb→∀ W,Ln W0 mb c W→Calls prog 120 #[.pointer (some ⟨T,0,none⟩),i] W (Zy7 W0 mb c 10 W)):=fun hO W hW=>Zmi hO (Zar hk) i hcan W hW
 clear hr hlen hk hi hcan
 have bm0:Blk (w.alloc (.cells (clV c ba bc) 62)) w.heap.size (clV c ba bc) 62:=Blk.new _ _ _
 obtain ⟨W5,hW5⟩:∃ W5,((((w.alloc (.cells (clV c ba bc) 62)).alloc (.cells #[i] 3)).alloc (.cells #[(),()] 23)).alloc (.cells #[()] 31))=W5:=⟨_,rfl⟩
 have hB5:Below w.heap.size w W5:=by rw [← hW5];exact bel_
 have bm:Blk W5 w.heap.size (clV c ba bc) 62:=by rw [← hW5];exact ((bm0.alloc _).alloc _).alloc _
 have b1:Blk W5 (w.heap.size+1) #[i] 3:=by rw [← hW5];exact (((Blk.new' _ _ _ _ sp_).alloc _).alloc _)
 have b3:Blk W5 (w.heap.size+2) (spV (0,0)) 23:=by rw [← hW5];exact (Blk.new' _ _ _ _ sp_).alloc _
 have b4:Blk W5 (w.heap.size+3) #[()] 31:=by rw [← hW5];exact Blk.new' _ _ _ _ sp_
 have hs5:W5.heap.size=w.heap.size+4:=by rw [← hW5];simp
 have hs5a:W5.heap.size≤w.heap.size+4∧w.heap.size+4≤W5.heap.size:=by omega
 clear hs5 bm0
 unfold clV at *
 generalize c.bs.length=nl at *
 refine callsIn_wide.1 (callsIn_of_wp_marks (F:=Fence.wide) (n:=0) func39 rfl trivial (wpIn_wide.2 ?_) rfl)
 simp only [ntmps39,List.size_toArray,List.length_cons,List.length_nil,Nat.reduceAdd,Nat.reduceSub,Array.replicate_succ,Array.replicate_zero,List.push_toArray,List.append_toArray,List.nil_append,List.cons_append]
 go_wp2_with fail
 clear hW5
 have bmd:=bm.drew
 have b1d:=b1.drew
 have r1:=b1.cell
 have HO5:=hd_ (HO.out W5.drew hB5.drew b1.drew)
 refine wp_mono (Q:=PanE refC [{ target:=.fn (.func 116) #[],args:=#[.pointer ↑(w.heap.size+3)] }] 4 5 (.pointer ↑(w.heap.size+2)) (.pointer ↑(w.heap.size+3)) 10 (fun W=>Below w.heap.size w W∧Blk W (w.heap.size+3) #[()] 31∧Blk W (w.heap.size+2) (spV (0,0)) 23)) ?_ ?_
 ·refine Zyx [(0,0),(1,0),(3,1),(2,2),(4,2),(5,2),(6,2)] (fun W=>Blk W (w.heap.size+1) #[i] 3) kr_ kr_ ?_ b1.drew ?_
  ·exact Qy
  go_wp2_with (first
   | (refine Za0 62 (.tmp 2) Zah rfl rfl rfl bmd rfl ?_)
   | (go_at_call 117;refine HO5.out.mono ?_;rintro e w6 ⟨T,mb,rfl,hb6,hOp,hT,hmb⟩;(try simp only [World.size_drew] at hT hmb);have hH6:=b1.drew.below hb6 b1.lt)
   | (go_at_call 120;refine (HWn.out hOp _ (Ln.start hOp)).mono ?_;rintro e w7 ⟨rfl,hW7,hl7⟩;exact ⟨rfl,rfl,rfl,rfl,Za3 (hB5.trans (hb6.undrew.mono om_)) hl7 (by have:=hb6.undrew.size;omega) (fun _ _ _=>om_),hl7.blk (b4.drew.below hb6 b4.lt) om_,hl7.blk (b3.drew.below hb6 b3.lt) om_⟩)
   | ((with_reducible refine Zye ?_);refine Zyq (ad:=⟨w.heap.size+1,0,none⟩) ↑i rfl rfl ?_ ?_;(focus (intro W hW;have r:=hW.cell;simp [go_sem,r];done));intro K hK)
   | (refine o_ ?_;intro K hK)|(with_reducible first|refine Zyo ?_ ?_|refine Zyj ?_|refine Zyf bn_ (fun _=>?_)))
 rintro e ⟨tm,ds⟩ w8 ⟨rfl,rfl,h4,h5,hb8,he8,hs8⟩
 refine Zal (v:=.tuple #[.agg (spV (0,0)),.int .i64 10]) Zcm (fun W=>by simp [go_sem]) rfl he8 fun w' hl hb=>⟨?_,rfl,Za3 hb8 hl nl_ (fun _ _ _=>om_)⟩
 exact Q23
theorem Zud (c:Cl) (ba:Option Addr) (bc:Nat) (i:Nat) (w:World) (hr:RowsAt w ba 3 Zbf c.bs) (hlen:c.bs.length≤9223372036854775807) (hk:clOk c=true) (hi:Zac c (i:Int)=true) (hib:i < c.bs.length) (hcan:canC c (Zag c.bs)=true) :
  Calls prog 39 #[.agg (clV c ba bc),i] w (Zat (.agg (spV (Zda c i))) ↑() w):=by
 have hmf:=hmf_ prog
 have HO:Hid (∀ W,Below w.heap.size w W→Blk W (w.heap.size+1) #[i] 3→Calls prog 117 #[.agg (clV c ba bc),.func (.func 118) #[] #[.pointer ↑(w.heap.size+1)]] W (fun e w'=>∃ T mb,e=.returned (.pointer (some ⟨T,0,none⟩))∧Below W.heap.size W w'∧Zb4 w' T c ba bc mb∧W.heap.size≤T∧W.heap.size≤mb)):=fun W hb b1 =>
  (Zeo c (Zac c (i:Int)) ba bc 118 #[.pointer ↑(w.heap.size+1)] W (hr.below hb) hlen (fun args W=>call118 args W) (fun w' T mb hb' hc hO=>Zk9 (i:Int) _ hc hO (b1.below hb' b1.lt))).mono fun e w' h=>Zdr h hk hi
 have HWn:Hid (∀ {W0:World}{T mb:Nat},Zb4 W0 T c ba bc mb→∀ W,Ln W0 mb c W→Calls prog 120 #[.pointer (some ⟨T,0,none⟩),i] W (Zcw W0 mb c (.agg (spV (Zda c i))) W)):=fun hO W hW=>Zk8 hO (Zar hk) i hib hcan W hW
 generalize Zda c i=S at *
 obtain ⟨s1,s2⟩:=S
 clear hr hlen hk hi hcan hib
 have bm0:Blk (w.alloc (.cells (clV c ba bc) 62)) w.heap.size (clV c ba bc) 62:=Blk.new _ _ _
 obtain ⟨W5,hW5⟩:∃ W5,((((w.alloc (.cells (clV c ba bc) 62)).alloc (.cells #[i] 3)).alloc (.cells #[(),()] 23)).alloc (.cells #[()] 31))=W5:=⟨_,rfl⟩
 have hB5:Below w.heap.size w W5:=by rw [← hW5];exact bel_
 have bm:Blk W5 w.heap.size (clV c ba bc) 62:=by rw [← hW5];exact ((bm0.alloc _).alloc _).alloc _
 have b1:Blk W5 (w.heap.size+1) #[i] 3:=by rw [← hW5];exact (((Blk.new' _ _ _ _ sp_).alloc _).alloc _)
 have b3:Blk W5 (w.heap.size+2) (spV (0,0)) 23:=by rw [← hW5];exact (Blk.new' _ _ _ _ sp_).alloc _
 have b4:Blk W5 (w.heap.size+3) #[()] 31:=by rw [← hW5];exact Blk.new' _ _ _ _ sp_
 have hs5:W5.heap.size=w.heap.size+4:=by rw [← hW5];simp
 have hs5a:W5.heap.size≤w.heap.size+4∧w.heap.size+4≤W5.heap.size:=by omega
 clear hs5 bm0
 unfold clV at *
 generalize c.bs.length=nl at *
 refine callsIn_wide.1 (callsIn_of_wp_marks (F:=Fence.wide) (n:=0) func39 rfl trivial (wpIn_wide.2 ?_) rfl)
 simp only [ntmps39,List.size_toArray,List.length_cons,List.length_nil,Nat.reduceAdd,Nat.reduceSub,Array.replicate_succ,Array.replicate_zero,List.push_toArray,List.append_toArray,List.nil_append,List.cons_append]
 go_wp2_with fail
 clear hW5
 have bmd:=bm.drew
 have b1d:=b1.drew
 have r1:=b1.cell
 have HO5:=hd_ (HO.out W5.drew hB5.drew b1.drew)
 have hH5:=b1.drew
 refine Zyu [(0,0),(1,0),(3,1),(2,2),(4,2),(5,2),(6,2)] (fun W=>Blk W (w.heap.size+1) #[i] 3) kr_ kr_ hH5 ?_
 go_wp2_with (first
   | (refine Za0 62 (.tmp 2) Zah rfl rfl rfl bmd rfl ?_)
   | (go_at_call 117;refine HO5.out.mono ?_;rintro e w6 ⟨T,mb,rfl,hb6,hOp,hT,hmb⟩;(try simp only [World.size_drew] at hT hmb);have hH6:=b1.drew.below hb6 b1.lt)
   | (go_at_call 120;refine (HWn.out hOp _ (Ln.start hOp)).mono ?_;rintro e w7 ⟨rfl,hW7,hl7⟩;have b3a:=hl7.blk (b3.drew.below hb6 b3.lt) om_;have b4a:=hl7.blk (b4.drew.below hb6 b4.lt) om_;have hH7:=hl7.blk hH6 om_)
   | (refine Za1 23 (.tmp 4) (.tmp 10) Zav rfl rfl rfl rfl b3a rfl rfl (by simp [spV,Value.oneCell']) ?_;intro wc hc;have b4c:=hc.other b4a om_;have r4c:=b4c.cell;have f4c:=b4c.free;have l4c:=b4c.lt;have hHc:=hc.other hH7 om_;have hHd:=hHc.other (p:=⟨w.heap.size+3,0,none⟩) sp_ ↑())
   | (with_reducible refine Zyp ?_)
   | ((with_reducible refine Zye ?_);refine Zyq (ad:=⟨w.heap.size+1,0,none⟩) ↑i rfl rfl ?_ ?_;(focus (intro W hW;have r:=hW.cell;simp [go_sem,r];done));intro K hK)
   | (refine o_ ?_;intro K hK)|(with_reducible first|refine Zyo ?_ ?_|refine Zyj ?_|refine Zyf bn_ (fun _=>?_)))
 obtain ⟨Wf,hWf⟩:∃ Wf,wc.setCell ⟨w.heap.size+3,0,none⟩ ↑()=Wf:=⟨_,rfl⟩
 have r3f:=(by rw [← hWf];exact (hc.blk).other (by simp only;omega) _:Blk Wf (w.heap.size+2) (spV (s1,s2)) 23).cell
 have r4f:=(by rw [← hWf];exact b4c.set 0 _:Blk Wf (w.heap.size+3) #[()] 31).cell
 have hlc:Lets (fun k _=>k=w.heap.size+2∨k=w.heap.size+3) w7 Wf:=by rw [← hWf];exact ((Lets.refl _ _).rowed hc (.inl rfl)).setCell (.inr rfl) _
 have hl6:Lets (fun k _=>w.heap.size≤k) w w6:=Lets.of_below (hB5.trans (hb6.undrew.mono om_))
 have hbf:Below w.heap.size w Wf:=((hl6.trans (hl7.mono fun _ _ e=>om_)).trans (hlc.mono fun _ _ e=>om_)).below nl_ (fun k hk e=>om_)
 change bodyPostM Fence.wide 0 prog _ _ .ret _ (wc.setCell ⟨w.heap.size+3,0,none⟩ ↑())
 rw [hWf]
 refine Zcd (pb:=w.heap.size+1+1+1) (v:=.tuple #[.agg (spV (s1,s2)),()]) Zcm (fun W=>by simp [go_sem]) rfl ?_ ⟨rfl,hbf⟩
 unfold spV at *
 simp [results,results39,go_sem,r3f,r4f]
theorem Zo9 (c:Cl) (i:Int):Zc6 c i=if errC c (Zac c i)=0 then (Zda c i.toNat,0) else ((0,0),errC c (Zac c i)):=by
 unfold Zc6 errC Zac
 by_cases h1:clOk c=false
 ·simp [h1]
 ·by_cases h2:i < 0∨(c.bs.length:Int)≤i
  ·have:¬ (0≤i∧i≤(c.bs.length:Int) - 1):=by omega
   have hb:=decide_eq_false this
   simp only [h1,h2,hb,if_false,if_true]
   simp
  ·have:0≤i∧i≤(c.bs.length:Int) - 1:=by omega
   have hb:=decide_eq_true this
   simp only [h1,h2,hb,if_false]
   cases canC c (Zag c.bs) <;> simp
theorem c_Wrong (c:Cl) (ba:Option Addr) (bc:Nat) (i:Int) (w:World) (hr:RowsAt w ba 3 Zbf c.bs) (hlen:c.bs.length≤9223372036854775807) :
  Calls prog 39 #[.agg (clV c ba bc),i] w (Zat (.agg (spV (Zc6 c i).1)) (.int .i64 (Zc6 c i).2) w):=by
 rw [Zo9]
 rcases Zi1 c (Zac c i) with ⟨h1,h2,-⟩ | ⟨hv,hi,hk,h2⟩ | ⟨hv,hi,hk,h2⟩
 ·rw [if_neg h2];exact Zpu c ba bc i w hr hlen h1
 ·rw [h2,if_neg sp_];exact Znw c ba bc i w hr hlen hv hi hk
 ·rw [if_pos h2]
  obtain ⟨n,rfl,hn⟩:=Zhw hi
  exact Zud c ba bc n w hr hlen hv hi hn hk
end Go.Proofs.YtbapgefodmmikaaGreatDoor
