/- Parts of a proof. -/
import Derived.Test.YtbapgefodmmikaaGreatDoorLMin
import Derived.Test.YtbapgefodmmikaaGreatDoorL23
set_option linter.unusedVariables false
set_option linter.unusedSimpArgs false
set_option maxHeartbeats 40000000
set_option maxRecDepth 100000
namespace Go.Proofs.YtbapgefodmmikaaGreatDoor
open Go.RowKit Go.Proofs Go.Ord Tryz
attribute [local irreducible] Ord.walk
def Zga (a b:Nat):Value:=.iface 166 (.agg #[a,b])
def Zf4 (a b:Nat):Value:=.iface 168 (.agg #[a,b])
def Zas (x:Nat × Nat × Int × Int):Array Value:=#[.int .i64 (x.1:Int),.int .i64 (x.2.1:Int),.int .i64 x.2.2.1,.int .i64 x.2.2.2]
section
variable {w:World}{Y:Nat}{t:Ty}{sa:Option Addr}{sc:Nat}{ca:Option Addr}{cc mb:Nat}
theorem YardAt.below (h:YardAt w Y t sa sc ca cc mb) {w':World}(hb:w w'):YardAt w' Y t sa sc ca cc mb:=⟨h.blk.below hb h.blk.lt,h.strays.below hb,h.calls.below hb⟩
theorem Zet (a b:Nat) (y:Value) (w:World) :
  Calls prog 353 #[.agg #[a,b],y] w (Zak (.agg (Zas (b,a,0,0))) w):=by
 go_enter func353,ntmps353
 go_wp2
 refine bodyPost_ret (v:=.agg (Zas (b,a,0,0))) ?_ rfl ⟨rfl,by exact bel_⟩
 simp [results,results353,go_sem]
 rfl
theorem Zgu (h:YardAt w Y t sa sc ca cc mb) (s:Nat) (hs:t.sh=(s:Int)) (a b:Nat) (ha:a≤6) (hb:b≤6) :
  Calls prog 354 #[.agg #[a,b],.pointer Y] w (Zak (.agg (Zas (Zbl s b,Zbl s a,0,0))) w):=by
 have HE:=hd_ (fun W=>Zet a b (.pointer Y) W)
 have HP:=hd_ (fun (n:Nat) (hn:n≤6) W (hW:Below w.heap.size w W)=>t_pens (h.below hW) s hs n hn)
 have HPd:Hid (∀ (n:Nat),n≤6→∀ W,Below w.heap.size w W→Calls prog 305 #[.pointer Y,.int .i64 (n:Int)] W (Same (.int .i64 (Zbl s n:Nat)) W)):=HP
 clear HP h
 generalize Zbl s=P at *
 have h0:w ((w.alloc (.cells #[a,b] 168)).alloc (.cells (Zas (0,0,0,0)) 270)):=by exact bel_
 have b40:Blk ((w.alloc (.cells #[a,b] 168)).alloc (.cells (Zas (0,0,0,0)) 270)) (w.heap.size+1) (Zas (0,0,0,0)) 270:=Blk.new' _ _ _ _ sp_
 have H0:=hd_ h0
 have B40:=hd_ b40
 clear h0 b40
 go_enter func354,ntmps354
 go_wp2_with (first
  | (go_at_call 353;refine (HE.out _).mono ?_;rintro e w2 ⟨rfl,hb2⟩;refine Za2 ?_))
 unfold Stop
 have hs2:=hb2.size
 have b42:=B40.out.below hb2 B40.out.lt
 have hB2:w w2:=H0.out.trans (hb2.mono (by simp;omega))
 clear hb2 hs2
 unfold Zas at *
 go_wp2_with fail
 obtain ⟨w3,hw3⟩:∃ w3,w2.alloc (.cells #[b,a,(),()] 270)=w3:=⟨_,rfl⟩
 have b43:Blk w3 (w.heap.size+1) (Zas (0,0,0,0)) 270:=by rw [← hw3];exact b42.alloc _
 have b53:Blk w3 w2.heap.size (Zas (b,a,0,0)) 270:=by rw [← hw3];exact Blk.new _ _ _
 have hB3:Below w.heap.size w w3:=by rw [← hw3];exact hB2.alloc hB2.size _
 have hne:w2.heap.size≠w.heap.size+1:=by have:=b42.lt;omega
 clear b42 hB2 H0 B40
 unfold Zas at *
 have r5:=b53.cell
 have f5:=b53.free
 have r4:=b43.cell
 have f4:=b43.free
 have l4:=b43.lt
 have l5:=b53.lt
 simp only at r5 r4
 rw [hw3]
 clear hw3
 have HPc:Hid (∀ (n:Nat),n≤6→Calls prog 305 #[.pointer Y,.int .i64 (n:Int)] w3.drew (Same (.int .i64 (P n:Nat)) w3.drew)):=fun n hn=>HPd.out n hn _ hB3.drew
 have HB3:=hd_ hB3
 have B43:=hd_ b43
 clear HPd hB3 b43 b53 HE
 generalize hp5:w2.heap.size=p5 at *
 generalize hN:w.heap.size=N at *
 refine Zyu [(0,0),(1,0),(2,0),(3,0),(4,0),(5,0),(6,0),(7,0),(8,0),(9,2)] (fun _=>True) kr_ kr_ trivial ?_
 go_wp2_with (first
  | (with_reducible refine Zyp ?_)
  | (refine o_ ?_;intro K hK)|(with_reducible first|refine Zyo ?_ ?_|refine Zyj ?_|refine Zyf bn_ (fun _=>?_))
  | ((with_reducible refine Zyg ?_);refine Zyv rfl (fun W=>call305 _ W) (HPc.out _ om_) (fun K hK=>?_)))
 have hbf:Below N w ((((w3.setCell ⟨N+1,0,none⟩ (.int .i64 (P b:Nat))).setCell ⟨N+1,1,none⟩ (.int .i64 (P a:Nat))).setCell ⟨N+1,2,none⟩ ↑()).setCell ⟨N+1,3,none⟩ ↑()).drew:=((((HB3.out.setCell sp_ _).setCell sp_ _).setCell sp_ _).setCell sp_ _).drew
 refine bodyPost_ret (v:=.agg (Zas (P b,P a,0,0))) (Za5 rfl _ Zkh rfl (((((B43.out.set 0 _).set 1 _).set 2 _).set 3 _).drew) rfl) rfl ⟨rfl,by rw [hN];exact hbf⟩
def Zk2 (s:Nat) (c:Int × Int × Int × Int):Value:=if c.1=0 then Zga c.2.1.toNat (c.2.1.toNat+1) else if c.1=1 then Zf4 c.2.1.toNat (c.2.1.toNat+1) else Zga 0 s
theorem callL_at (c:Int × Int × Int × Int):(Zcn c).toArray=#[.int .i64 c.1,.int .i64 c.2.1,.int .i64 c.2.2.1,.int .i64 c.2.2.2]:=rfl
theorem t_counts (h:YardAt w Y t sa sc ca cc mb) (s:Nat) (hs:t.sh=(s:Int)) (c:Int × Int × Int × Int) (hc:Zcv s c=true) (h5:s≤5) :
  Calls prog 306 #[.pointer Y,.agg (Zcn c).toArray] w (Zak (Zk2 s c) w):=by
 have r:=h.blk.cell
 have l:=h.blk.lt
 unfold Ze5 at r
 rw [hs] at r
 clear h hs
 rw [callL_at]
 obtain ⟨k,a,lo,hi⟩:=c
 simp only [Zcv,Bool.and_eq_true,Bool.or_eq_true,decide_eq_true_eq] at hc
 simp only [Zk2]
 generalize t.strays.length=n1 at *
 generalize t.calls.length=n2 at *
 by_cases h0:k=0
 ·subst h0
  obtain ⟨m,rfl⟩:∃ m:Nat,a=m:=⟨a.toNat,om_⟩
  have hm:(m:Int)≤4:=by omega
  clear hc
  go_enter func306,ntmps306
  go_wp2
  go_ret
  exact ⟨by simp [Zga],by exact bel_⟩
 by_cases h1:k=1
 ·subst h1
  obtain ⟨m,rfl⟩:∃ m:Nat,a=m:=⟨a.toNat,om_⟩
  have hm:(m:Int)≤4:=by omega
  clear hc
  go_enter func306,ntmps306
  go_wp2
  go_ret
  exact ⟨by simp [Zf4],by exact bel_⟩
 ·rw [if_neg h0,if_neg h1]
  clear hc
  go_enter func306,ntmps306
  go_wp2
  go_ret
  exact ⟨by simp [Zga],by exact bel_⟩
end
section
variable {w:World}{Y:Nat}{t:Ty}{sa:Option Addr}{sc:Nat}{ca:Option Addr}{cc mb:Nat}
theorem Zhm (h:YardAt w Y t sa sc ca cc mb) (a b:Nat) (lo hi:Int) (p:Nat) (hp:Blk w p #[.pointer Y] 161) :
  Calls prog 304 #[Zga a b,.agg #[lo,hi],.pointer p] w (Zak (.agg (Zas (b,a,lo,hi))) w):=by
 have HE:=hd_ (fun y W=>Zet a b y W)
 have rp:=hp.cell
 have lp:=hp.lt
 have hm : ∀ w, (method 551 166 (.agg #[.int .i64 (a : Int), .int .i64 (b : Int)]) "shearworks/tally.ends").run prog w = .ok (353, .agg #[.int .i64 (a : Int), .int .i64 (b : Int)]) w := fun _ => by kernel_rfl
 clear h
 unfold Zga
 have h0:Below w.heap.size w ((w.alloc (.cells #[lo,hi] 23)).alloc (.cells (Zas (0,0,0,0)) 270)):=by exact bel_
 have b40:Blk ((w.alloc (.cells #[lo,hi] 23)).alloc (.cells (Zas (0,0,0,0)) 270)) (w.heap.size+1) (Zas (0,0,0,0)) 270:=Blk.new' _ _ _ _ sp_
 have b30:Blk ((w.alloc (.cells #[lo,hi] 23)).alloc (.cells (Zas (0,0,0,0)) 270)) w.heap.size #[lo,hi] 23:=(Blk.new _ _ _).alloc _
 have H0:=hd_ h0
 have B40:=hd_ b40
 have B30:=hd_ b30
 clear h0 b40 b30 hp
 go_enter func304,ntmps304
 go_wp2_with (first
  | (go_at_call 353;refine (HE.out _ _).mono ?_;rintro e w2 ⟨rfl,hb2⟩;refine Za2 ?_))
 unfold Stop
 have hs2:=hb2.size
 have b42:=B40.out.below hb2 B40.out.lt
 have b32:=B30.out.below hb2 B30.out.lt
 have hB2:Below w.heap.size w w2:=H0.out.trans (hb2.mono (by simp;omega))
 have hlt2:w.heap.size+2≤w2.heap.size:=by have:=b42.lt;omega
 clear hb2 hs2 H0 B40 B30 rp lp hm HE
 unfold Zas at *
 generalize hN:w.heap.size=N at *
 have HN:=hd_ hN
 clear hN
 have r3:=b32.cell
 have l3:=b32.lt
 have r4:=b42.cell
 have f4:=b42.free
 have l4:=b42.lt
 have B42:=hd_ b42
 clear b42 b32
 generalize hp5:w2.heap.size=p5 at *
 go_wp2_with fail
 have hbf:Below N w (((((w2.setCell ⟨N+1,0,none⟩ (.int .i64 (b:Nat))).setCell ⟨N+1,1,none⟩ (.int .i64 (a:Nat))).setCell ⟨N+1,2,none⟩ ↑lo).setCell ⟨N+1,3,none⟩ ↑hi).alloc (.cells #[.int .i64 (b:Nat),.int .i64 (a:Nat),lo,hi] 270)):=((((hB2.setCell sp_ _).setCell sp_ _).setCell sp_ _).setCell sp_ _).alloc (by simp;omega) _
 refine bodyPost_ret (v:=.agg (Zas (b,a,lo,hi))) (Za5 rfl _ Zkh rfl (((((B42.out.set 0 _).set 1 _).set 2 _).set 3 _).alloc _) rfl) rfl ⟨rfl,by rw [HN.out];exact hbf⟩
theorem Zjb (h:YardAt w Y t sa sc ca cc mb) (s:Nat) (hs:t.sh=(s:Int)) (a b:Nat) (ha:a≤6) (hb:b≤6) (lo hi:Int) (p:Nat) (hp:Blk w p #[.pointer Y] 161) :
  Calls prog 304 #[Zf4 a b,.agg #[lo,hi],.pointer p] w (Zak (.agg (Zas (Zbl s b,Zbl s a,lo,hi))) w):=by
 have HE:=hd_ (fun W (hW:Below w.heap.size w W)=>Zgu (h.below hW) s hs a b ha hb)
 generalize Zbl s b=PB at *
 generalize Zbl s a=PA at *
 have rp:=hp.cell
 have lp:=hp.lt
 have hm : ∀ w, (method 551 168 (.agg #[.int .i64 (a : Int), .int .i64 (b : Int)]) "shearworks/tally.ends").run prog w = .ok (354, .agg #[.int .i64 (a : Int), .int .i64 (b : Int)]) w := fun _ => by kernel_rfl
 clear h
 unfold Zf4
 have h0:Below w.heap.size w ((w.alloc (.cells #[lo,hi] 23)).alloc (.cells (Zas (0,0,0,0)) 270)):=by exact bel_
 have b40:Blk ((w.alloc (.cells #[lo,hi] 23)).alloc (.cells (Zas (0,0,0,0)) 270)) (w.heap.size+1) (Zas (0,0,0,0)) 270:=Blk.new' _ _ _ _ sp_
 have b30:Blk ((w.alloc (.cells #[lo,hi] 23)).alloc (.cells (Zas (0,0,0,0)) 270)) w.heap.size #[lo,hi] 23:=(Blk.new _ _ _).alloc _
 have H0:=hd_ h0
 have B40:=hd_ b40
 have B30:=hd_ b30
 clear h0 b40 b30 hp
 go_enter func304,ntmps304
 go_wp2_with (first
  | (go_at_call 354;refine (HE.out _ bel_).mono ?_;rintro e w2 ⟨rfl,hb2⟩;refine Za2 ?_))
 unfold Stop
 have hs2:=hb2.size
 have b42:=B40.out.below hb2 B40.out.lt
 have b32:=B30.out.below hb2 B30.out.lt
 have hB2:Below w.heap.size w w2:=H0.out.trans (hb2.mono (by simp;omega))
 have hlt2:w.heap.size+2≤w2.heap.size:=by have:=b42.lt;omega
 clear hb2 hs2 H0 B40 B30 rp lp hm HE
 unfold Zas at *
 generalize hN:w.heap.size=N at *
 have HN:=hd_ hN
 clear hN
 have r3:=b32.cell
 have l3:=b32.lt
 have r4:=b42.cell
 have f4:=b42.free
 have l4:=b42.lt
 have B42:=hd_ b42
 clear b42 b32
 generalize hp5:w2.heap.size=p5 at *
 go_wp2_with fail
 have hbf:Below N w (((((w2.setCell ⟨N+1,0,none⟩ (.int .i64 (PB:Nat))).setCell ⟨N+1,1,none⟩ (.int .i64 (PA:Nat))).setCell ⟨N+1,2,none⟩ ↑lo).setCell ⟨N+1,3,none⟩ ↑hi).alloc (.cells #[.int .i64 (PB:Nat),.int .i64 (PA:Nat),lo,hi] 270)):=((((hB2.setCell sp_ _).setCell sp_ _).setCell sp_ _).setCell sp_ _).alloc (by simp;omega) _
 refine bodyPost_ret (v:=.agg (Zas (PB,PA,lo,hi))) (Za5 rfl _ Zkh rfl (((((B42.out.set 0 _).set 1 _).set 2 _).set 3 _).alloc _) rfl) rfl ⟨rfl,by rw [HN.out];exact hbf⟩
end
section
variable {α:Type}(f g:Nat→α)
theorem Zf5 (n:Nat):((List.range n).flatMap fun i=>[f i,g i]).length=2 * n:=by
 induction n with
 | zero=>rfl
 | succ n ih=>rw [List.range_succ,List.flatMap_append,List.length_append,ih];simp;omega
theorem flat2_at (n i:Nat) (h:i < n):((List.range n).flatMap fun i=>[f i,g i])[2 * i]? = some (f i)∧((List.range n).flatMap fun i=>[f i,g i])[2 * i+1]? = some (g i):=by
 induction n with
 | zero=>omega
 | succ n ih =>
  have hl:=Zf5 f g n
  rw [List.range_succ,List.flatMap_append]
  by_cases hi:i < n
  ·rw [List.getElem?_append_left om_,List.getElem?_append_left om_]
   exact ih hi
  ·obtain rfl:i=n:=by omega
   rw [List.getElem?_append_right om_,List.getElem?_append_right om_,hl]
   simp
end
def Zng (set:Nat) (c:(Int × Int × Int × Int) × Nat):Bool:=set.testBit c.2
def cntB (t:Ty) (set k:Nat):Nat:=cntF (Zng set) t.calls.zipIdx k
section
variable (t:Ty) (set s:Nat) (hs:t.sh=(s:Int))
include hs
theorem Zdt:Zb7 t set=((List.range s).flatMap fun i=>[(i+1,i,(0:Int),t.most),(Zbl s (i+1),Zbl s i,0,65536)]) ++
  ((t.strays.zipIdx.map fun x=>(x.2+1,Zbl s (x.2+1),x.1.1,x.1.2)) ++ ((t.calls.zipIdx.filter (Zng set)).map fun c=>Zpp s c.1)):=by
 unfold Zb7
 rw [hs]
 simp only [Int.toNat_natCast,List.append_assoc]
 rfl
theorem Zro:(Zb7 t set).length=2 * s+t.strays.length+(t.calls.zipIdx.filter (Zng set)).length:=by
 rw [Zdt t set s hs,List.length_append,List.length_append,Zf5]
 simp [List.length_zipIdx]
 omega
theorem Zkb (i:Nat) (hi:i < s):(Zb7 t set)[2 * i]? = some (i+1,i,(0:Int),t.most)∧(Zb7 t set)[2 * i+1]? = some (Zbl s (i+1),Zbl s i,(0:Int),65536):=by
 rw [Zdt t set s hs]
 have hl:=Zf5 (fun i=>(i+1,i,(0:Int),t.most)) (fun i=>(Zbl s (i+1),Zbl s i,(0:Int),(65536:Int))) s
 have:=flat2_at (fun i=>(i+1,i,(0:Int),t.most)) (fun i=>(Zbl s (i+1),Zbl s i,(0:Int),(65536:Int))) s i hi
 rw [List.getElem?_append_left om_,List.getElem?_append_left om_]
 exact this
theorem Zrn (i:Nat) (hi:i < t.strays.length):(Zb7 t set)[2 * s+i]? = some (i+1,Zbl s (i+1),(t.strays[i]).1,(t.strays[i]).2):=by
 rw [Zdt t set s hs]
 have hl:=Zf5 (fun i=>(i+1,i,(0:Int),t.most)) (fun i=>(Zbl s (i+1),Zbl s i,(0:Int),(65536:Int))) s
 rw [List.getElem?_append_right om_,hl,List.getElem?_append_left (by simp;omega)]
 simp [show 2 * s+i - 2 * s=i by omega,hi]
theorem Zhd (k:Nat) (hk:k < t.calls.length) (hb:set.testBit k=true):(Zb7 t set)[2 * s+t.strays.length+cntB t set k]? = some (Zpp s t.calls[k])∧cntB t set (k+1)=cntB t set k+1:=by
 have hkz:k < t.calls.zipIdx.length:=by simpa using hk
 obtain ⟨h1,h2,h3⟩:=Zno (Zng set) t.calls.zipIdx hkz (by simpa [Zng] using hb)
 refine ⟨?_,h1⟩
 rw [Zdt t set s hs]
 have hl:=Zf5 (fun i=>(i+1,i,(0:Int),t.most)) (fun i=>(Zbl s (i+1),Zbl s i,(0:Int),(65536:Int))) s
 rw [List.getElem?_append_right om_,hl,List.getElem?_append_right (by simp;omega)]
 have e:2 * s+t.strays.length+cntB t set k - 2 * s - (t.strays.zipIdx.map fun x=>(x.2+1,Zbl s (x.2+1),x.1.1,x.1.2)).length=cntB t set k:=by simp;omega
 rw [e,List.getElem?_map]
 unfold cntB
 rw [List.getElem?_eq_getElem h2,h3]
 simp
end
theorem cntB_no (t:Ty) (set k:Nat) (hk:k < t.calls.length) (hb:set.testBit k=false):cntB t set (k+1)=cntB t set k :=
 Zrg (Zng set) t.calls.zipIdx (by simpa using hk) (by simpa [Zng] using hb)
theorem cntB_all (t:Ty) (set:Nat):cntB t set t.calls.length=(t.calls.zipIdx.filter (Zng set)).length:=by
 have:=Znp (Zng set) t.calls.zipIdx
 rwa [List.length_zipIdx] at this
theorem Zxb (t:Ty) (set:Nat):cntB t set 0=0:=Zk5 _ _
end Go.Proofs.YtbapgefodmmikaaGreatDoor
namespace Go.OrdI
open Go.Ord
variable {P:Program}{ops:Array Oper}{Q:Exit→Act→World→Prop}{H:World→Prop}{eff:Nat→Bool}{C:World→Prop}
theorem wpIn_of_wp {o:Oper}{a:Act}{w:World}{K:Act→World→Prop}(h:o.wp P a w K Q):o.wpIn Fence.wide 0 P a w K Q:=by
 unfold Oper.wpIn
 refine ⟨fun f _=>trivial,?_⟩
 rw [show Fence.wide.round=none from rfl,Oper.semAt_none]
 unfold Oper.wp at h
 generalize (execOp a.eval o).run P w=r at h
 cases r with
 | ok n w' =>
  cases n <;> simp only [Oper.upon,Oper.uponIn] at h ⊢
  case value=>exact h
  case skip=>exact h
  case defer=>exact h
  case enter=>exact ⟨fun h=>by simp [Fence.wide] at h,callsIn_wide.2 h⟩
  case row=>exact ⟨fun h=>by simp [Fence.wide] at h,fun c cs hr=>(let ⟨v,w',r,s⟩:=h c cs;⟨v,w',r,stepsIn_wide.2 s⟩)⟩
 | halt x w'=>cases x <;> simp only [Oper.upon,Oper.uponIn] at h ⊢ <;> exact h
def op (P:Program) (ops:Array Oper) (eff:Nat→Bool) (H:World→Prop) (Q:Exit→Act→World→Prop) (i:Nat) (K:Act→World→Prop) (a:Act) (w:World):Prop :=
 match ops[i]? with
 | none=>K a w
 | some o=>if Region.wanted o (yielded ops a.tmps) then
   (if eff i then o.wpIn Fence.wide 0 P a w (fun a' w'=>H w'∧K a' w') Q
    else ∃ v,Zyr P o a w v∧K (a.put o.dst v) w)
  else K (a.put o.dst undef) w
theorem op_mono {i:Nat}{a:Act}{w:World}{K K':Act→World→Prop}(h:∀ a w,K a w→K' a w) (hh:op P ops eff H Q i K a w):op P ops eff H Q i K' a w:=by
 unfold op at *
 split
 ·rename_i ho;simp only [ho] at hh;exact h _ _ hh
 ·rename_i o ho
  simp only [ho] at hh
  split
  ·rename_i hw
   simp only [hw,if_true] at hh
   split
   ·rename_i he
    simp only [he,if_true] at hh
    exact Oper.wpIn_mono (fun a w ⟨h1,h2⟩=>⟨h1,h _ _ h2⟩) hh
   ·exact Q3n
  ·rename_i hw;simp only [hw] at hh;exact h _ _ hh
def any (P:Program) (ops:Array Oper) (eff:Nat→Bool) (H:World→Prop) (Q:Exit→Act→World→Prop):Nat→Array Bool→Act→World→Prop
 | 0,listed,a,w=>Region.ready .any ops listed=[]∧Q .normal a w
 | fuel+1,listed,a,w =>
  (Region.ready .any ops listed=[]→Q .normal a w) ∧
  ∀ i∈Region.ready .any ops listed,op P ops eff H Q i (any P ops eff H Q fuel (listed.setIfInBounds i true)) a w
theorem Zoa {i:Nat}{K K':Act→World→Prop}{a:Act}{w:World}(h:∀ a w,K a w→K' a w) (hh:op P ops eff H Q i K a w):wpOpIn Fence.wide 0 P ops Q i K' a w:=by
 unfold op at hh
 unfold wpOpIn
 split
 ·rename_i ho;simp only [ho] at hh;exact h _ _ hh
 ·rename_i o ho
  simp only [ho] at hh
  split
  ·rename_i hw
   simp only [hw,if_true] at hh
   split at hh
   ·exact Oper.wpIn_mono (fun a w hk=>h _ _ hk.2) hh
   ·obtain ⟨v,h1,h2⟩:=hh
    refine wpIn_of_wp ?_
    exact Qe
  ·rename_i hw;simp only [hw] at hh;exact ⟨fun f _=>trivial,h _ _ hh⟩
theorem Zg9:∀ (fuel:Nat) (listed:Array Bool) (a:Act) (w:World),any P ops eff H Q fuel listed a w→wpAnyIn Fence.wide 0 P .any ops Q fuel listed a w
 | 0,_,_,_,h=>h
 | fuel+1,_,_,_,h=>⟨h.1,fun i hi=>Zoa (fun a w=>Zg9 fuel _ a w) (h.2 i hi)⟩
theorem ylop {i:Nat}{o:Oper}{v:Value}{a:Act}{w:World}(hi:ops[i]? = some o) (he:eff i=false) (hw:C w) (hy:Yl P ops C o v a) {K:Act→World→Prop}(h:K (a.put o.dst v) w) :
  OrdI.op P ops eff H Q i K a w:=by
 unfold OrdI.op
 exact Q14
theorem op_put {j:Nat}{oi oj:Oper}{v:Value}(hj:ops[j]? = some oj) (hap:oi.apart ops oj=true)
  (hsi:∀ cs b,oi.op≠.select cs b) (hsj:∀ cs b,oj.op≠.select cs b) (hQ:∀ c a w,Q (.panic c) (a.put oi.dst v) w→Q (.panic c) a w) {K:Act→World→Prop}{a:Act}{w:World}
  (hy:Yl P ops C oi v a) (h:op P ops eff H Q j K (a.put oi.dst v) w) :
  op P ops eff H Q j (fun a' w'=>Yl P ops C oi v a'∧K (a'.put oi.dst v) w') a w:=by
 obtain ⟨h1,h2,h3⟩:=Oper.apart_spec hap
 have keep:∀ (a:Act),Yl P ops C oi v a→∀ u,Yl P ops C oi v (a.put oj.dst u):=fun a hy u =>
  hy.of_same (execOp_put oi hsi a oj.dst u h3) (wanted_put oi a oj.dst u h3)
 unfold op at *
 simp only [hj] at *
 rw [wanted_put oj a oi.dst v h1] at h
 split
 ·rename_i hw
  simp only [hw,if_true] at h
  split
  ·rename_i he
   simp only [he,if_true] at h
   unfold Oper.wpIn at *
   refine ⟨fun f _=>trivial,?_⟩
   have h:=h.2
   rw [show Fence.wide.round=none from rfl,Oper.semAt_none,execOp_put oj hsj a oi.dst v h1] at h
   rw [show Fence.wide.round=none from rfl,Oper.semAt_none]
   generalize (execOp a.eval oj).run P w=r at *
   cases r with
   | ok n w' =>
    cases n <;> simp only [Oper.uponIn] at h ⊢
    case value u=>exact ⟨h.1,keep a hy u,by rw [← Act.put_comm a v u h2];exact h.2⟩
    case skip=>exact ⟨h.1,keep a hy _,by rw [← Act.put_comm a v undef h2];exact h.2⟩
    case defer d =>exact Q3h
    case enter f args =>
     refine ⟨h.1,CallsIn.mono h.2 fun e w'' hk=>?_⟩
     exact Q3c
    case row row args=>exact ⟨h.1,RowsIn.mono h.2 fun u w'' hk=>⟨hk.1,keep a hy u,by rw [← Act.put_comm a v u h2];exact hk.2⟩⟩
    case round l f tmps assign body =>
     refine ⟨h.1,RoundIn.mono h.2 fun e w'' hk=>?_⟩
     exact Q3c
   | halt x w' =>
    cases x <;> simp only [Oper.uponIn] at h ⊢
    case panic u=>exact hQ _ _ _ h
  ·exact Q3j
 ·exact Q3m
theorem any_first {i:Nat}{oi:Oper}{v:Value}(hi:ops[i]? = some oi) (he:eff i=false) (hsel:∀ (j:Nat) (o:Oper) cs b,ops[j]? = some o→o.op≠.select cs b)
  (hQ:∀ c a w,Q (.panic c) (a.put oi.dst v) w→Q (.panic c) a w) :
  ∀ (fuel:Nat) (listed:Array Bool) (a:Act) (w:World),H w →
   (∀ j oj,ops[j]? = some oj→j≠i→listed.getD j true=false→(∀ e∈oj.after,Region.binds .any e=true→e.on≠i)→oi.apart ops oj=true) →
   i∈Region.ready .any ops listed→Yl P ops H oi v a →
   any P ops eff H Q fuel (listed.setIfInBounds i true) (a.put oi.dst v) w→any P ops eff H Q (fuel+1) listed a w:=by
 intro fuel
 induction fuel with
 | zero =>
  intro listed a w hw _ hr hy h
  refine ⟨fun h0=>(by rw [h0] at hr;cases hr),fun j hj=>?_⟩
  by_cases hji:j=i
  ·subst hji;exact ylop hi he hw hy h
  ·have:=ready_mono hj hji
   rw [h.1] at this
   cases this
 | succ fuel ih =>
  intro listed a w hw hfree hr hy h
  refine ⟨fun h0=>(by rw [h0] at hr;cases hr),fun j hj=>?_⟩
  by_cases hji:j=i
  ·subst hji;exact ylop hi he hw hy h
  ·have h1:=h.2 j (ready_mono hj hji)
   obtain ⟨hjun,oj,hoj,hall⟩:=mem_ready.1 hj
   have hnot:=Ze8 hr hoj hall
   have h2:=op_put hoj (hfree j oj hoj hji hjun hnot) (fun cs b=>hsel i oi cs b hi) (fun cs b=>hsel j oj cs b hoj) hQ hy h1
   have hfree':∀ k ok,ops[k]? = some ok→k≠i→(listed.setIfInBounds j true).getD k true=false →
     (∀ e∈ok.after,Region.binds .any e=true→e.on≠i)→oi.apart ops ok=true:=fun k ok hk hki hun hno=>by exact Q39
   have hH:op P ops eff H Q j (fun a' w'=>H w'∧Yl P ops H oi v a'∧any P ops eff H Q fuel ((listed.setIfInBounds i true).setIfInBounds j true) (a'.put oi.dst v) w') a w:=by
    revert h2
    unfold op
    simp only [hoj]
    intro h2
    split
    ·rename_i hwt
     simp only [hwt,if_true] at h2
     split
     ·rename_i hef
      simp only [hef,if_true] at h2
      exact Oper.wpIn_mono (fun a w hk=>⟨hk.1,hk.1,hk.2⟩) h2
     ·exact Q1n
    ·rename_i hwt
     simp only [hwt] at h2
     exact ⟨hw,h2⟩
   exact Q1t
theorem any_calm {i:Nat}{oi:Oper}{v:Value}{w:World}{L:Array Bool}(hi:ops[i]? = some oi) (he:eff i=false) (hsel:∀ (j:Nat) (o:Oper) cs b,ops[j]? = some o→o.op≠.select cs b)
  (hQ:∀ c a w,Q (.panic c) (a.put oi.dst v) w→Q (.panic c) a w) :
  ∀ (fuel:Nat) (listed:Array Bool) (a:Act),Ord.Calm ops eff i L listed →
   (∀ j oj,ops[j]? = some oj→j≠i→listed.getD j true=false→(∀ e∈oj.after,Region.binds .any e=true→e.on≠i)→oi.apart ops oj=true) →
   i∈Region.ready .any ops listed→Yl P ops (· = w) oi v a →
   any P ops eff H Q fuel (listed.setIfInBounds i true) (a.put oi.dst v) w→any P ops eff H Q (fuel+1) listed a w:=by
 intro fuel
 induction fuel with
 | zero =>
  intro listed a _ _ hr hy h
  refine ⟨fun h0=>(by rw [h0] at hr;cases hr),fun j hj=>?_⟩
  by_cases hji:j=i
  ·subst hji;exact ylop (C:=(· = w)) hi he rfl hy h
  ·have:=ready_mono hj hji
   rw [h.1] at this
   cases this
 | succ fuel ih =>
  intro listed a hc hfree hr hy h
  refine ⟨fun h0=>(by rw [h0] at hr;cases hr),fun j hj=>?_⟩
  by_cases hji:j=i
  ·subst hji;exact ylop (C:=(· = w)) hi he rfl hy h
  ·exact Q8
theorem any_of_part (F:Nat) {R:Act→World→Prop}{m:Nat}{L:Array Bool}(hs:Region.noSelect ops=true) (hO:¬ LetsOut Q) (hQ:∀ c a d v w,(∃ o,o∈ops∧o.dst=d)→Q (.panic c) (a.put d v) w→Q (.panic c) a w)
  (hR:∀ a w,H w→R a w→any P ops eff H Q m L a w):∀ (l:List (Nat × Nat)) (listed:Array Bool) (a:Act) (w:World),listed.size=ops.size→H w →
  Zd4 F ops eff l listed=some L→walk P ops H (Qn Q R) l a w→any P ops eff H Q (l.length+m) listed a w
 | [],listed,a,w,_,hw,hB,h=>by exact Q1i
 | (k,c) :: l,listed,a,w,hsz,hw,hB,h=>by
  rw [Zd4] at hB
  split at hB
  ·rename_i hb
   unfold okP at hb
   rw [walk] at h
   cases ho:ops[k]? with
   | none=>simp only [ho] at h
   | some o =>
    simp only [ho] at h
    have hsz':(listed.setIfInBounds k true).size=ops.size:=by simp [hsz]
    have ih:∀ a w,H w→walk P ops H (Qn Q R) l a w→any P ops eff H Q (l.length+m) (listed.setIfInBounds k true) a w:=fun a w h1 h2=>any_of_part F hs hO hQ hR l _ a w hsz' h1 hB h2
    have hlen:((k,c) :: l).length+m=l.length+m+1:=by simp;omega
    rw [hlen]
    cases he:eff k with
    | true =>
     simp only [he,if_true,Bool.and_eq_true,beq_iff_eq,decide_eq_true_eq] at hb
     obtain ⟨rfl,hr⟩:=hb
     refine ⟨fun h0=>(by rw [h0] at hr;cases hr),fun j hj=>?_⟩
     rw [hr] at hj
     have hjk:j=k:=by simpa using hj
     subst hjk
     unfold op
     simp only [ho,he,if_true]
     split
     ·rename_i hwt
      simp only [hwt,if_true] at h
      rcases h with h|h
      ·exact wpIn_of_wp (Two.wp_qn (Oper.wp_mono (fun a w hk=>⟨hk.1,ih a w hk.1 hk.2⟩) h))
      ·exact absurd (Zfr h.2) hO
     ·rename_i hwt
      simp only [hwt] at h
      exact ih _ _ hw h
    | false =>
     simp only [he,Bool.false_eq_true,if_false,Bool.and_eq_true,Bool.or_eq_true,beq_iff_eq,decide_eq_true_eq] at hb
     obtain ⟨hc2,hone | ⟨⟨hr,hf⟩,hcc⟩⟩:=hb
     ·exact Q5
     have hr':k∈Region.ready .any ops listed:=by simpa using hr
     by_cases hwt:Region.wanted o (yielded ops a.tmps)=true
     ·simp only [hwt,if_true] at h
      match c,hc2,h with
      | 0,_,h =>
       obtain ⟨v,h1,h2⟩:=h
       have hcalm:Znq F ops eff k listed=true:=hcc.resolve_left sp_
       obtain ⟨L',hL⟩:=Zfu hsz hcalm
       exact any_calm ho he (Region.noSelect_spec hs) (fun c a w=>hQ c a _ _ w ⟨o,Array.mem_of_getElem? ho,rfl⟩) (l.length+m) listed a hL (Region.free_spec ho hf) hr' (.inl ⟨hwt,fun w' e=>by subst e;exact h1⟩) (ih _ _ hw h2)
      | 1,_,h =>
       obtain ⟨v,h1,h2⟩:=h
       exact any_first ho he (Region.noSelect_spec hs) (fun c a w=>hQ c a _ _ w ⟨o,Array.mem_of_getElem? ho,rfl⟩) (l.length+m) listed a w hw (Region.free_spec ho hf) hr' (.inl ⟨hwt,h1⟩) (ih _ _ hw h2)
      | (n+2),hc2,_=>exact absurd hc2 om_
     ·have hwt':Region.wanted o (yielded ops a.tmps)=false:=by simpa using hwt
      simp only [hwt',Bool.false_eq_true,if_false] at h
      exact any_first ho he (Region.noSelect_spec hs) (fun c a w=>hQ c a _ _ w ⟨o,Array.mem_of_getElem? ho,rfl⟩) (l.length+m) listed a w hw (Region.free_spec ho hf) hr' (.inr ⟨hwt',rfl⟩) (ih _ _ hw h)
  ·cases hB
def Rd (P:Program) (ops:Array Oper) (H:World→Prop) (Q:Exit→Act→World→Prop) (k:Nat) (K:Act→World→Prop) (a:Act) (w:World):Prop :=
 match ops[k]? with
 | none=>False
 | some o=>if Region.wanted o (yielded ops a.tmps)=true then o.wpIn Fence.wide 0 P a w (fun a' w'=>H w'∧K a' w') Q else K (a.put o.dst undef) w
def Zqh (P:Program) (ops:Array Oper) (H:World→Prop) (Q:Exit→Act→World→Prop) (last:List (Nat × Nat)):List (List (Nat × Nat) × Nat)→Act→World→Prop
 | [],a,w=>Ord.walk P ops H Q last a w
 | (l,k) :: r,a,w=>Ord.walk P ops H (Qn Q (Rd P ops H Q k (Zqh P ops H Q last r))) l a w
def lenS (last:List (Nat × Nat)):List (List (Nat × Nat) × Nat)→Nat
 | []=>last.length
 | (l,k) :: r=>l.length+(lenS last r+1)
def effS (last:List (Nat × Nat)):List (List (Nat × Nat) × Nat)→Nat→Bool
 | [],i=>last.any fun (k,c)=>k == i && c == 2
 | (l,k) :: r,i=>(l.any fun (k,c)=>k == i && c == 2) || k == i || effS last r i
def Zvp (F:Nat) (ops:Array Oper) (eff:Nat→Bool) (last:List (Nat × Nat)):List (List (Nat × Nat) × Nat)→Array Bool→Bool
 | [],listed=>(Zd4 F ops eff last listed).elim false fun L=>decide (Region.ready .any ops L=[])
 | (l,k) :: r,listed=>(Zd4 F ops eff l listed).elim false fun L=>eff k && decide (Region.ready .any ops L=[k]) && Zvp F ops eff last r (L.setIfInBounds k true)
theorem Zfi (F:Nat) (hs:Region.noSelect ops=true) (hO:¬ LetsOut Q) (hQ:∀ c a d v w,(∃ o,o∈ops∧o.dst=d)→Q (.panic c) (a.put d v) w→Q (.panic c) a w) (last:List (Nat × Nat)):∀ (r:List (List (Nat × Nat) × Nat)) (listed:Array Bool) (a:Act) (w:World),listed.size=ops.size→H w →
  Zvp F ops eff last r listed=true→Zqh P ops H Q last r a w→any P ops eff H Q (lenS last r) listed a w
 | [],listed,a,w,hsz,hw,hB,h=>by
  rw [Zvp] at hB
  cases hp:Zd4 F ops eff last listed with
  | none=>rw [hp] at hB;cases hB
  | some L =>
   rw [hp] at hB
   exact any_of_part (m:=0) F hs hO hQ (fun a w _ h=>⟨by simpa using hB,h⟩) last listed a w hsz hw hp (Zqg last h)
 | (l,k) :: r,listed,a,w,hsz,hw,hB,h=>by
  rw [Zvp] at hB
  cases hp:Zd4 F ops eff l listed with
  | none=>rw [hp] at hB;cases hB
  | some L =>
   rw [hp] at hB
   simp only [Option.elim,Bool.and_eq_true,decide_eq_true_eq] at hB
   obtain ⟨⟨he,hr⟩,hB⟩:=hB
   have hLs:L.size=ops.size:=(Zfo l _ _ hp).trans hsz
   refine any_of_part (m:=lenS last r+1) F hs hO hQ (fun a w hw hrd=>?_) l listed a w hsz hw hp h
   refine ⟨fun h0=>(by rw [h0] at hr;cases hr),fun j hj=>?_⟩
   rw [hr] at hj
   have hjk:j=k:=by simpa using hj
   subst hjk
   unfold Rd at hrd
   unfold op
   split
   ·rename_i ho;simp only [ho] at hrd
   ·rename_i o ho
    simp only [ho] at hrd
    split
    ·rename_i hwt
     simp only [hwt,if_true] at hrd
     exact Oper.wpIn_mono (fun a w hk=>⟨hk.1,Zfi F hs hO hQ last r _ a w (by simp [hLs]) hk.1 hB hk.2⟩) hrd
    ·rename_i hwt
     simp only [hwt] at hrd
     exact Zfi F hs hO hQ last r _ _ w (by simp [hLs]) hw hB hrd
def Zqt (F:Nat) (ops:Array Oper) (r:List (List (Nat × Nat) × Nat)) (last:List (Nat × Nat)):Bool :=
 Region.noSelect ops && lenS last r == ops.size && Zvp F ops (effS last r) last r (Array.replicate ops.size false)
theorem Zob {id:Nat}{a:Act}{w:World}{lo:List Oper}(F:Nat) (r:List (List (Nat × Nat) × Nat)) (last:List (Nat × Nat)) (H:World→Prop) (hO:¬ LetsOut Q) (hm:P.follows .mixedOrders=true) (hp:Zqt F lo.toArray r last=true)
  (hQ:∀ c a d v w,(∃ o,o∈lo.toArray∧o.dst=d)→Q (.panic c) (a.put d v) w→Q (.panic c) a w) (hH:H w.drew) (h:Zqh P lo.toArray H Q last r a w.drew):(Code.region id lo.toArray true).wpIn Fence.wide 0 P Q a w:=by
 simp only [Zqt,Bool.and_eq_true,beq_iff_eq] at hp
 obtain ⟨⟨hs,hl⟩,hp⟩:=hp
 refine wpIn_region_any hm (Zg9 (H:=H) (eff:=effS last r) _ _ _ _ ?_)
 have h2:=Zfi F (H:=H) (eff:=effS last r) hs hO hQ last r (Array.replicate lo.toArray.size false) a _ sp_ hH hp h
 rw [hl] at h2
 exact h2
theorem walkS_cons {lo:List Oper}{l r k last} {a:Act}{w:World}(h:Ord.walk P lo.toArray H (Qn Q (Rd P lo.toArray H Q k (Zqh P lo.toArray H Q last r))) l a w):Zqh P lo.toArray H Q last ((l,k) :: r) a w:=h
theorem walkS_nil {lo:List Oper}{last} {a:Act}{w:World}(h:Ord.walk P lo.toArray H Q last a w):Zqh P lo.toArray H Q last [] a w:=h
theorem Zut {o:Oper}{a:Act}{w:World}{K R:Act→World→Prop}(h:o.wpIn Fence.wide 0 P a w K (Exit.then R Q)):o.wpIn Fence.wide 0 P a w K Q:=by
 unfold Oper.wpIn at *
 refine ⟨h.1,?_⟩
 have h:=h.2
 generalize (o.semAt Fence.wide.round a.eval).run P w=r at *
 cases r with
 | ok x w'=>cases x <;> simp only [Oper.uponIn] at h ⊢ <;> exact h
 | halt x w'=>cases x <;> simp only [Oper.uponIn] at h ⊢ <;> exact h
theorem rd_list {lo:List Oper}{k:Nat}{o:Oper}{K:Act→World→Prop}{a:Act}{w:World}(ho:lo[k]? = some o) (hw:H w) (h:∀ K',(∀ a w,H w→K a w→K' a w)→wpListIn Fence.wide 0 P lo.toArray (Exit.then K' Q) [o] a w):Rd P lo.toArray H Q k K a w:=by
 have:=h (fun a w=>H w∧K a w) (fun _ _ h1 h2=>⟨h1,h2⟩)
 unfold Rd
 simp only [Zie ho]
 simp only [wpListIn] at this
 split
 ·rename_i hh
  rw [if_pos hh] at this
  exact Oper.wpIn_mono (fun a w hk=>hk) (Zut this)
 ·rename_i hh
  rw [if_neg hh] at this
  exact this.2.2
theorem wpIn_regionSN {id:Nat}{a:Act}{w:World}{lo:List Oper}(F:Nat) (r:List (List (Nat × Nat) × Nat)) (last:List (Nat × Nat)) (H:World→Prop) (hm:P.follows .mixedOrders=true) (hp:Zqt F lo.toArray r last=true)
  (hH:H w.drew) (h:Zqh P lo.toArray H (Ord.Nm Q) last r a w.drew):(Code.region id lo.toArray true).wpIn Fence.wide 0 P Q a w:=by
 refine wpIn_wide.2 (wp_mono (wpIn_wide.1 (Zob (Q:=Ord.Nm Q) F r last H (fun ⟨_,_,h⟩=>h) hm hp (fun c a d v w _ h=>h.elim) hH h)) ?_)
 intro e a w h
 cases e <;> first|exact h|exact h.elim
end Go.OrdI
