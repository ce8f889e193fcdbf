/- Parts of a proof. -/
import Derived.Test.YtbapgefodmmikaaGreatDoorLMin
import Derived.Test.YtbapgefodmmikaaGreatDoorL22
import Derived.Lib.LaidTab
import Derived.Lib.ItoaMem
import Derived.Test.YtbapgefodmmikaaGreatDoorL22
set_option linter.unusedVariables false
set_option linter.unusedSimpArgs false
set_option maxHeartbeats 40000000
set_option maxRecDepth 100000
namespace Go.Proofs.YtbapgefodmmikaaGreatDoor
open Go.RowKit Go.Proofs Go.Ord Tryz
attribute [local irreducible] Ord.walk
def Zax (s:Int × Int):List Value:=[.int .i64 s.1,.int .i64 s.2]
def Zcn (c:Int × Int × Int × Int):List Value:=[.int .i64 c.1,.int .i64 c.2.1,.int .i64 c.2.2.1,.int .i64 c.2.2.2]
def tyV (t:Ty) (sa:Option Addr) (sc:Nat) (ca:Option Addr) (cc:Nat):Array Value:=#[t.sh,t.most,.slice sa t.strays.length sc,.slice ca t.calls.length cc]
def Ze5 (t:Ty) (sa:Option Addr) (sc:Nat) (ca:Option Addr) (cc mb:Nat):Array Value:=#[t.sh,t.most,.slice sa t.strays.length sc,.slice ca t.calls.length cc,.map (some mb)]
structure YardAt (w:World) (Y:Nat) (t:Ty) (sa:Option Addr) (sc:Nat) (ca:Option Addr) (cc mb:Nat):Prop where
 blk:Blk w Y (Ze5 t sa sc ca cc mb) 260
 strays:RowsAt w sa 2 Zax t.strays
 calls:RowsAt w ca 4 Zcn t.calls
theorem Zbh:Zdw prog 58 4:=⟨_,underlying58,rfl,by kernel_rfl⟩
theorem Zkh:Zdw prog 270 4:=⟨_,underlying270,rfl,by kernel_rfl⟩
theorem pow_len8 {n:Nat}(h:n≤8):(1:Int)≤2 ^ n∧(2:Int) ^ n≤256:=by
 rcases (show n=0∨n=1∨n=2∨n=3∨n=4∨n=5∨n=6∨n=7∨n=8 by omega) with rfl|rfl|rfl|rfl|rfl|rfl|rfl|rfl|rfl <;> decide
section
variable {w:World}{Y:Nat}{t:Ty}{sa:Option Addr}{sc:Nat}{ca:Option Addr}{cc mb:Nat}
theorem Zgg (h:YardAt w Y t sa sc ca cc mb) (hsh:1≤t.sh∧t.sh≤5) (n:Int) :
  Calls prog 108 #[.pointer Y,n] w (Same (.bool (decide (0≤n∧n≤t.sh - 1))) w):=by
 have r:=h.blk.cell
 have l:=h.blk.lt
 have H:=hd_ (Zix n 0 (t.sh - 1) w)
 generalize decide (0≤n∧n≤t.sh - 1)=v at *
 unfold Ze5 at r
 generalize t.sh=sh at *
 generalize t.strays.length=n1 at *
 generalize t.calls.length=n2 at *
 clear h
 go_enter func108,ntmps108
 go_wp2_with (first
  | (go_at_call 196;refine H.out.mono ?_;rintro e w2 ⟨rfl,rfl⟩))
 go_ret
 exact ⟨rfl,rfl⟩
theorem t_pens (h:YardAt w Y t sa sc ca cc mb) (s:Nat) (hs:t.sh=(s:Int)) (n:Nat) (hn:n≤6) :
  Calls prog 305 #[.pointer Y,n] w (Same (.int .i64 (Zbl s n:Nat)) w):=by
 have r:=h.blk.cell
 have l:=h.blk.lt
 unfold Ze5 at r
 rw [hs] at r
 generalize t.strays.length=n1 at *
 generalize t.calls.length=n2 at *
 clear h
 by_cases h0:n=0
 ·subst h0
  go_enter func305,ntmps305
  go_wp2
  go_ret
  exact ⟨rfl,rfl⟩
 have h0i:¬ (n:Int)=0:=by omega
 by_cases h1:n=s
 ·subst h1
  go_enter func305,ntmps305
  go_wp2
  go_ret
  exact ⟨by simp [Zbl],rfl⟩
 ·have h1i:¬ (n:Int)=(s:Int):=by omega
  have hp:Zbl s n=5+n:=by simp [Zbl,h0,h1]
  rw [hp]
  have hb0:((n:Int) == 0)=false:=by simpa using h0
  have hb1:((n:Int) == (s:Int))=false:=by simpa using h1i
  go_enter func305,ntmps305
  go_wp2
  go_ret
  refine ⟨Zdv om_,rfl⟩
theorem Zmu (h:YardAt w Y t sa sc ca cc mb) (hl:t.calls.length≤8) :
  Calls prog 205 #[.pointer Y] w (Same (.int .u64 (Zae t:Nat)) w):=by
 have r:=h.blk.cell
 have l:=h.blk.lt
 unfold Ze5 at r
 unfold Zae
 generalize t.strays.length=n1 at *
 generalize t.calls.length=n2 at *
 clear h
 have hp:(1:Int)≤2 ^ n2∧(2:Int) ^ n2≤256:=pow_len8 hl
 go_enter func205,ntmps205
 go_wp2
 go_ret
 refine ⟨Zdv ?_,rfl⟩
 clear r hp
 rcases (show n2=0∨n2=1∨n2=2∨n2=3∨n2=4∨n2=5∨n2=6∨n2=7∨n2=8 by omega) with rfl|rfl|rfl|rfl|rfl|rfl|rfl|rfl|rfl <;> rfl
theorem t_isCall (h:YardAt w Y t sa sc ca cc mb) (hsh:1≤t.sh∧t.sh≤5) (c:Int × Int × Int × Int) :
  Calls prog 198 #[.pointer Y,.agg (Zcn c).toArray] w (Zak (.bool (Zcv t.sh c)) w):=by
 have HI:=hd_ (fun W (hW:Below w.heap.size w W)=>Zgg (w:=W) ⟨h.blk.below hW h.blk.lt,h.strays.below hW,h.calls.below hW⟩ hsh c.2.1)
 have HS:=hd_ (fun a b lo hi W=>Zs8 a b lo hi W)
 have HW:=hd_ (fun n lo hi W=>Zix n lo hi W)
 obtain ⟨k,at_,a,b⟩:=c
 simp only [Zcn]
 obtain ⟨x1,e1⟩:∃ x,(k == 2)=x:=⟨_,rfl⟩
 obtain ⟨x2,e2⟩:∃ x,decide (0≤k∧k≤1)=x:=⟨_,rfl⟩
 obtain ⟨x3,e3⟩:∃ x,decide (0≤at_∧at_≤t.sh - 1)=x:=⟨_,rfl⟩
 obtain ⟨x4,e4⟩:∃ x,Zjh (a,b) 0 300=x:=⟨_,rfl⟩
 have hV:Zcv t.sh (k,at_,a,b)=((x1 || (x2 && x3)) && x4):=by
  rw [← e1,← e2,← e3,← e4]
  simp only [Zcv,Zjh]
  rfl
 rw [hV]
 simp only at HI
 have HI2:Hid (∀ W,Below w.heap.size w W→Calls prog 108 #[.pointer Y,at_] W (Same (.bool x3) W)):=fun W hW=>by have:=HI.out W hW;rwa [e3] at this
 have HW2:Hid (∀ W,Calls prog 196 #[k,(),.int .i64 1] W (Same (.bool x2) W)):=fun W=>by have:=HW.out k 0 1 W;rwa [e2] at this
 have HS2:Hid (∀ W,Calls prog 197 #[.agg #[.int .i64 a,.int .i64 b],(),.int .i64 300] W (Zak (.bool x4) W)):=fun W=>by have:=HS.out a b 0 300 W;rwa [e4] at this
 clear HI HS HW e2 e3 e4 hV h
 have hBw:w (w.alloc (.cells #[k,at_,.int .i64 a,.int .i64 b] 137)):=by exact bel_
 have HBw:=hd_ hBw
 clear hBw
 cases x1 <;> cases x2 <;> cases x3 <;> cases x4
 all_goals go_enter func198,ntmps198
 all_goals go_wp2_with (first
  | (go_at_call 196;refine (HW2.out _).mono ?_;rintro e w2 ⟨rfl,rfl⟩)
  | (go_at_call 108;refine (HI2.out _ bel_).mono ?_;rintro e w3 ⟨rfl,rfl⟩)
  | (go_at_call 197;refine (HS2.out _).mono ?_;rintro e w4 ⟨rfl,hb4⟩))
 all_goals go_ret
 all_goals (first|exact ⟨rfl,HBw.out⟩|exact ⟨rfl,HBw.out.trans (hb4.mono sp_)⟩)
end
def Zkm (e:Int):Value:=.iface 213 (.agg #[e])
def Zy6 (e:Int) (w:World) (x:Ending) (w':World):Prop:=x=.panicked [{ v:=Zkm e,recovered:=false }]∧w w'
def StopsOS (e:Int) (w:World) (x:Ending) (w':World):Prop:=x=.panicked [{ v:=Zkm e,recovered:=false }]∧w=w'
theorem Zbz (e:Int) (w:World) :
  Calls prog 64 #[.bool true,e] w (Same (.tuple #[]) w):=by
 go_enter func64,ntmps64
 go_wp2
 go_end0
 exact ⟨rfl,rfl⟩
theorem Zdf (e:Int) (w:World) :
  Calls prog 64 #[.bool false,e] w (StopsOS e w):=by
 go_enter func64,ntmps64
 go_wp2
 exact ⟨rfl,rfl,rfl⟩
theorem Zn3 (p:Option Addr) (w:World) :
  Calls prog 63 #[.nilIface,.pointer p] w (Same (.tuple #[]) w):=by
 go_enter func63,ntmps63
 go_wp2
 go_end0
 exact ⟨rfl,rfl⟩
theorem Zko (e:Int) (pb:Nat) (w:World) (hb:Blk w pb #[()] 31) :
  Calls prog 63 #[Zkm e,.pointer pb] w fun x w'=>x=.returned (.tuple #[])∧Zo6 e pb w w':=by
 have r0:=hb.cell
 have r1:=hb.free
 have hlt:=hb.lt
 have hta:∀ w,(Instr.typeAssert (Zkm e) 20 213 true).run prog w=.ok (.tuple #[.agg #[e],.bool true]) w:=fun _=>by kernel_rfl
 have heq:∀ w,(Go.binOp .eql 20 (Zkm e) .nilIface).run prog w=.ok (.bool false) w:=fun _=>by kernel_rfl
 unfold Zkm at *
 go_enter func63,ntmps63
 exact Q2f
theorem Zee:Zip Zkm 62:=by
 refine ⟨fun e pb w hb=>?_,fun pb w=>?_⟩
 ·have HS:=hd_ (Zko e pb w hb)
  unfold Zkm at *
  refine Zb0 func62 rfl fun c₀ cs hu=>?_
  apply wpS_region
  simp [wpOpsS,go_sem,recoverD,hu,ntmps62]
  refine HS.out.mono ?_
  rintro x w' ⟨rfl,h2⟩
  simp [bodyPostS,results,results62,go_sem]
  exact h2
 ·have HS:=hd_ (Zn3 (some ⟨pb,0,none⟩) w)
  refine Zb0 func62 rfl fun c₀ cs hu=>?_
  apply wpS_region
  simp [wpOpsS,go_sem,recoverD,hu,ntmps62]
  refine HS.out.mono ?_
  rintro x w' ⟨rfl,rfl⟩
  cases c₀
  simp_all [bodyPostS,results,results62,go_sem]
def ntL (n:Nt):List Value:=[.int .i64 n.1,.int .i64 n.2.1,.int .i64 n.2.2.1,.int .i64 n.2.2.2]
def numL (n:Int):List Value:=[↑n]
theorem Zgm (n:Nt):(ntL n).length=4:=rfl
theorem Zea (n:Int):(numL n).length=1:=rfl
theorem Zd7 (n:Int × Int):(Zax n).length=2:=rfl
theorem Zwl:(prog.info? 23).map (fun i=>(i.zero,i.size,i.bytes))=some (some (.agg #[(),()]),2,16):=by kernel_rfl
theorem _root_.Q2b {p:Prop}(h:p:=by
 go_wp2
 go_ret
 exact ⟨_,rfl,Below.refl _ _,World.ownsRow_nil _ _ _ _⟩):p:=h
theorem Zn5 (l:List (Int × Int)) (a:Option Addr) (c:Nat) (hl:l.length≤1000000) (w:World) (hr:RowsAt w a 2 Zax l) :
  Calls prog 59 #[.slice a l.length c] w (fun e w'=>∃ v,e=.returned v∧Below w.heap.size w w'∧w'.ownsRow w.heap.size 23 2 v l.length (l.flatMap Zax)):=by
 by_cases h0:l.length=0
 ·obtain rfl:l=[]:=List.eq_nil_of_length_eq_zero h0
  simp only [List.length_nil] at *
  clear hr hl h0
  go_enter func59,ntmps59
  exact Q2b
 ·obtain ⟨i0,hi,hz0,hz1,hz2⟩:=Zbp Zwl
  have h0i:¬ (l.length:Int)=0:=by omega
  have hb0:((l.length:Int) == 0)=false:=by simpa using h0i
  have hli:(l.length:Int)≤1000000:=by omega
  have HC:Hid (∀ W W' A,Below w.heap.size w W→Blk W w.heap.size A 23→A.size=l.length * 2→W'=W.setRow w.heap.size (l.flatMap Zax).toArray→(Builtin.copy_ #[24,24] 3 #[.slice w.heap.size l.length l.length,.slice a l.length c]).run prog W=.ok (goInt l.length) W'):=fun W W' A hb bA hA e=>by
   subst e
   exact Zex W 24 24 _ 23 i0 w.heap.size l.length l.length l.length (.slice a l.length c) A 23 (l.flatMap Zax) underlying24 hi bA (by rw [hz1];exact (hr.below hb).src Zd7 om_ c) rfl (by rw [Zau Zd7,hA]) (by intro v hv;obtain ⟨b,_,hb⟩:=List.mem_flatMap.1 hv;simp [Zax] at hb;(first|(rcases hb with rfl|rfl|rfl|rfl)|(rcases hb with rfl|rfl)|subst hb) <;> rfl)
  clear hr
  go_enter func59,ntmps59
  go_wp2_with (first
   | (refine Zcs rfl (.tmp 8) 24 rfl 23 i0 _ underlying24 hi hz0 l.length rfl (by rw [hz2];omega) om_ ?_;intro A hA;rw [hz1] at hA;have bA:=Blk.new w A 23;have hB:w (w.alloc (.cells A 23)):=br_.alloc nl_ _))
  rw [HC.out _ _ A hB bA hA rfl]
  go_wp2_with fail
  go_ret
  refine ⟨_,rfl,?_,?_⟩
  ·have h3:Lets (fun k _=>k=w.heap.size) (w.alloc (.cells A 23)) ((w.alloc (.cells A 23)).setRow w.heap.size (l.flatMap Zax).toArray):=⟨rfl,rfl,rfl,sp_,fun k _ hk=>Go.setRow_other _ _ k _ hk⟩
   exact Za3 hB h3 nl_ (fun _ _ _=>om_)
  ·have b2:=bA.setRow (l.flatMap Zax).toArray
   exact ⟨by rw [Zau Zd7],.inr ⟨w.heap.size,l.length,(l.flatMap Zax).toArray,rfl,Nat.le_refl _,b2,Nat.le_refl _,by unfold maxLen;omega,by simp [Zau Zd7],by simp [List.take_of_length_le,Zau Zd7]⟩⟩
theorem Zsn:(prog.info? 3).map (fun i=>(i.zero,i.size,i.bytes))=some (some (.int .i64 0),1,8):=by kernel_rfl
theorem Zp2 (l:List Int) (a:Option Addr) (c:Nat) (hl:l.length≤1000000) (w:World) (hr:RowsAt w a 1 numL l) :
  Calls prog 60 #[.slice a l.length c] w (fun e w'=>∃ v,e=.returned v∧Below w.heap.size w w'∧w'.ownsRow w.heap.size 3 1 v l.length (l.flatMap numL)):=by
 by_cases h0:l.length=0
 ·obtain rfl:l=[]:=List.eq_nil_of_length_eq_zero h0
  simp only [List.length_nil] at *
  clear hr hl h0
  go_enter func60,ntmps60
  exact Q2b
 ·obtain ⟨i0,hi,hz0,hz1,hz2⟩:=Zbp Zsn
  have h0i:¬ (l.length:Int)=0:=by omega
  have hb0:((l.length:Int) == 0)=false:=by simpa using h0i
  have hli:(l.length:Int)≤1000000:=by omega
  have HC:Hid (∀ W W' A,Below w.heap.size w W→Blk W w.heap.size A 3→A.size=l.length * 1→W'=W.setRow w.heap.size (l.flatMap numL).toArray→(Builtin.copy_ #[25,25] 3 #[.slice w.heap.size l.length l.length,.slice a l.length c]).run prog W=.ok (goInt l.length) W'):=fun W W' A hb bA hA e=>by
   subst e
   exact Zex W 25 25 _ 3 i0 w.heap.size l.length l.length l.length (.slice a l.length c) A 3 (l.flatMap numL) underlying25 hi bA (by rw [hz1];exact (hr.below hb).src Zea om_ c) rfl (by rw [Zau Zea,hA]) (by intro v hv;obtain ⟨b,_,hb⟩:=List.mem_flatMap.1 hv;simp [numL] at hb;(first|(rcases hb with rfl|rfl|rfl|rfl)|(rcases hb with rfl|rfl)|subst hb) <;> rfl)
  clear hr
  go_enter func60,ntmps60
  go_wp2_with (first
   | (refine Zcs rfl (.tmp 8) 25 rfl 3 i0 _ underlying25 hi hz0 l.length rfl (by rw [hz2];omega) om_ ?_;intro A hA;rw [hz1] at hA;have bA:=Blk.new w A 3;have hB:w (w.alloc (.cells A 3)):=br_.alloc nl_ _))
  rw [HC.out _ _ A hB bA hA rfl]
  go_wp2_with fail
  go_ret
  refine ⟨_,rfl,?_,?_⟩
  ·have h3:Lets (fun k _=>k=w.heap.size) (w.alloc (.cells A 3)) ((w.alloc (.cells A 3)).setRow w.heap.size (l.flatMap numL).toArray):=⟨rfl,rfl,rfl,sp_,fun k _ hk=>Go.setRow_other _ _ k _ hk⟩
   exact Za3 hB h3 nl_ (fun _ _ _=>om_)
  ·have b2:=bA.setRow (l.flatMap numL).toArray
   exact ⟨by rw [Zau Zea],.inr ⟨w.heap.size,l.length,(l.flatMap numL).toArray,rfl,Nat.le_refl _,b2,Nat.le_refl _,by unfold maxLen;omega,by simp [Zau Zea],by simp [List.take_of_length_le,Zau Zea]⟩⟩
theorem Zp9:(prog.info? 88).map (fun i=>(i.zero,i.size,i.bytes))=some (some (.agg #[(),(),(),()]),4,32):=by kernel_rfl
theorem Zh0 (l:List Nt) (a:Option Addr) (c:Nat) (hl:l.length≤1000000) (w:World) (hr:RowsAt w a 4 ntL l) :
  Calls prog 77 #[.slice a l.length c] w (fun e w'=>∃ v,e=.returned v∧Below w.heap.size w w'∧w'.ownsRow w.heap.size 88 4 v l.length (l.flatMap ntL)):=by
 by_cases h0:l.length=0
 ·obtain rfl:l=[]:=List.eq_nil_of_length_eq_zero h0
  simp only [List.length_nil] at *
  clear hr hl h0
  go_enter func77,ntmps77
  exact Q2b
 ·obtain ⟨i0,hi,hz0,hz1,hz2⟩:=Zbp Zp9
  have h0i:¬ (l.length:Int)=0:=by omega
  have hb0:((l.length:Int) == 0)=false:=by simpa using h0i
  have hli:(l.length:Int)≤1000000:=by omega
  have HC:Hid (∀ W W' A,Below w.heap.size w W→Blk W w.heap.size A 88→A.size=l.length * 4→W'=W.setRow w.heap.size (l.flatMap ntL).toArray→(Builtin.copy_ #[34,34] 3 #[.slice w.heap.size l.length l.length,.slice a l.length c]).run prog W=.ok (goInt l.length) W'):=fun W W' A hb bA hA e=>by
   subst e
   exact Zex W 34 34 _ 88 i0 w.heap.size l.length l.length l.length (.slice a l.length c) A 88 (l.flatMap ntL) underlying34 hi bA (by rw [hz1];exact (hr.below hb).src Zgm om_ c) rfl (by rw [Zau Zgm,hA]) (by intro v hv;obtain ⟨b,_,hb⟩:=List.mem_flatMap.1 hv;simp [ntL] at hb;(first|(rcases hb with rfl|rfl|rfl|rfl)|(rcases hb with rfl|rfl)|subst hb) <;> rfl)
  clear hr
  go_enter func77,ntmps77
  go_wp2_with (first
   | (refine Zcs rfl (.tmp 8) 34 rfl 88 i0 _ underlying34 hi hz0 l.length rfl (by rw [hz2];omega) om_ ?_;intro A hA;rw [hz1] at hA;have bA:=Blk.new w A 88;have hB:w (w.alloc (.cells A 88)):=br_.alloc nl_ _))
  rw [HC.out _ _ A hB bA hA rfl]
  go_wp2_with fail
  go_ret
  refine ⟨_,rfl,?_,?_⟩
  ·have h3:Lets (fun k _=>k=w.heap.size) (w.alloc (.cells A 88)) ((w.alloc (.cells A 88)).setRow w.heap.size (l.flatMap ntL).toArray):=⟨rfl,rfl,rfl,sp_,fun k _ hk=>Go.setRow_other _ _ k _ hk⟩
   exact Za3 hB h3 nl_ (fun _ _ _=>om_)
  ·have b2:=bA.setRow (l.flatMap ntL).toArray
   exact ⟨by rw [Zau Zgm],.inr ⟨w.heap.size,l.length,(l.flatMap ntL).toArray,rfl,Nat.le_refl _,b2,Nat.le_refl _,by unfold maxLen;omega,by simp [Zau Zgm],by simp [List.take_of_length_le,Zau Zgm]⟩⟩
theorem o_of (na:Option Addr) (n nc:Nat) (f la:Int) (w:World) :
  Calls prog 285 #[.slice na n nc,f,la] w (fun e w'=>e=.returned (.func (.func 316) #[] #[.pointer w.heap.size,.pointer ↑(w.heap.size+1),.pointer ↑(w.heap.size+2)])∧w'=((w.alloc (.cells #[.slice na n nc] 91)).alloc (.cells #[f] 3)).alloc (.cells #[la] 3)):=by
 go_enter func285,ntmps285
 go_wp2
 go_ret
 exact ⟨rfl,rfl⟩
def isO (f la:Int) (n:Nt):Bool:=decide (f≤n.1∧n.1≤la)
theorem ofO_is (l:List Nt) (f la:Int):ofO l f la=l.filter (isO f la):=rfl
structure OfAt (w:World) (tb:Nat) (l:List Nt) (na:Option Addr) (nc:Nat) (f la:Int):Prop where
 b0:Blk w tb #[.slice na l.length nc] 91
 b1:Blk w (tb+1) #[f] 3
 b2:Blk w (tb+2) #[la] 3
 rows:RowsAt w na 4 ntL l
theorem _root_.Q1u {p:Prop}(h:p:=by
 have hb:decide (f≤x1∧x1≤la)=false:=decide_eq_false om_
 gi_wp2_with fail
 exact ⟨⟨i+1,om_,by go_num,hLt1,by rw [HNi.out hb];exact HJ1⟩,by simp [intOf];omega⟩):p:=h
theorem _root_.Q2x {p:Prop}(h:p:=by
 gi_wp2_with fail
 exact bodyPost_end (results_none rfl _ _ _) rfl ⟨⟨_,rfl⟩,trivial,.inl hjl.out⟩):p:=h
theorem _root_.Q34 {p:Prop}(h:p:=by
 obtain ⟨fn,tmps,asg,bo,e,r⟩:=this
 exact ⟨fn,tmps,asg,bo,e,r.mono fun e w' h=>⟨h.1,h.2.2⟩⟩):p:=h
theorem _root_.Q3k {p:Prop}(h:p:=by
 gi_wp2_with fail
 simp only [Exit.noGoto]
 gi_wp2_with fail
 exact bodyPost_ret (results_none rfl _ _ _) rfl ⟨⟨_,rfl⟩,trivial,.inr hjx⟩):p:=h
theorem Zjr (ns:List Nt) (na:Option Addr) (nc:Nat) (f la:Int) (hlen:ns.length≤1000000) (tb l:Nat) (W:World) (hO:OfAt W tb ns na nc f la) (XR:Nat→Option Obj→Prop)
  (hX:∀ wr,Lets XR W wr→OfAt wr tb ns na nc f la) :
  Zyb prog 316 #[.pointer tb,.pointer ↑(tb+1),.pointer ↑(tb+2)] (fun n=>#[.agg (ntL n).toArray]) (ofO ns f la) (fun _ _=>False) XR (fun _=>True) l W:=by
 intro J Jx hJ hJx hY h0
 have HJ:=hd_ hJ
 have HY:Hid (∀ k (hk:k < ns.length),isO f la ns[k]=true→∀ W1,J (cntF (isO f la) ns k) W1→YieldAt Fence.wide 0 prog l #[.agg (ntL ns[k]).toArray] W1 fun e W'=>Lets XR W1 W'∧((e=.returned (.bool true)∧J (cntF (isO f la) ns (k+1)) W')∨(e=.returned (.bool false)∧Jx W'))):=by
  intro k hk hc W1 hj
  obtain ⟨e1,hh,e2⟩:=Zno (isO f la) ns hk hc
  have:=hY _ hh W1 hj trivial
  change YieldAt _ _ _ _ #[.agg (ntL (ns.filter (isO f la))[cntF (isO f la) ns k]).toArray] _ _ at this
  rw [e2] at this
  rw [e1]
  exact Q34
 have HN:Hid (∀ k (hk:k < ns.length),isO f la ns[k]=false→cntF (isO f la) ns (k+1)=cntF (isO f la) ns k):=fun k hk hb=>Zrg (isO f la) ns hk hb
 have HL:Hid ((ofO ns f la).length=cntF (isO f la) ns ns.length):=by show _=_;rw [ofO_is,Znp]
 have HZ:Hid (cntF (isO f la) ns 0=0):=Zk5 _ _
 have HX:=hd_ hX
 have hli:(ns.length:Int)≤1000000:=by omega
 clear hY hJ hX
 generalize cntF (isO f la) ns=cn at *
 refine callsIn_of_wp func316 rfl trivial ?_ rfl
 simp only [ntmps316,List.size_toArray,List.length_cons,List.length_nil,Nat.reduceAdd,Nat.reduceSub,Array.replicate_succ,Array.replicate_zero,List.push_toArray,List.append_toArray,List.nil_append,List.cons_append]
 gi_wp2_with fail
 refine wpIn_wide.2 (wp_scope_straight ?_)
 have r0:=hO.b0.cell
 have l0:=hO.b0.lt
 go_wp2_with fail
 refine wp_label ?_
 go_wp2_with fail
 have HJ0:Hid (J (cn 0) W):=by show J _ W;rw [HZ.out];exact h0
 clear r0 l0 hO h0
 refine (wpIn_wide (n:=0)).1 ?_
 gi_loopw [6,9] (fun x6 x9 wr=>∃ i:Nat,i≤ns.length∧x9=↑i∧Lets XR W wr∧Hid (J (cn i) wr)) (fun _ x9 _=>ns.length - (intOf x9).toNat)
 case atStart=>exact ⟨0,om_,rfl,Lets.refl _ _,HJ0⟩
 case round =>
  obtain ⟨i,hi,rfl,hLt,hj⟩:=hrel
  have hOr:=HX.out wr hLt
  by_cases hlt:i < ns.length
  ·have hlti:(i:Int) < (ns.length:Int):=by omega
   obtain ⟨gb,go,hgo,hq⟩:=hOr.rows i hlt
   have q0:=hq 0 _ rfl
   have q1:=hq 1 _ rfl
   have q2:=hq 2 _ rfl
   have q3:=hq 3 _ rfl
   rw [Nat.add_zero] at q0
   have lg:=bl_ wr _ q0
   have HYi:=hd_ (HY.out i hlt)
   have HNi:=hd_ (HN.out i hlt)
   obtain ⟨b0,b1,b2,rws⟩:=hOr
   have r1:=b1.cell
   have r2:=b2.cell
   have l1:=b1.lt
   have l2:=b2.lt
   clear hq rws b0
   unfold ntL at HYi
   subst hgo
   generalize ns[i]=x at *
   obtain ⟨x1,x2,x3,x4⟩:=x
   simp only at q0 q1 q2 q3 HYi
   unfold isO at HYi HNi
   simp only at HYi HNi
   have HJ1:Hid (J (cn i) (wr.alloc (.cells #[x1,x2,x3,x4] 88))):=HJ.out _ _ _ hj.out ((Lets.refl _ _).alloc _)
   have hLt1:=hLt.alloc (.cells #[x1,x2,x3,x4] 88)
   have bn:Blk (wr.alloc (.cells #[x1,x2,x3,x4] 88)) wr.heap.size #[x1,x2,x3,x4] 88:=Blk.new _ _ _
   by_cases hc1:x1 < f
   ·exact Q1u
   by_cases hc2:la < x1
   ·exact Q1u
   have hb:decide (f≤x1∧x1≤la)=true:=decide_eq_true om_
   obtain ⟨fn,tmps,asg,bo,hy,hR⟩:=HYi.out hb _ HJ1.out
   gi_wp2_with fail
   refine ⟨rfl,hR.mono ?_⟩
   clear hy hR
   rintro e W5 ⟨hL5,⟨rfl,hj5⟩ | ⟨rfl,hjx⟩⟩
   ·have HJ5:=hd_ hj5
    clear hj5
    gi_wp2_with fail
    exact ⟨⟨i+1,om_,by go_num,hLt1.trans hL5,HJ5⟩,by simp [intOf];omega⟩
   ·exact Q3k
  ·have hlti:¬ (i:Int) < (ns.length:Int):=by omega
   obtain rfl:i=ns.length:=by omega
   have hjl:Hid (J (ofO ns f la).length wr):=by show J _ wr;rw [HL.out];exact hj.out
   exact Q2x
end Go.Proofs.YtbapgefodmmikaaGreatDoor
namespace Go.Proofs.YtbapgefodmmikaaGreatDoor
open Go.RowKit Go.Proofs Go.Ord Tryz
attribute [local irreducible] Ord.walk
attribute [local go_sem] Oper.semAt_some
def VarsOk (w : World) : Prop := (∃ m, w.cell? ⟨0, 0, none⟩ = some (.int .i64 m)) ∧ Lib.TabIs prog w "internal/strconv.uint64pow10" .u64 Lib.pow10Tab ∧ (∃ te pe, w.cell? ⟨5, 0, none⟩ = some (.iface te pe)) ∧ (∃ te pe, w.cell? ⟨6, 0, none⟩ = some (.iface te pe)) ∧ 9 ≤ w.heap.size
theorem VarsOk.lets {w w':World}(h:VarsOk w) (hs:9≤w'.heap.size) (hk:∀ k,k < 9→w'.heap[k]? = w.heap[k]?):VarsOk w':=by
 obtain ⟨⟨m,h0⟩,h1,⟨t2,p2,h2⟩,⟨t3,p3,h3⟩,h4⟩:=h
 refine ⟨⟨m,(World.cell?_of_block (hk 0 om_)).trans h0⟩,?_,⟨t2,p2,(World.cell?_of_block (hk 5 om_)).trans h2⟩,⟨t3,p3,(World.cell?_of_block (hk 6 om_)).trans h3⟩,hs⟩
 have hg : prog.globalNamed "internal/strconv.uint64pow10" = some 4 := by kernel_rfl
 unfold Lib.TabIs World.var? at *
 rw [hg] at h1 ⊢
 simp only [Option.bind_some] at h1 ⊢
 rw [hk 4 om_]
 exact h1
theorem VarsOk.below {w w':World}{n:Nat}(h:VarsOk w) (hb:Below n w w') (hn:9≤n):VarsOk w':=h.lets (Nat.le_trans h.2.2.2.2 hb.size) fun k hk=>hb.block k om_
def ovV (b:Ov) (nl:Nat) (sa:Option Addr) (sc:Nat) (fa:Option Addr) (fc:Nat) (na:Option Addr) (nc:Nat):Array Value :=
 #[b.V,b.nd,b.lo,b.hi,b.sh,b.most,.slice sa b.strays.length sc,.slice fa b.fl.length fc,b.may,b.drift,b.mist,.slice na nl nc,.bool true]
structure OvAt (w:World) (O:Nat) (b:Ov) (l:List Nt) (sa:Option Addr) (sc:Nat) (fa:Option Addr) (fc:Nat) (na:Option Addr) (nc:Nat):Prop where
 blk:Blk w O (ovV b l.length sa sc fa fc na nc) 93
 strays:RowsAt w sa 2 Zax b.strays
 fl:RowsAt w fa 1 numL b.fl
 notes:RowsAt w na 4 ntL l
 vars:VarsOk w
structure OvIn (b:Ov) (l:List Nt):Prop where
 strays:b.strays.length≤40
 fl:b.fl.length≤40
 notes:l.length≤30
 small:∀ n∈l,-9999≤n.2.2.1∧n.2.2.1≤9999
theorem OvAt.below {w w':World}{O:Nat}{b:Ov}{l:List Nt}{sa:Option Addr}{sc:Nat}{fa:Option Addr}{fc:Nat}{na:Option Addr}{nc:Nat}(h:OvAt w O b l sa sc fa fc na nc) (hb:w w'):OvAt w' O b l sa sc fa fc na nc :=
 ⟨h.blk.below hb h.blk.lt,h.strays.below hb,h.fl.below hb,h.notes.below hb,h.vars.below hb h.vars.2.2.2.2⟩
theorem rows_gs {w:World}{a:Option Addr}{gs:List (Int × Int × Int)}(h:RowsAt w a 3 Zpc gs):GsAt w a gs:=fun i hi=>by
 obtain ⟨gb,go,h0,h1⟩:=h i hi
 exact ⟨gb,go,h0,h1 0 _ rfl,h1 1 _ rfl,h1 2 _ rfl⟩
theorem rows_ps {w:World}{a:Option Addr}{gs:List (Int × Int × Bool)}(h:RowsAt w a 3 Zvt gs):PsAt w a gs:=fun i hi=>by
 obtain ⟨gb,go,h0,h1⟩:=h i hi
 exact ⟨gb,go,h0,h1 0 _ rfl,h1 1 _ rfl,h1 2 _ rfl⟩
theorem Zwu (g:Int × Int × Int):(Zpc g).length=3:=rfl
theorem Zvs (g:Int × Int × Bool):(Zvt g).length=3:=rfl
theorem Tryz.infoBG:(prog.info? 133).map (fun i=>(i.zero,i.size,i.bytes))=some (some (.agg #[(),(),()]),3,24):=by kernel_rfl
theorem Tryz.infoBP:(prog.info? 135).map (fun i=>(i.zero,i.size,i.bytes))=some (some (.agg #[(),(),.bool false]),3,24):=by kernel_rfl
theorem Zki:Zdw prog 54 6:=⟨_,underlying54,rfl,by kernel_rfl⟩
theorem Zdh {w:World}{g:Nat}{A:Array Value}{t:TypeId}(h:Blk w g A t) (news:List Value) (hn:A=news.toArray):∀ j u,news[j]? = some u→w.cell? ((⟨g,0,none⟩:Addr).add j)=some u:=by
 intro j u hj
 have h2:=h.cell j
 rw [hn] at h2
 rw [show (⟨g,0,none⟩:Addr).add j=⟨g,j,none⟩ by simp [Addr.add];exact Eq.symm,h2]
 simpa using hj
theorem Zvm {P:Program}{fn:Func}{v:Value}{a:Act}{w:World}{R:Ending→World→Prop}{D E:Nat}(hd:a.defers=[{ target:=.collected D,args:=#[] },{ target:=.collected E,args:=#[] }]) (hD:w.heap[D]? = some (.deferred (some []))) (hE:w.heap[E]? = some (.deferred (some []))) (hne:D≠E)
  (h:∀ w',Lets (fun k _=>k=D∨k=E) w w'→w'.heap.size=w.heap.size→(results fn a.tmps).run P w'=.ok v w'∧R (.returned v) w'):bodyPostM Fence.wide 0 P fn R .ret a w:=by
 show LeavesInM _ _ _ _ _ _ a.defers _ _
 rw [hd]
 have hE2:(w.putObj D (.deferred none)).heap[E]? = some (.deferred (some [])):=(World.putObj_heap_other hne.symm).trans hE
 refine ⟨sp_,.inl ⟨D,w.putObj D (.deferred none),rfl,run_takeDeferred hD,⟨sp_,.inl ⟨E,(w.putObj D (.deferred none)).putObj E (.deferred none),rfl,run_takeDeferred hE2,?_⟩⟩⟩⟩
 have:=h ((w.putObj D (.deferred none)).putObj E (.deferred none)) (((Lets.refl _ _).putObj (.inl rfl) _).putObj (.inr rfl) _) sp_
 exact ⟨v,this.1,this.2⟩
theorem Zb9 {w:World}{base:Nat}{e:TypeId}{size:Nat}{v:Value}{n:Nat}{xs:List Value}(h:w.ownsRow base e size v n xs):∃ a c,v=.slice a n c:=by
 obtain ⟨-,⟨rfl,rfl⟩ | ⟨g,cap,cur,rfl,-⟩⟩:=h
 ·exact ⟨none,0,rfl⟩
 ·exact ⟨_,_,rfl⟩
theorem Zad {w:World}{base:Nat}{e:TypeId}{size:Nat}{v:Value}{n:Nat}{xs:List Value}(h:w.ownsRow base e size v n xs) {g:Nat}(hg:v.ownBlock=some g):base≤g∧g < w.heap.size:=h.lt g hg
theorem Zaw {X:Nat→Option Obj→Prop}{w w':World}{base:Nat}{e:TypeId}{size:Nat}{v:Value}{n:Nat}{xs:List Value}(h:w.ownsRow base e size v n xs) (hl:Lets X w w') (hx:∀ k o,base≤k→¬ X k o):w'.ownsRow base e size v n xs :=
 Zbn h nl_ fun g hg=>hl.block g (Zad h hg).2 (hx _ _ (Zad h hg).1)
theorem _root_.Q2c {p:Prop}(h:p:=by
 exact ⟨hl2.blk hOf4.b0 om_,hl2.blk hOf4.b1 om_,hl2.blk hOf4.b2 om_,HRow.out wr (Za3 hB4 hl2 (by have:=HN.out;omega) (fun _ _ _=>om_))⟩):p:=h
theorem _root_.Q2d {p:Prop}(h:p:=by
 obtain ⟨av,cv,h1,h2,h3⟩:=h
 exact ⟨av,cv,hl.blk h1 (fun e=>om_),Zaw h2 hl (fun _ _ h e=>om_),h3.trans (hl.mono fun _ _ e=>om_)⟩):p:=h
theorem _root_.Q2e {p:Prop}(h:p:=by
 obtain ⟨av,cv,h1,h2,h3⟩:=h
 exact ⟨av,cv,hl.blk h1 (fun e=>e),Zaw h2 hl (fun _ _ _ e=>e),h3.trans (hl.mono fun _ _ e=>e.elim)⟩):p:=h
theorem Zm8 {w:World}{O:Nat}{b:Ov}{l:List Nt}{sa:Option Addr}{sc:Nat}{fa:Option Addr}{fc:Nat}{na:Option Addr}{nc:Nat}(h:OvAt w O b l sa sc fa fc na nc) (hI:OvIn b l) :
  Calls prog 236 #[.agg #[.pointer O]] w (fun e w'=>∃ ga gc pa pc,e=.returned (bv (bnO b l) ga gc pa pc)∧Below w.heap.size w w'∧GsAt w' ga (bnO b l).gs∧PsAt w' pa (bnO b l).ps):=by
 obtain ⟨i0,hi,hz0,hz1,hz2⟩:=Zbp Tryz.infoBG
 obtain ⟨i1,ji,jz0,jz1,jz2⟩:=Zbp Tryz.infoBP
 have hln:=hI.notes
 have hN9:=h.vars.2.2.2.2
 have HRow:=hd_ (fun W (hb:Below w.heap.size w W)=>h.notes.below hb)
 have HOv:=hd_ (fun W (hb:Below w.heap.size w W)=>h.blk.below hb h.blk.lt)
 have hrow:=h.notes
 have bO:=h.blk
 clear h hI
 refine callsIn_wide.1 (callsIn_of_wp_marks (F:=Fence.wide) (n:=0) func236 rfl trivial (wpIn_wide.2 ?_) rfl)
 simp only [ntmps236,List.size_toArray,List.length_cons,List.length_nil,Nat.reduceAdd,Nat.reduceSub,Array.replicate_succ,Array.replicate_zero,List.push_toArray,List.append_toArray,List.nil_append,List.cons_append]
 go_wp2_with fail
 obtain ⟨w2,hw2⟩:∃ w2,(w.alloc (.cells #[.pointer O] 306)).alloc (.cells #[(),(),(),(),.slice none 0 0,.slice none 0 0] 54)=w2:=⟨_,rfl⟩
 rw [hw2]
 have hB2:Below w.heap.size w w2:=by rw [← hw2];exact bel_
 have b1:Blk w2 w.heap.size #[.pointer O] 306:=by rw [← hw2];exact (Blk.new _ _ _).alloc _
 have b2:Blk w2 (w.heap.size+1) #[(),(),(),(),.slice none 0 0,.slice none 0 0] 54:=by rw [← hw2];exact Blk.new' _ _ _ _ sp_
 have hs2:w2.heap.size=w.heap.size+2:=by rw [← hw2];simp
 have bO2:=bO.below hB2 bO.lt
 have hrow2:=hrow.below hB2
 have hOlt:=bO.lt
 clear hw2 bO hrow
 generalize hN:w.heap.size=N at *
 have HN:=hd_ hN
 clear hN
 refine Zyu [(0,1),(1,1),(2,1),(3,1),(4,1),(5,1),(6,1),(7,1),(8,1),(9,1),(10,1),(11,1),(12,1),(13,1),(14,1),(15,1),(16,1),(17,1),(18,1),(19,2),(20,2)] (fun W=>Below w2.heap.size w2 W) kr_ kr_ br_.drew ?_
 go_wp2_with (first
  | ((with_reducible refine Zyp ?_);refine Za2 ?_)
  | ((with_reducible refine Zye ?_);first|(refine Zyq (ad:=⟨N,0,none⟩) (.pointer O) rfl rfl ?_ ?_;(focus (intro W hW;have r:=(b1.below hW b1.lt).cell 0;simp [go_sem,r];done));intro K hK)|(refine Zyq (ad:=⟨O,0,none⟩) ↑b.V rfl rfl ?_ ?_;(focus (intro W hW;have r:=(bO2.below hW bO2.lt).cell 0;simp [go_sem,r,ovV];done));intro K hK)|(refine Zyq (ad:=⟨O,1,none⟩) ↑b.nd rfl rfl ?_ ?_;(focus (intro W hW;have r:=(bO2.below hW bO2.lt).cell 1;simp [go_sem,r,ovV];done));intro K hK)|(refine Zyq (ad:=⟨O,2,none⟩) (.agg #[b.lo,b.hi]) rfl rfl ?_ ?_;(focus (intro W hW;have r:=(bO2.below hW bO2.lt).cell 2;have r3:=(bO2.below hW bO2.lt).cell 3;simp [go_sem,r,r3,ovV];done));intro K hK)|(refine Zyt rfl (.agg #[b.V,b.nd,b.lo,b.hi,.slice none 0 0,.slice none 0 0]) ?_ ?_;(focus (intro W _;simp [go_sem,Zyr,Zys];done));intro K hK))
  | (refine o_ ?_;intro K hK)|(with_reducible first|refine Zyo ?_ ?_|refine Zyj ?_|refine Zyf bn_ (fun _=>?_)))
 unfold Stop
 obtain ⟨w3,hw3⟩:∃ w3,(w2.alloc (.cells #[b.V,b.nd,b.lo,b.hi,.slice none 0 0,.slice none 0 0] 54)).drew=w3:=⟨_,rfl⟩
 rw [hw3]
 have hb23:Below w2.heap.size w2 w3:=by rw [← hw3];exact (br_.alloc nl_ _).drew
 have b33:Blk w3 (N+2) #[b.V,b.nd,b.lo,b.hi,.slice none 0 0,.slice none 0 0] 54:=by rw [← hw3];exact (Blk.new' _ _ _ _ (by simp [hs2])).drew
 have hs3:w3.heap.size=N+3:=by rw [← hw3];simp [hs2]
 have b13:=b1.below hb23 b1.lt
 have b23:=b2.below hb23 b2.lt
 have bO3:=bO2.below hb23 bO2.lt
 have hrow3:=hrow2.below hb23
 have hB3:Below N w w3:=hB2.trans (hb23.mono om_)
 clear hw3 hb23 b1 b2 bO2 hrow2 hB2 hs2
 have r1:=b13.cell
 have rO:=bO3.cell
 have l1:=b13.lt
 have lO:=bO3.lt
 unfold ovV at rO
 have HOf:=hd_ (fun f la W=>o_of na l.length nc f la W)
 go_wp2_with (first
  | (go_at_call 285;refine (HOf.out _ _ _).mono ?_;rintro e w4 ⟨rfl,hw4⟩;refine Za2 ?_))
 unfold Stop
 rw [← hw4]
 have hb34:Below (N+3) w3 w4:=by rw [hw4,← hs3];exact bel_
 have hs4:w4.heap.size=N+6:=by rw [hw4];simp [hs3]
 have hOf4:OfAt w4 (N+3) l na nc 0 0:=by
  refine ⟨?_,?_,?_,hrow3.below (by rw [hs3];exact hb34)⟩
  ·rw [hw4,← hs3];exact ((Blk.new _ _ _).alloc _).alloc _
  ·rw [hw4];exact (Blk.new' _ _ _ _ (by simp [hs3])).alloc _
  ·rw [hw4];exact Blk.new' _ _ _ _ (by simp [hs3])
 have b14:=b13.below hb34 om_
 have b24:=b23.below hb34 om_
 have b34:=b33.below hb34 om_
 have hrow4:=hOf4.rows
 have hB4:Below N w w4:=hB3.trans (hb34.mono om_)
 have bO4:=bO3.below hb34 om_
 clear hw4 hb34 hrow3 b13 b23 b33 bO3 r1 rO l1 lO hB3 hs3
 have hgs:(ofO l 0 0).length≤30:=Nat.le_trans (List.length_filter_le _ _) hln
 go_wp2_with fail
 refine (wpIn_wide (n:=0)).1 (Zcq (encs:=fun n=>#[.agg (ntL n).toArray]) (xs:=ofO l 0 0) (XI:=fun _ _=>False) (XB:=fun k _=>k=N+2∨N+8≤k) (Mid:=fun _=>True)
  (fun k A=>∃ av cv,Blk A (N+2) #[b.V,b.nd,b.lo,b.hi,.slice av k cv,.slice none 0 0] 54∧A.ownsRow (N+8) 133 3 (.slice av k cv) k ((((ofO l 0 0).take k).map grpO).flatMap Zpc)∧Lets (fun k _=>k=N+2∨N+6≤k) w4 A)
  (fun _ _=>False)
  rfl call316 (fun _=>rfl)
  (fun W1 hb1 hs1=>Zjr l na nc 0 0 om_ (N+3) _ W1 ⟨hOf4.b0.below hb1 om_,hOf4.b1.below hb1 om_,hOf4.b2.below hb1 om_,hOf4.rows.below hb1⟩ _ (fun wr hl=>by
   have hl2:Lets (fun k _=>k=N+2∨N+6≤k) w4 wr:=(Lets.of_below hb1).trans (hl.mono fun _ _ e=>om_)
   exact Q2c))
  (fun j o h1 h2 e=>e) (fun j o h1 h2 e=>om_)
  (fun k A B h hl=>by exact Q2e)
  (fun c A B h hl=>h)
  (fun k A B h hl=>by exact Q2d)
  (fun c A B h hl=>h)
  (fun A B h hl=>trivial) ⟨none,0,b34,World.ownsRow_nil _ _ _ _,Lets.refl _ _⟩ ?round ?done ?stop)
 case stop =>
  intro c W h
  exact h.elim
 case round =>
  intro k hk A' hI' _ hsz hrec
  have hgk:((ofO l 0 0).take (k+1)).map grpO=((ofO l 0 0).take k).map grpO ++ [grpO (ofO l 0 0)[k]]:=by rw [List.take_succ_eq_append_getElem hk,List.map_append];rfl
  rw [hgk,List.flatMap_append]
  have hkl:k≤30:=by omega
  clear hgk hI'
  generalize (((ofO l 0 0).take k).map grpO).flatMap Zpc=XS at *
  generalize (ofO l 0 0)[k]=n at *
  obtain ⟨n1,n2,n3,n4⟩:=n
  unfold Zcp
  unfold ntL
  gi_wp2_with fail
  refine ⟨(Lets.refl _ _).alloc _,fun W₂ hl2 hs2 hI2 _=>?_⟩
  have b4:Blk W₂ A'.heap.size #[n1,n2,n3,n4] 88:=hl2.blk (Blk.new _ _ _) om_
  obtain ⟨av,cv,bT,hown,hLt⟩:=hI2
  clear hl2 hs2 hk hrec
  have hl4:=b4.lt
  have r4:=b4.cell
  have rT:=bT.cell
  have lT:=bT.lt
  have hsz2:N+8≤W₂.heap.size:=by omega
  generalize A'.heap.size=t4 at *
  (repeat (first|((with_reducible refine Za8 ?_ ?_ ?_);(focus exact fun ⟨_,_,h⟩=>h);(focus rfl))|gi_step))
  go_wp2_with (first
   | (at_builtin;refine Za2 ?_))
  unfold Stop
  have bG:Blk (W₂.alloc (.cells #[n2,n3,n4] 133)) W₂.heap.size #[n2,n3,n4] 133:=Blk.new _ _ _
  refine wpList_append_own _ rfl _ _ 51 rfl (N+8) 133 i0 _ 3 24 underlying51 hi hz0 hz1 hz2 rfl de_ (.slice av k cv) k _ rfl (hown.alloc _) ⟨W₂.heap.size,0,none⟩ 1 1 [↑n2,↑n3,↑n4] rfl rfl (Zdh bG _ rfl) (by simp [Value.oneCell']) (by unfold maxLen;omega) om_ (by simp;omega) ?_
  intro v' w6 hown' hgrow _
  obtain ⟨av',cv',rfl⟩:=Zb9 hown'
  have hl26:Lets (fun k _=>k=N+2∨N+8≤k) W₂ w6:=((Lets.refl _ _).alloc _).grown hgrow (fun g hg hlt=>.inr (Zad hown hg).1)
  have bT6:Blk w6 (N+2) #[b.V,b.nd,b.lo,b.hi,.slice av k cv,.slice none 0 0] 54:=(hgrow.block (N+2) (by simp;omega) (fun e=>by have:=(Zad hown e.symm).1;omega)).trans (bT.alloc _)
  have r6:=bT6.cell
  have f6:=bT6.free
  have l6:=bT6.lt
  clear r4 rT lT hl4
  go_wp2_with fail
  gi_wp2_with fail
  have hl27:=hl26.setCell (p:=⟨N+2,4,none⟩) (.inl rfl) (.slice av' (k+1) cv')
  exact ⟨hl27,trivial,av',cv',bT6.set 4 _,Zaw (X:=fun k _=>k=N+2) hown' ((Lets.refl _ _).setCell rfl _) (fun _ _ h e=>om_),hLt.trans (hl27.mono fun _ _ e=>om_)⟩
 case done =>
  intro W hI' _ hD
  obtain ⟨av,cv,bT,hown,hLt⟩:=hI'
  rw [List.take_length] at hown
  have b1W:=hLt.blk b14 om_
  have b2W:=hLt.blk b24 om_
  have hBW:Below N w W:=Za3 hB4 hLt (by have:=HN.out;omega) (fun _ _ _=>om_)
  have bOW:=HOv.out W hBW
  have hsW:N+7≤W.heap.size:=by
   have:=lt_of_block hD
   omega
  have r1:=b1W.cell
  have rO:=bOW.cell
  have l1:=b1W.lt
  have lO:=bOW.lt
  unfold ovV at rO
  clear b14 b24 b34 hOf4 hrow4 hB4 bO4
  go_wp2_with (first
   | (go_at_call 285;refine (HOf.out _ _ _).mono ?_;rintro e w5 ⟨rfl,hw5⟩;refine Za2 ?_))
  unfold Stop
  rw [← hw5]
  generalize hM:W.heap.size=M at *
  have hb5:Below M W w5:=by rw [hw5,← hM];exact bel_
  have hs5:w5.heap.size=M+3:=by rw [hw5];simp [hM]
  have hOf5:OfAt w5 M l na nc 1 1:=by
   refine ⟨?_,?_,?_,HRow.out w5 (hBW.trans (hb5.mono om_))⟩
   ·rw [hw5,← hM];exact ((Blk.new _ _ _).alloc _).alloc _
   ·rw [hw5];exact (Blk.new' _ _ _ _ (by simp [hM])).alloc _
   ·rw [hw5];exact Blk.new' _ _ _ _ (by simp [hM])
  have b25:=b2W.below hb5 om_
  have b35:=bT.below hb5 om_
  have hown5:w5.ownsRow (N+8) 133 3 (.slice av (ofO l 0 0).length cv) (ofO l 0 0).length ((((ofO l 0 0)).map grpO).flatMap Zpc):=Zbn hown nl_ fun g hg=>hb5.block g (by have:=(Zad hown hg).2;omega)
  have hgM:∀ g,(Value.slice av (ofO l 0 0).length cv).ownBlock=some g→N+8≤g∧g < M:=fun g hg=>by have:=Zad hown hg;omega
  have hD5:w5.heap[N+6]? = some (.deferred (some [])):=(hb5.block _ om_).trans (by rw [← hs4];exact hD)
  have hBW5:Below N w w5:=hBW.trans (hb5.mono om_)
  clear hw5 hb5 b1W b2W bOW bT hown hLt r1 rO l1 lO hBW hM hD
  have hgs1:(ofO l 1 1).length≤30:=Nat.le_trans (List.length_filter_le _ _) hln
  have hlg:((ofO l 0 0).map grpO).length=(ofO l 0 0).length:=List.length_map ..
  generalize hgl:(ofO l 0 0).length=gl at *
  go_wp2_with fail
  refine (wpIn_wide (n:=0)).1 (Zcq (encs:=fun n=>#[.agg (ntL n).toArray]) (xs:=ofO l 1 1) (XI:=fun _ _=>False) (XB:=fun k _=>k=N+2∨M+5≤k) (Mid:=fun _=>True)
   (fun k A=>∃ aw cw,Blk A (N+2) #[b.V,b.nd,b.lo,b.hi,.slice av gl cv,.slice aw k cw] 54∧A.ownsRow (M+5) 135 3 (.slice aw k cw) k ((((ofO l 1 1).take k).map Zkn).flatMap Zvt)∧Lets (fun k _=>k=N+2∨M+3≤k) w5 A)
   (fun _ _=>False)
   rfl call316 (fun _=>rfl)
   (fun W1 hb1 hs1=>Zjr l na nc 1 1 om_ M _ W1 ⟨hOf5.b0.below hb1 om_,hOf5.b1.below hb1 om_,hOf5.b2.below hb1 om_,hOf5.rows.below hb1⟩ _ (fun wr hl=>by
    have hl2:Lets (fun k _=>k=N+2∨M+3≤k) w5 wr:=(Lets.of_below hb1).trans (hl.mono fun _ _ e=>om_)
    exact ⟨hl2.blk hOf5.b0 om_,hl2.blk hOf5.b1 om_,hl2.blk hOf5.b2 om_,HRow.out wr (Za3 hBW5 hl2 (by have:=HN.out;omega) (fun _ _ _=>om_))⟩))
   (fun j o h1 h2 e=>e) (fun j o h1 h2 e=>om_)
   (fun k A B h hl=>by
    obtain ⟨aw,cw,h1,h2,h3⟩:=h
    exact ⟨aw,cw,hl.blk h1 (fun e=>e),Zaw h2 hl (fun _ _ _ e=>e),h3.trans (hl.mono fun _ _ e=>e.elim)⟩)
   (fun c A B h hl=>h)
   (fun k A B h hl=>by
    obtain ⟨aw,cw,h1,h2,h3⟩:=h
    exact ⟨aw,cw,hl.blk h1 (fun e=>om_),Zaw h2 hl (fun _ _ h e=>om_),h3.trans (hl.mono fun _ _ e=>om_)⟩)
   (fun c A B h hl=>h)
   (fun A B h hl=>trivial) ⟨none,0,b35,World.ownsRow_nil _ _ _ _,Lets.refl _ _⟩ ?round ?done ?stop)
  case stop =>
   intro c W h
   exact h.elim
  case round =>
   intro k hk A' hI' _ hsz hrec
   have hgk:((ofO l 1 1).take (k+1)).map Zkn=((ofO l 1 1).take k).map Zkn ++ [Zkn (ofO l 1 1)[k]]:=by rw [List.take_succ_eq_append_getElem hk,List.map_append];rfl
   rw [hgk,List.flatMap_append]
   have hkl:k≤30:=by omega
   clear hgk hI'
   generalize (((ofO l 1 1).take k).map Zkn).flatMap Zvt=XS at *
   generalize (ofO l 1 1)[k]=n at *
   obtain ⟨n1,n2,n3,n4⟩:=n
   obtain ⟨x4,hx4⟩:∃ x,(n4 == 1)=x:=⟨_,rfl⟩
   have HP:Hid (Zvt (Zkn (n1,n2,n3,n4))=[.int .i64 n2,.int .i64 n3,.bool x4]):=by
    show _=_
    rw [← hx4]
    rfl
   unfold Zcp
   unfold ntL
   gi_wp2_with fail
   refine ⟨(Lets.refl _ _).alloc _,fun W₂ hl2 hs2 hI2 _=>?_⟩
   have b4:Blk W₂ A'.heap.size #[n1,n2,n3,n4] 88:=hl2.blk (Blk.new _ _ _) om_
   obtain ⟨aw,cw,bT,hown,hLt⟩:=hI2
   clear hl2 hs2 hk hrec
   have hl4:=b4.lt
   have r4:=b4.cell
   have rT:=bT.cell
   have lT:=bT.lt
   have hsz2:M+5≤W₂.heap.size:=by omega
   generalize A'.heap.size=t4 at *
   (repeat (first|((with_reducible refine Za8 ?_ ?_ ?_);(focus exact fun ⟨_,_,h⟩=>h);(focus rfl))|gi_step))
   go_wp2_with (first
    | (at_builtin;refine Za2 ?_))
   unfold Stop
   have bG:Blk (W₂.alloc (.cells #[n2,n3,.bool x4] 135)) W₂.heap.size #[n2,n3,.bool x4] 135:=Blk.new _ _ _
   refine wpList_append_own _ rfl _ _ 52 rfl (M+5) 135 i1 _ 3 24 underlying52 ji jz0 jz1 jz2 rfl de_ (.slice aw k cw) k _ rfl (hown.alloc _) ⟨W₂.heap.size,0,none⟩ 1 1 [↑n2,↑n3,.bool x4] rfl rfl (Zdh bG _ rfl) (by simp [Value.oneCell']) (by unfold maxLen;omega) om_ (by simp;omega) ?_
   intro v' w6 hown' hgrow _
   obtain ⟨av',cv',rfl⟩:=Zb9 hown'
   have hl26:Lets (fun k _=>k=N+2∨M+5≤k) W₂ w6:=((Lets.refl _ _).alloc _).grown hgrow (fun g hg hlt=>.inr (Zad hown hg).1)
   have bT6:Blk w6 (N+2) #[b.V,b.nd,b.lo,b.hi,.slice av gl cv,.slice aw k cw] 54:=(hgrow.block (N+2) (by simp;omega) (fun e=>by have:=(Zad hown e.symm).1;omega)).trans (bT.alloc _)
   have r6:=bT6.cell
   have f6:=bT6.free
   have l6:=bT6.lt
   clear r4 rT lT hl4
   go_wp2_with fail
   gi_wp2_with fail
   have hl27:=hl26.setCell (p:=⟨N+2,5,none⟩) (.inl rfl) (.slice av' (k+1) cv')
   exact ⟨hl27,trivial,av',cv',bT6.set 5 _,Zaw (X:=fun k _=>k=N+2) (by rw [List.flatMap_cons,List.flatMap_nil,List.append_nil,HP.out];exact hown') ((Lets.refl _ _).setCell rfl _) (fun _ _ h e=>om_),hLt.trans (hl27.mono fun _ _ e=>om_)⟩
  case done =>
   intro W hI' _ hDM
   obtain ⟨aw,cw,bT,hown,hLt⟩:=hI'
   rw [List.take_length] at hown
   have b2W:=hLt.blk b25 om_
   have hBW:=Za3 hBW5 hLt (n:=N) (by have:=HN.out;omega) (fun _ _ _=>om_)
   have hownG:W.ownsRow (N+8) 133 3 (.slice av gl cv) gl ((((ofO l 0 0)).map grpO).flatMap Zpc):=Zbn hown5 nl_ fun g hg=>hLt.block g (by have:=(Zad hown5 hg).2;omega) (fun e=>by have:=hgM g hg;omega)
   have hDN:=hLt.block (N+6) om_ om_
   rw [hD5] at hDN
   have hsM:=lt_of_block hDM
   have hgl2:(ofO l 1 1).length=((ofO l 1 1).map Zkn).length:=(List.length_map ..).symm
   generalize hpl:(ofO l 1 1).length=pl at *
   simp only [Exit.inBlock,Exit.then]
   go_wp2_with (first
    | (refine Za0 54 (.tmp 3) Zki rfl rfl rfl bT rfl ?_)
    | (refine Za1 54 (.tmp 2) (.tmp 65) Zki rfl rfl rfl rfl b2W rfl rfl (by simp [Value.oneCell']) ?_;intro w8 h8))
   have hl8:Lets (fun j _=>j=N+1) W w8:=(Lets.refl _ _).rowed h8 rfl
   have hD8:w8.heap[w5.heap.size]? = some (.deferred (some [])):=(hl8.block _ (lt_of_block hDM) om_).trans hDM
   have hE8:w8.heap[N+6]? = some (.deferred (some [])):=(hl8.block _ om_ om_).trans hDN
   have hB8:Below N w w8:=Za3 hBW hl8 (by have:=HN.out;omega) (fun _ _ _=>om_)
   have hG8:w8.ownsRow (N+8) 133 3 (.slice av gl cv) gl ((((ofO l 0 0)).map grpO).flatMap Zpc):=Zaw hownG hl8 (fun _ _ h e=>om_)
   have hP8:=Zaw hown hl8 (fun _ _ h e=>om_)
   refine Zvm (v:=bv (bnO b l) av cv aw cw) rfl hD8 hE8 om_ fun w' hl hs=>?_
   have hG9:w'.ownsRow (N+8) 133 3 (.slice av gl cv) gl ((((ofO l 0 0)).map grpO).flatMap Zpc):=Zbn hG8 nl_ fun g hg=>hl.block g (Zad hG8 hg).2 (fun e=>by have:=hgM g hg;omega)
   have hP9:=Zaw hP8 hl (fun _ _ h e=>om_)
   rw [← hlg] at hG9
   rw [hgl2] at hP9
   obtain ⟨a1,c1,e1,hr1⟩:=Zbm Zwu hG9
   obtain ⟨a2,c2,e2,hr2⟩:=Zbm Zvs hP9
   simp only [Value.slice.injEq,true_and] at e1 e2
   obtain ⟨rfl,rfl⟩:=e1
   obtain ⟨rfl,rfl⟩:=e2
   have hBf:Below N w w':=Za3 hB8 hl (by have:=HN.out;omega) (fun _ _ h e=>om_)
   refine ⟨?_,av,cv,aw,cw,rfl,by rw [HN.out];exact hBf,rows_gs hr1,rows_ps hr2⟩
   unfold bv bnO
   simp only
   rw [hlg,← hgl2]
   exact Za5 rfl _ Zki rfl (Zc8 h8.blk hl (fun _=>om_)) rfl
end Go.Proofs.YtbapgefodmmikaaGreatDoor
