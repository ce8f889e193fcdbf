/- Parts of a proof. -/
import Derived.Test.YtbapgefodmmikaaGreatDoorKMin
import Derived.Defers
import Derived.Recover
import Derived.Tactics2
import Derived.Test.YtbapgefodmmikaaGreatDoorK07
set_option linter.unusedVariables false
set_option linter.unusedSimpArgs false
set_option maxHeartbeats 40000000
set_option maxRecDepth 100000
namespace Go.Proofs.YtbapgefodmmikaaGreatDoor
open Go.RowKit Go.Proofs Go.Ord Tryz
attribute [local irreducible] Ord.walk
theorem Zbt (p:Option Addr) (w:World) :
  Calls prog 82 #[.nilIface,.pointer p] w (Same (.tuple #[]) w):=by
 go_enter func82,ntmps82
 go_wp2
 go_end0
 exact ⟨rfl,rfl⟩
def Caught (e:Int) (pb:Nat) (w:World) (w':World):Prop:=Off [pb] w.heap.size w w'∧Blk w' pb #[e] 31
theorem Zbj (e:Int) (pb:Nat) (w:World) (hb:Blk w pb #[()] 31) :
  Calls prog 82 #[Zfr e,.pointer pb] w fun x w'=>x=.returned (.tuple #[])∧Caught e pb w w':=by
 have r0:=hb.cell
 have r1:=hb.free
 have hlt:=hb.lt
 have hta:∀ w,(Instr.typeAssert (Zfr e) 20 228 true).run prog w=.ok (.tuple #[.agg #[e],.bool true]) w:=fun _=>by kernel_rfl
 have heq:∀ w,(Go.binOp .eql 20 (Zfr e) .nilIface).run prog w=.ok (.bool false) w:=fun _=>by kernel_rfl
 unfold Zfr at *
 go_enter func82,ntmps82
 go_wp2
 go_end0
 refine ⟨rfl,((Off.refl _ _ _).setCell (.inl sp_) _).alloc sp_ _,(hb.set 0 _).alloc _⟩
def Zty (K:FuncId):Prop :=
 (∀ (e:Int) (pb:Nat) (w:World),Blk w pb #[()] 31→CallsD prog K #[.pointer pb] (.panicking [{ v:=Zfr e,recovered:=false }]) w
  fun x u' w'=>x=.returned (.tuple #[])∧u'=.panicking [{ v:=Zfr e,recovered:=true }]∧Caught e pb w w') ∧
 (∀ (pb:Nat) (w:World),CallsD prog K #[.pointer pb] .returning w fun x u' w'=>x=.returned (.tuple #[])∧u'=.returning∧w'=w)
theorem Zf4:Zty 81:=by
 refine ⟨fun e pb w hb=>?_,fun pb w=>?_⟩
 ·have HS:=hd_ (Zbj e pb w hb)
  unfold Zfr at *
  refine callsD_of_wpS func81 rfl fun c₀ cs hu=>?_
  apply wpS_region
  simp [wpOpsS,go_sem,recoverD,hu,ntmps81]
  refine HS.out.mono ?_
  rintro x w' ⟨rfl,h2⟩
  simp [bodyPostS,results,results81,go_sem]
  exact h2
 ·have HS:=hd_ (Zbt (some ⟨pb,0,none⟩) w)
  refine callsD_of_wpS func81 rfl fun c₀ cs hu=>?_
  apply wpS_region
  simp [wpOpsS,go_sem,recoverD,hu,ntmps81]
  refine HS.out.mono ?_
  rintro x w' ⟨rfl,rfl⟩
  cases c₀
  simp_all [bodyPostS,results,results81,go_sem]
theorem Zgi:Zty 87:=by
 refine ⟨fun e pb w hb=>?_,fun pb w=>?_⟩
 ·have HS:=hd_ (Zbj e pb w hb)
  unfold Zfr at *
  refine callsD_of_wpS func87 rfl fun c₀ cs hu=>?_
  apply wpS_region
  simp [wpOpsS,go_sem,recoverD,hu,ntmps87]
  refine HS.out.mono ?_
  rintro x w' ⟨rfl,h2⟩
  simp [bodyPostS,results,results87,go_sem]
  exact h2
 ·have HS:=hd_ (Zbt (some ⟨pb,0,none⟩) w)
  refine callsD_of_wpS func87 rfl fun c₀ cs hu=>?_
  apply wpS_region
  simp [wpOpsS,go_sem,recoverD,hu,ntmps87]
  refine HS.out.mono ?_
  rintro x w' ⟨rfl,rfl⟩
  cases c₀
  simp_all [bodyPostS,results,results87,go_sem]
theorem Zgj:Zty 95:=by
 refine ⟨fun e pb w hb=>?_,fun pb w=>?_⟩
 ·have HS:=hd_ (Zbj e pb w hb)
  unfold Zfr at *
  refine callsD_of_wpS func95 rfl fun c₀ cs hu=>?_
  apply wpS_region
  simp [wpOpsS,go_sem,recoverD,hu,ntmps95]
  refine HS.out.mono ?_
  rintro x w' ⟨rfl,h2⟩
  simp [bodyPostS,results,results95,go_sem]
  exact h2
 ·have HS:=hd_ (Zbt (some ⟨pb,0,none⟩) w)
  refine callsD_of_wpS func95 rfl fun c₀ cs hu=>?_
  apply wpS_region
  simp [wpOpsS,go_sem,recoverD,hu,ntmps95]
  refine HS.out.mono ?_
  rintro x w' ⟨rfl,rfl⟩
  cases c₀
  simp_all [bodyPostS,results,results95,go_sem]
theorem Zf8:Zty 97:=by
 refine ⟨fun e pb w hb=>?_,fun pb w=>?_⟩
 ·have HS:=hd_ (Zbj e pb w hb)
  unfold Zfr at *
  refine callsD_of_wpS func97 rfl fun c₀ cs hu=>?_
  apply wpS_region
  simp [wpOpsS,go_sem,recoverD,hu,ntmps97]
  refine HS.out.mono ?_
  rintro x w' ⟨rfl,h2⟩
  simp [bodyPostS,results,results97,go_sem]
  exact h2
 ·have HS:=hd_ (Zbt (some ⟨pb,0,none⟩) w)
  refine callsD_of_wpS func97 rfl fun c₀ cs hu=>?_
  apply wpS_region
  simp [wpOpsS,go_sem,recoverD,hu,ntmps97]
  refine HS.out.mono ?_
  rintro x w' ⟨rfl,rfl⟩
  cases c₀
  simp_all [bodyPostS,results,results97,go_sem]
theorem Zjr:Zty 369:=by
 refine ⟨fun e pb w hb=>?_,fun pb w=>?_⟩
 ·have HS:=hd_ (Zbj e pb w hb)
  unfold Zfr at *
  refine callsD_of_wpS func369 rfl fun c₀ cs hu=>?_
  apply wpS_region
  simp [wpOpsS,go_sem,recoverD,hu,ntmps369]
  refine HS.out.mono ?_
  rintro x w' ⟨rfl,h2⟩
  simp [bodyPostS,results,results369,go_sem]
  exact h2
 ·have HS:=hd_ (Zbt (some ⟨pb,0,none⟩) w)
  refine callsD_of_wpS func369 rfl fun c₀ cs hu=>?_
  apply wpS_region
  simp [wpOpsS,go_sem,recoverD,hu,ntmps369]
  refine HS.out.mono ?_
  rintro x w' ⟨rfl,rfl⟩
  cases c₀
  simp_all [bodyPostS,results,results369,go_sem]
theorem Zfn:Zty 99:=by
 refine ⟨fun e pb w hb=>?_,fun pb w=>?_⟩
 ·have HS:=hd_ (Zbj e pb w hb)
  unfold Zfr at *
  refine callsD_of_wpS func99 rfl fun c₀ cs hu=>?_
  apply wpS_region
  simp [wpOpsS,go_sem,recoverD,hu,ntmps99]
  refine HS.out.mono ?_
  rintro x w' ⟨rfl,h2⟩
  simp [bodyPostS,results,results99,go_sem]
  exact h2
 ·have HS:=hd_ (Zbt (some ⟨pb,0,none⟩) w)
  refine callsD_of_wpS func99 rfl fun c₀ cs hu=>?_
  apply wpS_region
  simp [wpOpsS,go_sem,recoverD,hu,ntmps99]
  refine HS.out.mono ?_
  rintro x w' ⟨rfl,rfl⟩
  cases c₀
  simp_all [bodyPostS,results,results99,go_sem]
theorem Zvv (n i:Nat) (h:i < n):hasB (2 ^ n - 1) i=true:=Q2k
theorem Zgo (ks ws:List Kn):sel ks (2 ^ ks.length - 1) ws=ks ++ ws:=by
 unfold sel
 congr 1
 have:∀ k,k≤ks.length→Ze5 ks (2 ^ ks.length - 1) k=ks.take k:=by
  intro k
  induction k with
  | zero=>intro _;simp [Ze5]
  | succ k ih =>
   intro h
   rw [Zd3 ks _ k om_,ih om_,Zvv _ _ om_,if_pos rfl,List.take_succ_eq_append_getElem om_]
 rw [this _ nl_,List.take_length]
structure Vt (w:World) (v:Nat) (b:Bn) (V:Nat) (ks:List Kn) (ga:Option Addr) (gc:Nat) (pa:Option Addr) (pc:Nat) (ka:Option Addr) (kc:Nat):Prop where
 va:VoteAt w v b ga gc pa pc ka ks.length kc
 kn:KnAt w ka ks
 hV:b.V=(V:Int)
 hV1:1≤V
 hV8:V≤8
 hlo:0≤b.lo
 hhi:b.hi≤8
 hkl:ks.length≤8
 hok:∀ x∈ks,knOk x
 hgn:ks.countP isG≤4
theorem Vt.below {w w':World}{v:Nat}{b:Bn}{V:Nat}{ks:List Kn}{ga:Option Addr}{gc:Nat}{pa:Option Addr}{pc:Nat}{ka:Option Addr}{kc:Nat}(h:Vt w v b V ks ga gc pa pc ka kc) (hb:w w'):Vt w' v b V ks ga gc pa pc ka kc :=
 ⟨VoteAt.below h.va hb,h.kn.below hb,h.hV,h.hV1,h.hV8,h.hlo,h.hhi,h.hkl,h.hok,h.hgn⟩
theorem Zwc (V:Nat) (hV:V≤8) (lo hi:Int) (L:List Kn) (n:Nat):Za6 V lo hi L n≤256:=by
 unfold Za6
 split
 ·omega
 ·rename_i t gs _
  have h1:=Zv2 gs (Zav gs t V V) n
  have h2:=Zer gs t V V
  have h3:=Nat.pow_le_pow_right (show 0 < 2 by omega) hV
  have h4:(2:Nat) ^ 8=256:=rfl
  omega
theorem Zb7 (V:Nat) (hV:V≤8) (lo hi:Int) (L:List Kn):csum (Za6 V lo hi L)≤2304:=by
 have h:=Zwc V hV lo hi L
 have:=h 0;have:=h 1;have:=h 2;have:=h 3;have:=h 4;have:=h 5;have:=h 6;have:=h 7;have:=h 8
 unfold csum;omega
section
variable {w:World}{v:Nat}{b:Bn}{V:Nat}{ks:List Kn}{ga:Option Addr}{gc:Nat}{pa:Option Addr}{pc:Nat}{ka:Option Addr}{kc:Nat}
theorem Vt.counts (h:Vt w v b V ks ga gc pa pc ka kc) (ws:List Kn) (wa:Option Addr) (wcap:Nat) (set:Nat) (hset:set < 2 ^ 62) (hw:KnAt w wa ws) (hwl:ws.length≤2) (hwo:∀ x∈ws,knOk x) (hwc:wa=none→wcap=0) :
  Calls prog 92 #[.pointer v,.int .u64 set,.slice wa ws.length wcap] w (Zal (cv (Za6 V b.lo b.hi (sel ks set ws))) w) :=
 b_counts v b V h.hV h.hV8 h.hlo h.hhi ga gc pa pc ka kc ks ws set wa wcap w h.va h.kn hw h.hkl hwl hset (by intro x hx;rcases List.mem_append.1 hx with hx|hx;exact h.hok x hx;exact hwo x hx) hwc h.hgn
theorem Vt.full (h:Vt w v b V ks ga gc pa pc ka kc):2 ^ ks.length - 1 < 2 ^ 62:=by
 have:=Nat.pow_le_pow_right (show 0 < 2 by omega) h.hkl
 have h2:(2:Nat) ^ 8=256:=rfl
 omega
theorem Vt.every (h:Vt w v b V ks ga gc pa pc ka kc):Calls prog 93 #[.pointer v] w (Same (.int .u64 ((2 ^ ks.length - 1:Nat):Int)) w) :=
 b_every v w ka ks.length kc h.hkl h.va.c6
theorem Vt.all (h:Vt w v b V ks ga gc pa pc ka kc):Calls prog 92 #[.pointer v,.int .u64 ((2 ^ ks.length - 1:Nat):Int),.slice none 0 0] w (Zal (cv (Za6 V b.lo b.hi ks)) w):=by
 have:=h.counts [] none 0 (2 ^ ks.length - 1) h.full (by intro i hi;simp at hi) sp_ sp_ (fun _=>rfl)
 rwa [Zgo,List.append_nil] at this
end
theorem Zf1 (c:Nat→Nat):(Zay c).size=9:=rfl
theorem Zf2 (c:Nat→Nat):(Zay c).all (·.oneCell')=true:=by simp [Zay,Value.oneCell']
theorem Zd4 {w:World}{v:Nat}{b:Bn}{V:Nat}{ks:List Kn}{ga:Option Addr}{gc:Nat}{pa:Option Addr}{pc:Nat}{ka:Option Addr}{kc:Nat}(h:Vt w v b V ks ga gc pa pc ka kc) (hs:0 < csum (Za6 V b.lo b.hi ks)) :
  Calls prog 85 #[.pointer v] w (Zal (cv (Za6 V b.lo b.hi ks)) w):=by
 have hle:=Zb7 V h.hV8 b.lo b.hi ks
 have HE:=hd_ (fun w' (hb:Below w.heap.size w w')=>(h.below hb).every)
 have HC:=hd_ (fun w' (hb:Below w.heap.size w w')=>(h.below hb).all)
 have HA:=hd_ (Zr2 (Za6 V b.lo b.hi ks) om_)
 have HM:=hd_ Zi0
 have q1:=Zf1 (Za6 V b.lo b.hi ks)
 have q2:=Zf2 (Za6 V b.lo b.hi ks)
 have hgt:((csum (Za6 V b.lo b.hi ks):Int) > 0):=by omega
 have hcv:Hid (cv (Za6 V b.lo b.hi ks)=.agg (Zay (Za6 V b.lo b.hi ks))):=rfl
 generalize csum (Za6 V b.lo b.hi ks)=S at *
 generalize cv (Za6 V b.lo b.hi ks)=CV at *
 generalize Zay (Za6 V b.lo b.hi ks)=OC at *
 obtain rfl:=hcv.out
 go_enter func85,ntmps85
 go_wp2_with (first
  | (go_at_call 93;refine (HE.out _ bel_).mono ?_;rintro e w' ⟨rfl,rfl⟩)
  | (go_at_call 92;refine (HC.out _ bel_).mono ?_;rintro e w1 ⟨rfl,hb1⟩)
  | (go_at_call 90;refine (HA.out _).mono ?_;rintro e w3 ⟨rfl,hb3⟩;have b3:=h2.blk.below hb3 h2.blk.lt;have b2:=h2.other (((Blk.new w (Zay fun _=>0) 142).below hb1 sp_).alloc _) (by have:=hb1.size;simp at this;omega);have b0:=b2.below hb3 b2.lt)
  | (go_at_call 102;refine (HM.out _ _).mono ?_;rintro e w' ⟨rfl,rfl⟩)
  | (refine Za1 142 (.tmp 3) (.tmp 7) Zan rfl rfl rfl rfl (Blk.new _ _ _) rfl q1 q2 ?_;intro w2 h2)
  | (refine Za1 142 (.tmp 2) (.tmp 12) Zan rfl rfl rfl rfl b0 rfl q1 q2 ?_;intro w5 h5;refine Za2 ?_)
  | (refine Za0 142 (.tmp 3) Zan rfl rfl rfl b3 q1 ?_)
  | (refine Za0 142 (.tmp 3) Zan rfl rfl rfl h2.blk q1 ?_))
 unfold Stop
 go_wp2_with fail
 (try simp only [Exit.inBlock,Exit.then])
 refine bodyPost_ret (v:=.agg OC) (Za5 rfl _ Zan rfl h5.blk q1) rfl ⟨rfl,?_⟩
 have hb4:w w2:=h2.below (((br_.alloc nl_ _).trans (hb1.mono sp_)).alloc (by have:=hb1.size;simp at this;omega) _) (by have:=hb1.size;simp at this;omega)
 exact h5.below (hb4.trans (hb3.mono hb4.size)) nl_
theorem Zfm:∀ a < 256,∀ i < 8,a < 2 ^ i→bits .or .i64 ((a:Nat):Int) ((2 ^ i:Nat):Int)=((a+2 ^ i:Nat):Int):=by decide +kernel
def cOne (V:Nat) (lo hi:Int) (ks:List Kn) (i:Nat):Nat→Nat:=Za6 V lo hi (ks ++ [Kn.g (2 ^ i) 1 1])
def Zau (m:(Nat→Nat)→Nat) (V:Nat) (lo hi:Int) (ks:List Kn):Nat→Nat × Nat
 | 0=>(0,0)
 | i+1 =>
  let s:=Zau m V lo hi ks i
  if m (cOne V lo hi ks i)=m (Za6 V lo hi ks) then (s.1+2 ^ i,s.2) else if m (cOne V lo hi ks i)=0 then (s.1,s.2+2 ^ i) else s
theorem Zo0 (m:(Nat→Nat)→Nat) (V:Nat) (lo hi:Int) (ks:List Kn) (i:Nat):(Zau m V lo hi ks i).1 < 2 ^ i∧(Zau m V lo hi ks i).2 < 2 ^ i:=by
 induction i with
 | zero=>simp [Zau]
 | succ i ih =>
  rw [Nat.pow_succ]
  simp only [Zau]
  split
  ·simp only;omega
  ·split
   ·simp only;omega
   ·omega
theorem Zm9 (k:Nat) (h:k < 9):wrap64 ((2:Int) ^ k)=((2 ^ k:Nat):Int):=by
 rcases (show k=0∨k=1∨k=2∨k=3∨k=4∨k=5∨k=6∨k=7∨k=8 by omega) with rfl|rfl|rfl|rfl|rfl|rfl|rfl|rfl|rfl <;> (unfold wrap64;decide)
theorem Zdq:Zds prog 157 2:=⟨_,underlying157,rfl,by kernel_rfl⟩
def atN (n:Nat) (c:Nat→Nat):Nat:=c n
theorem Zji (w:World) (k:Kn) (t:TypeId):KnAt (w.alloc (.cells #[knV k] t)) w.heap.size [k]:=by
 intro i hi
 have:i=0:=by simpa using hi
 subst this
 exact ⟨_,_,rfl,(Blk.new w #[knV k] t).cell 0⟩
theorem _root_.Qp {p:Prop}(h:p:=by
 clear hbw hb3 hb4 hb5 hbw3 hbw4 bs
 have r5:=bs5.cell
 have f5:=bs5.free
 refine Ord.wp_region [(0,0),(1,0),(2,0),(3,0),(4,0),(5,0),(6,2)] (fun _=>True) kr_ kr_ (fun c a d v w h=>by cases d <;> exact h) trivial ?_
 go_wp2_with (first|(refine o_ ?_;intro K hK)|(with_reducible first|refine Zxn ?_ ?_|refine Zxi ?_|refine Zxe bn_ (fun _=>?_)))
 refine ⟨⟨k+1,om_,by go_num,by exact bel_,?_⟩,by simp [intOf];omega⟩
 rw [HS2.out]
 simp only [Int.natCast_add]
 exact (bs5.set 1 _).drew):p:=h
theorem _root_.Qq {p:Prop}(h:p:=by
 clear hbw hb3 hb4 hb5 hbw3 hbw4 bs
 have r5:=bs5.cell
 have f5:=bs5.free
 refine Ord.wp_region [(0,0),(1,0),(2,0),(3,0),(4,0),(5,0),(6,2)] (fun _=>True) kr_ kr_ (fun c a d v w h=>by cases d <;> exact h) trivial ?_
 go_wp2_with (first|(refine o_ ?_;intro K hK)|(with_reducible first|refine Zxn ?_ ?_|refine Zxi ?_|refine Zxe bn_ (fun _=>?_)))
 refine ⟨⟨k+1,om_,by go_num,by exact bel_,?_⟩,by simp [intOf];omega⟩
 rw [HS2.out]
 simp only [Int.natCast_add]
 exact (bs5.set 0 _).drew):p:=h
theorem _root_.Qz {p:Prop}(h:p:=by
 go_wp2_with (first
  | (refine Za0 157 (.tmp 4) Zdq rfl rfl rfl bs rfl ?_)
  | (refine Za1 157 (.tmp 4) (.tmp 48) Zdq rfl rfl rfl rfl bs rfl rfl (by simp [Value.oneCell']) ?_;intro w6 h6))
 (try simp only [Exit.inBlock,Exit.then])
 refine bodyPost_ret (v:=.agg #[.int .i64 s.1,.int .i64 s.2]) (Za5 rfl _ Zdq rfl h6.blk rfl) rfl ⟨rfl,?_⟩
 exact h6.below hbw nl_):p:=h
theorem _root_.Q12 {p:Prop}(h:p:=by
 intro w' i hi hb bk hk
 have:=(h.below hb).counts [Kn.g (2 ^ i) 1 1] (some ⟨bk,0,none⟩) 1 (2 ^ ks.length - 1) h.full hk sp_ (by
  intro x hx;simp only [List.mem_singleton] at hx;subst hx
  show 2 ^ i < 256
  have:=Nat.pow_le_pow_right (show 0 < 2 by omega) (show i≤7 by have:=h.hV8;omega)
  have e:(2:Nat) ^ 7=128:=rfl
  omega) sp_
 rwa [Zgo] at this):p:=h
theorem _root_.Q2v {p:Prop}(h:p:=by
 refine ⟨⟨k+1,om_,by go_num,hbw5,?_⟩,by simp [intOf];omega⟩
 rw [HS2.out]
 exact bs5):p:=h
theorem Ztq {w:World}{v:Nat}{b:Bn}{V:Nat}{ks:List Kn}{ga:Option Addr}{gc:Nat}{pa:Option Addr}{pc:Nat}{ka:Option Addr}{kc:Nat}(h:Vt w v b V ks ga gc pa pc ka kc)  :
  Calls prog 96 #[.pointer (some ⟨v,0,none⟩),.func (.func 90) #[] #[]] w (Zal (.agg #[.int .i64 (Zau (csum) V b.lo b.hi ks V).1,.int .i64 (Zau (csum) V b.lo b.hi ks V).2]) w):=by
 have HE:=hd_ (fun w' (hb:Below w.heap.size w w')=>(h.below hb).every)
 have HC:=hd_ (fun w' (hb:Below w.heap.size w w')=>(h.below hb).all)
 have HO:Hid (∀ w' i,i < V→Below w.heap.size w w'→∀ bk,KnAt w' (some ⟨bk,0,none⟩) [Kn.g (2 ^ i) 1 1]→Calls prog 92 #[.pointer (some ⟨v,0,none⟩),.int .u64 ((2 ^ ks.length - 1:Nat):Int),.slice (some ⟨bk,0,none⟩) 1 1] w' (Zal (cv (cOne V b.lo b.hi ks i)) w')):=Q12
 have HM:Hid (∀ c w',csum c≤2304→Below w.heap.size w w'→Calls prog 90 #[cv c] w' (Zal (.int .i64 ((csum) c:Nat)) w')):=by
  intro c w' hc hb
  exact Zr2 c om_ w'
 have HB:=hd_ b_one
 have hV8:=h.hV8
 have v0:=h.va.c0
 rw [h.hV] at v0
 have hvlt:=bl_ w _ v0
 have HCA:=hd_ (Zb7 V hV8 b.lo b.hi)
 obtain ⟨C,hC⟩:∃ C,Za6 V b.lo b.hi ks=C:=⟨_,rfl⟩
 rw [hC] at HC
 have hCs:csum C≤2304:=by rw [← hC];exact HCA.out _
 have HCC:=hd_ hC
 clear hC
 have HLT:=hd_ (Zo0 (csum) V b.lo b.hi ks)
 go_enter func96,ntmps96
 go_wp2_with (first
  | (go_at_call 93;refine (HE.out _ bel_).mono ?_;rintro e w' ⟨rfl,rfl⟩)
  | (go_at_call 92;refine (HC.out _ bel_).mono ?_;rintro e w1 ⟨rfl,hb1⟩;have z1:w.heap.size+1≤w1.heap.size:=(by have:=hb1.size;simpa using this);have bs1:Blk w1 w.heap.size #[(),()] 157:=(Blk.new _ _ _).below hb1 sp_)
  | (go_at_call 90;refine (HM.out _ _ hCs bel_).mono ?_;rintro e w2 ⟨rfl,hb2⟩;have hbw2:Below w.heap.size w w2:=bel_;have bs2:=bs1.below hb2 om_;have z2:=hb2.size;have v2:=Za4 hbw2 v0))
 clear bs1 hb2
 go_loopw [18] (fun i wr=>∃ k:Nat,k≤V∧i=↑k∧Below w.heap.size w wr∧Blk wr w.heap.size #[.int .i64 (Zau (csum) V b.lo b.hi ks k).1,.int .i64 (Zau (csum) V b.lo b.hi ks k).2] 157) (fun i _=>V - (intOf i).toNat)
 case atStart=>exact ⟨0,om_,rfl,hbw2,bs2⟩
 case round =>
  clear bs2 hbw2 v2 z1 z2
  obtain ⟨k,hk,rfl,hbw,bs⟩:=hrel
  have v2:=Za4 hbw v0
  have z:=hbw.size
  have ls:=bs.lt
  by_cases hlt:k < V
  ·have hlti:(k:Int) < (V:Int):=by omega
   have HOk:=hd_ (fun w' hb bk hkn=>HO.out w' k hlt hb bk hkn)
   have hCs2:csum (cOne V b.lo b.hi ks k)≤2304:=HCA.out _
   have hST:Zau (csum) V b.lo b.hi ks (k+1)=if (csum) (cOne V b.lo b.hi ks k)=(csum) C then ((Zau (csum) V b.lo b.hi ks k).1+2 ^ k,(Zau (csum) V b.lo b.hi ks k).2) else if (csum) (cOne V b.lo b.hi ks k)=0 then ((Zau (csum) V b.lo b.hi ks k).1,(Zau (csum) V b.lo b.hi ks k).2+2 ^ k) else Zau (csum) V b.lo b.hi ks k:=by rw [← HCC.out];rfl
   have HST:=hd_ hST
   clear hST
   have hl:=HLT.out k
   generalize cOne V b.lo b.hi ks k=D at *
   generalize Zau (csum) V b.lo b.hi ks k=s at *
   obtain ⟨sw,sb⟩:=s
   simp only at bs hl
   have hor1:=Zfm sw (by have:=Nat.pow_le_pow_right (show 0 < 2 by omega) (show k≤8 by omega);have e:(2:Nat) ^ 8=256:=rfl;omega) k om_ hl.1
   have hor2:=Zfm sb (by have:=Nat.pow_le_pow_right (show 0 < 2 by omega) (show k≤8 by omega);have e:(2:Nat) ^ 8=256:=rfl;omega) k om_ hl.2
   have HMD:=hd_ (fun w' hb=>HM.out D w' hCs2 hb)
   clear hCs2
   have hwp:=Zm9 k om_
   have HB2:=hd_ (fun w'=>HB.out k k rfl om_ true w')
   obtain ⟨P,hP⟩:∃ P,2 ^ k=P:=⟨_,rfl⟩
   rw [hP] at HOk HST hl hor1 hor2 hwp HB2
   clear hP
   by_cases hA:(csum) D=(csum) C
   ·have hAi:(((csum) D:Int) == ((csum) C:Int))=true:=by rw [hA];simp
    have h2:=HST.out
    rw [if_pos hA] at h2
    have HS2:=hd_ h2
    clear h2 HST hA
    go_wp2_with (first
     | (go_at_call 93;refine (HE.out _ bel_).mono ?_;rintro e w' ⟨rfl,rfl⟩)
     | (go_at_call 94;refine (HB2.out _).mono ?_;rintro e w3 ⟨rfl,hb3⟩;have hbw3:Below w.heap.size w w3:=hbw.trans (hb3.mono z))
     | (go_at_call 92;refine (HOk.out _ (hbw3.alloc hbw3.size _) _ (Zji _ _ _)).mono ?_;rintro e w4 ⟨rfl,hb4⟩;have hbw4:Below w.heap.size w w4:=(hbw3.alloc hbw3.size _).trans (hb4.mono (by have:=hbw3.size;simp;omega)))
     | (go_at_call 90;refine (HMD.out _ hbw4).mono ?_;rintro e w5 ⟨rfl,hb5⟩;have hbw5:Below w.heap.size w w5:=hbw4.trans (hb5.mono hbw4.size);have bs5:Blk w5 w.heap.size #[sw,sb] 157:=(((bs.below hb3 ls).alloc _).below hb4 (by have:=hb3.size;simp;omega)).below hb5 (by have:=hb3.size;have:=hb4.size;simp at this;omega)))
    exact Qq
   ·have hAi:(((csum) D:Int) == ((csum) C:Int))=false:=by simp;omega
    have h2:=HST.out
    rw [if_neg hA] at h2
    clear HST hA
    by_cases h0:(csum) D=0
    ·have h0i:(((csum) D:Int) == (0:Int))=true:=by rw [h0];rfl
     rw [if_pos h0] at h2
     have HS2:=hd_ h2
     clear h2 h0
     go_wp2_with (first
      | (go_at_call 93;refine (HE.out _ bel_).mono ?_;rintro e w' ⟨rfl,rfl⟩)
      | (go_at_call 94;refine (HB2.out _).mono ?_;rintro e w3 ⟨rfl,hb3⟩;have hbw3:Below w.heap.size w w3:=hbw.trans (hb3.mono z))
      | (go_at_call 92;refine (HOk.out _ (hbw3.alloc hbw3.size _) _ (Zji _ _ _)).mono ?_;rintro e w4 ⟨rfl,hb4⟩;have hbw4:Below w.heap.size w w4:=(hbw3.alloc hbw3.size _).trans (hb4.mono (by have:=hbw3.size;simp;omega)))
      | (go_at_call 90;refine (HMD.out _ hbw4).mono ?_;rintro e w5 ⟨rfl,hb5⟩;have hbw5:Below w.heap.size w w5:=hbw4.trans (hb5.mono hbw4.size);have bs5:Blk w5 w.heap.size #[sw,sb] 157:=(((bs.below hb3 ls).alloc _).below hb4 (by have:=hb3.size;simp;omega)).below hb5 (by have:=hb3.size;have:=hb4.size;simp at this;omega)))
     exact Qp
    ·have h0i:(((csum) D:Int) == (0:Int))=false:=by simp;omega
     rw [if_neg h0] at h2
     have HS2:=hd_ h2
     clear h2 h0
     go_wp2_with (first
      | (go_at_call 93;refine (HE.out _ bel_).mono ?_;rintro e w' ⟨rfl,rfl⟩)
      | (go_at_call 94;refine (HB2.out _).mono ?_;rintro e w3 ⟨rfl,hb3⟩;have hbw3:Below w.heap.size w w3:=hbw.trans (hb3.mono z))
      | (go_at_call 92;refine (HOk.out _ (hbw3.alloc hbw3.size _) _ (Zji _ _ _)).mono ?_;rintro e w4 ⟨rfl,hb4⟩;have hbw4:Below w.heap.size w w4:=(hbw3.alloc hbw3.size _).trans (hb4.mono (by have:=hbw3.size;simp;omega)))
      | (go_at_call 90;refine (HMD.out _ hbw4).mono ?_;rintro e w5 ⟨rfl,hb5⟩;have hbw5:Below w.heap.size w w5:=hbw4.trans (hb5.mono hbw4.size);have bs5:Blk w5 w.heap.size #[sw,sb] 157:=(((bs.below hb3 ls).alloc _).below hb4 (by have:=hb3.size;simp;omega)).below hb5 (by have:=hb3.size;have:=hb4.size;simp at this;omega)))
     exact Q2v
  ·have hkV:k=V:=by omega
   subst hkV
   generalize Zau (csum) k b.lo b.hi ks k=s at *
   exact Qz
theorem Zr1 (c:Nat→Nat) (pb n:Nat) (hn:n < 9) (w:World) (hp:w.cell? ⟨pb,0,none⟩=some (.int .i64 n)) :
  Calls prog 103 #[cv c,.pointer pb] w (Zal (.int .i64 (c n:Nat)) w):=by
 have hc:=Zp1 c n hn
 generalize hv:(#[(c 0),(c 1),(c 2),(c 3),(c 4),(c 5),(c 6),(c 7),(c 8)]:Array Value)=A at *
 have hsz:A.size=9:=by rw [← hv];rfl
 have hlt:=bl_ w _ hp
 have hni:(n:Int) < 9:=by omega
 unfold cv
 rw [hv]
 clear hv
 go_enter func103,ntmps103
 go_wp2
 go_ret
 refine ⟨?_,br_.alloc nl_ _⟩
 obtain ⟨h1,h2⟩:=Array.getElem?_eq_some_iff.1 hc
 show Ending.returned (A[n]'h1)=_
 rw [h2]
theorem Zr0 {w:World}{v:Nat}{b:Bn}{V:Nat}{ks:List Kn}{ga:Option Addr}{gc:Nat}{pa:Option Addr}{pc:Nat}{ka:Option Addr}{kc:Nat}(h:Vt w v b V ks ga gc pa pc ka kc) (pb n:Nat) (hn:n < 9) (hp:w.cell? ⟨pb,0,none⟩=some (.int .i64 n)) :
  Calls prog 96 #[.pointer (some ⟨v,0,none⟩),.func (.func 103) #[] #[.pointer pb]] w (Zal (.agg #[.int .i64 (Zau (atN n) V b.lo b.hi ks V).1,.int .i64 (Zau (atN n) V b.lo b.hi ks V).2]) w):=by
 have HE:=hd_ (fun w' (hb:Below w.heap.size w w')=>(h.below hb).every)
 have HC:=hd_ (fun w' (hb:Below w.heap.size w w')=>(h.below hb).all)
 have HO:Hid (∀ w' i,i < V→Below w.heap.size w w'→∀ bk,KnAt w' (some ⟨bk,0,none⟩) [Kn.g (2 ^ i) 1 1]→Calls prog 92 #[.pointer (some ⟨v,0,none⟩),.int .u64 ((2 ^ ks.length - 1:Nat):Int),.slice (some ⟨bk,0,none⟩) 1 1] w' (Zal (cv (cOne V b.lo b.hi ks i)) w')):=Q12
 have HM:Hid (∀ c w',csum c≤2304→Below w.heap.size w w'→Calls prog 103 #[cv c,.pointer pb] w' (Zal (.int .i64 ((atN n) c:Nat)) w')):=by
  intro c w' hc hb
  exact Zr1 c pb n hn w' (Za4 hb hp)
 have HB:=hd_ b_one
 have hV8:=h.hV8
 have v0:=h.va.c0
 rw [h.hV] at v0
 have hvlt:=bl_ w _ v0
 have HCA:=hd_ (Zb7 V hV8 b.lo b.hi)
 obtain ⟨C,hC⟩:∃ C,Za6 V b.lo b.hi ks=C:=⟨_,rfl⟩
 rw [hC] at HC
 have hCs:csum C≤2304:=by rw [← hC];exact HCA.out _
 have HCC:=hd_ hC
 clear hC
 have HLT:=hd_ (Zo0 (atN n) V b.lo b.hi ks)
 go_enter func96,ntmps96
 go_wp2_with (first
  | (go_at_call 93;refine (HE.out _ bel_).mono ?_;rintro e w' ⟨rfl,rfl⟩)
  | (go_at_call 92;refine (HC.out _ bel_).mono ?_;rintro e w1 ⟨rfl,hb1⟩;have z1:w.heap.size+1≤w1.heap.size:=(by have:=hb1.size;simpa using this);have bs1:Blk w1 w.heap.size #[(),()] 157:=(Blk.new _ _ _).below hb1 sp_)
  | (go_at_call 103;refine (HM.out _ _ hCs bel_).mono ?_;rintro e w2 ⟨rfl,hb2⟩;have hbw2:Below w.heap.size w w2:=bel_;have bs2:=bs1.below hb2 om_;have z2:=hb2.size;have v2:=Za4 hbw2 v0))
 clear bs1 hb2
 go_loopw [18] (fun i wr=>∃ k:Nat,k≤V∧i=↑k∧Below w.heap.size w wr∧Blk wr w.heap.size #[.int .i64 (Zau (atN n) V b.lo b.hi ks k).1,.int .i64 (Zau (atN n) V b.lo b.hi ks k).2] 157) (fun i _=>V - (intOf i).toNat)
 case atStart=>exact ⟨0,om_,rfl,hbw2,bs2⟩
 case round =>
  clear bs2 hbw2 v2 z1 z2
  obtain ⟨k,hk,rfl,hbw,bs⟩:=hrel
  have v2:=Za4 hbw v0
  have z:=hbw.size
  have ls:=bs.lt
  by_cases hlt:k < V
  ·have hlti:(k:Int) < (V:Int):=by omega
   have HOk:=hd_ (fun w' hb bk hkn=>HO.out w' k hlt hb bk hkn)
   have hCs2:csum (cOne V b.lo b.hi ks k)≤2304:=HCA.out _
   have hST:Zau (atN n) V b.lo b.hi ks (k+1)=if (atN n) (cOne V b.lo b.hi ks k)=(atN n) C then ((Zau (atN n) V b.lo b.hi ks k).1+2 ^ k,(Zau (atN n) V b.lo b.hi ks k).2) else if (atN n) (cOne V b.lo b.hi ks k)=0 then ((Zau (atN n) V b.lo b.hi ks k).1,(Zau (atN n) V b.lo b.hi ks k).2+2 ^ k) else Zau (atN n) V b.lo b.hi ks k:=by rw [← HCC.out];rfl
   have HST:=hd_ hST
   clear hST
   have hl:=HLT.out k
   generalize cOne V b.lo b.hi ks k=D at *
   generalize Zau (atN n) V b.lo b.hi ks k=s at *
   obtain ⟨sw,sb⟩:=s
   simp only at bs hl
   have hor1:=Zfm sw (by have:=Nat.pow_le_pow_right (show 0 < 2 by omega) (show k≤8 by omega);have e:(2:Nat) ^ 8=256:=rfl;omega) k om_ hl.1
   have hor2:=Zfm sb (by have:=Nat.pow_le_pow_right (show 0 < 2 by omega) (show k≤8 by omega);have e:(2:Nat) ^ 8=256:=rfl;omega) k om_ hl.2
   have HMD:=hd_ (fun w' hb=>HM.out D w' hCs2 hb)
   clear hCs2
   have hwp:=Zm9 k om_
   have HB2:=hd_ (fun w'=>HB.out k k rfl om_ true w')
   obtain ⟨P,hP⟩:∃ P,2 ^ k=P:=⟨_,rfl⟩
   rw [hP] at HOk HST hl hor1 hor2 hwp HB2
   clear hP
   by_cases hA:(atN n) D=(atN n) C
   ·have hAi:(((atN n) D:Int) == ((atN n) C:Int))=true:=by rw [hA];simp
    have h2:=HST.out
    rw [if_pos hA] at h2
    have HS2:=hd_ h2
    clear h2 HST hA
    go_wp2_with (first
     | (go_at_call 93;refine (HE.out _ bel_).mono ?_;rintro e w' ⟨rfl,rfl⟩)
     | (go_at_call 94;refine (HB2.out _).mono ?_;rintro e w3 ⟨rfl,hb3⟩;have hbw3:Below w.heap.size w w3:=hbw.trans (hb3.mono z))
     | (go_at_call 92;refine (HOk.out _ (hbw3.alloc hbw3.size _) _ (Zji _ _ _)).mono ?_;rintro e w4 ⟨rfl,hb4⟩;have hbw4:Below w.heap.size w w4:=(hbw3.alloc hbw3.size _).trans (hb4.mono (by have:=hbw3.size;simp;omega)))
     | (go_at_call 103;refine (HMD.out _ hbw4).mono ?_;rintro e w5 ⟨rfl,hb5⟩;have hbw5:Below w.heap.size w w5:=hbw4.trans (hb5.mono hbw4.size);have bs5:Blk w5 w.heap.size #[sw,sb] 157:=(((bs.below hb3 ls).alloc _).below hb4 (by have:=hb3.size;simp;omega)).below hb5 (by have:=hb3.size;have:=hb4.size;simp at this;omega)))
    exact Qq
   ·have hAi:(((atN n) D:Int) == ((atN n) C:Int))=false:=by simp;omega
    have h2:=HST.out
    rw [if_neg hA] at h2
    clear HST hA
    by_cases h0:(atN n) D=0
    ·have h0i:(((atN n) D:Int) == (0:Int))=true:=by rw [h0];rfl
     rw [if_pos h0] at h2
     have HS2:=hd_ h2
     clear h2 h0
     go_wp2_with (first
      | (go_at_call 93;refine (HE.out _ bel_).mono ?_;rintro e w' ⟨rfl,rfl⟩)
      | (go_at_call 94;refine (HB2.out _).mono ?_;rintro e w3 ⟨rfl,hb3⟩;have hbw3:Below w.heap.size w w3:=hbw.trans (hb3.mono z))
      | (go_at_call 92;refine (HOk.out _ (hbw3.alloc hbw3.size _) _ (Zji _ _ _)).mono ?_;rintro e w4 ⟨rfl,hb4⟩;have hbw4:Below w.heap.size w w4:=(hbw3.alloc hbw3.size _).trans (hb4.mono (by have:=hbw3.size;simp;omega)))
      | (go_at_call 103;refine (HMD.out _ hbw4).mono ?_;rintro e w5 ⟨rfl,hb5⟩;have hbw5:Below w.heap.size w w5:=hbw4.trans (hb5.mono hbw4.size);have bs5:Blk w5 w.heap.size #[sw,sb] 157:=(((bs.below hb3 ls).alloc _).below hb4 (by have:=hb3.size;simp;omega)).below hb5 (by have:=hb3.size;have:=hb4.size;simp at this;omega)))
     exact Qp
    ·have h0i:(((atN n) D:Int) == (0:Int))=false:=by simp;omega
     rw [if_neg h0] at h2
     have HS2:=hd_ h2
     clear h2 h0
     go_wp2_with (first
      | (go_at_call 93;refine (HE.out _ bel_).mono ?_;rintro e w' ⟨rfl,rfl⟩)
      | (go_at_call 94;refine (HB2.out _).mono ?_;rintro e w3 ⟨rfl,hb3⟩;have hbw3:Below w.heap.size w w3:=hbw.trans (hb3.mono z))
      | (go_at_call 92;refine (HOk.out _ (hbw3.alloc hbw3.size _) _ (Zji _ _ _)).mono ?_;rintro e w4 ⟨rfl,hb4⟩;have hbw4:Below w.heap.size w w4:=(hbw3.alloc hbw3.size _).trans (hb4.mono (by have:=hbw3.size;simp;omega)))
      | (go_at_call 103;refine (HMD.out _ hbw4).mono ?_;rintro e w5 ⟨rfl,hb5⟩;have hbw5:Below w.heap.size w w5:=hbw4.trans (hb5.mono hbw4.size);have bs5:Blk w5 w.heap.size #[sw,sb] 157:=(((bs.below hb3 ls).alloc _).below hb4 (by have:=hb3.size;simp;omega)).below hb5 (by have:=hb3.size;have:=hb4.size;simp at this;omega)))
     exact Q2v
  ·have hkV:k=V:=by omega
   subst hkV
   generalize Zau (atN n) k b.lo b.hi ks k=s at *
   exact Qz
end Go.Proofs.YtbapgefodmmikaaGreatDoor
