/- Parts of a proof. -/
import Derived.Test.YtbapgefodmmikaaGreatDoorLMin
import Derived.Test.YtbapgefodmmikaaGreatDoorL25
set_option linter.unusedVariables false
set_option linter.unusedSimpArgs false
set_option maxHeartbeats 40000000
set_option maxRecDepth 100000
namespace Go.Proofs.YtbapgefodmmikaaGreatDoor
open Go.RowKit Go.Proofs Go.Ord Tryz
attribute [local irreducible] Ord.walk
open Go.MapG
def kfT (n:Nat):Value:=.agg #[.int .u64 (n:Int)]
def vfT (F:Tb):Value:=.agg (ts (fl F))
def okT (n:Nat):Prop:=n < 256
theorem kt_law:WideMaps.KeyLaw prog 350 :=
 deep_law_gate Zp7 (of_decide_eq_true kr_) (of_decide_eq_true kr_) kr_ (by rw [underlying350])
theorem kt_key {x:Nat}(h:okT x):∃ l,keyOf prog 350 (kfT x)=some l:=by
 unfold okT at h
 have hk:prog.keyType 350=true:=by kernel_rfl
 obtain ⟨m,hm⟩:∃ m,prog.types.size+1=m+4:=⟨prog.types.size - 3,by have:3≤prog.types.size:=of_decide_eq_true kr_;omega⟩
 unfold keyOf
 rw [underlying350]
 simp only [hk,hm]
 have c1:prog.cellsOf 350=1:=by kernel_rfl
 have c4:prog.cellsOf 151=1:=by kernel_rfl
 have hform:(kfT x).formed prog 350=true:=by
  simp [Value.formed,underlying350,c1,kfT]
 rw [hform]
 have hu:∀ n:Int,0≤n∧n < 1000000→(Lit.int .u64 n).wf=true:=fun n hn=>by have:IntKind.u64.min=0:=rfl;have h2:IntKind.u64.max=18446744073709551615:=rfl;simp [Lit.wf,this,h2];omega
 have e1:=hu (x:Int) om_
 simp [Program.keyLits,underlying350,underlying151,kfT,c1,c4,Value.cells,e1]
theorem kt_inj {a b:Nat}(h:kfT a=kfT b):a=b:=by
 simp only [kfT,Value.agg.injEq,Array.mk.injEq,List.cons.injEq,Value.int.injEq,true_and,and_true] at h
 omega
theorem kt_zero (w:World):(zeroValue 267).run prog w=.ok (.agg (ts fun _=>0)) w:=by
 have h:(prog.info? 267).map (·.zero)=some (some (.agg (ts fun _=>0))):=by kernel_rfl
 cases hi:prog.info? 267 with
 | none=>rw [hi] at h;cases h
 | some i =>exact Q1r
theorem kt_mt:MT prog 258 350 267 kfT vfT okT (.agg (ts fun _=>0)) where
 und:=underlying258
 law:=Go.Maps.Keyed.of_law kt_law
 key:=kt_key
 inj:=kt_inj
 zero:=kt_zero
def KeptT (w:World) (mb:Nat) (t:Ty):Prop:=∃ l:List (Nat × Tb),MapAt kfT vfT w mb l∧MapG.MapOk okT l∧∀ p∈l,p.2=Zaa t p.1
def LnT (W0:World) (mb:Nat) (t:Ty) (W:World):Prop:=KeptT W mb t∧Lets (fun k _=>k=mb) W0 W
def Zkl (W0:World) (mb:Nat) (t:Ty) (v:Value) (w:World) (e:Ending) (w':World):Prop:=e=.returned v∧LnT W0 mb t w'∧Lets (fun k _=>k=mb) w w'
def Zig (W0:World) (mb:Nat) (t:Ty) (e:Int) (w:World) (x:Ending) (w':World):Prop:=x=.panicked [{ v:=Zdz e,recovered:=false }]∧LnT W0 mb t w'∧Lets (fun k _=>k=mb) w w'
theorem KeptT.lets {X:Nat→Option Obj→Prop}{w w':World}{mb:Nat}{t:Ty}(h:KeptT w mb t) (hl:Lets X w w') (hx:∀ o,¬ X mb o):KeptT w' mb t:=by
 obtain ⟨l,h1,h2⟩:=h
 exact ⟨l,(hl.block mb h1.lt (hx _)).trans h1,h2⟩
theorem LnT.lets {W0 W W':World}{mb:Nat}{t:Ty}{X:Nat→Option Obj→Prop}(h:LnT W0 mb t W) (hl:Lets X W W') (hmb:mb < W0.heap.size) (hX:∀ k o,X k o→W0.heap.size≤k):LnT W0 mb t W' :=
 ⟨h.1.lets hl (fun o e=>by have:=hX _ _ e;omega),h.2.next hl fun i hi _ e=>by have:=hX _ _ e;omega⟩
theorem LnT.below {W0 W W':World}{mb:Nat}{t:Ty}(h:LnT W0 mb t W) (hb:W W') (hmb:mb < W0.heap.size):LnT W0 mb t W':=h.lets (X:=fun _ _=>False) (Lets.of_below hb) hmb (fun _ _ e=>e.elim)
theorem LnT.drew {W0 W:World}{mb:Nat}{t:Ty}(h:LnT W0 mb t W):LnT W0 mb t W.drew:=⟨h.1,h.2.drew⟩
structure Zbj (W0:World) (Y:Nat) (t:Ty) (sa:Option Addr) (sc:Nat) (ca:Option Addr) (cc mb:Nat):Prop where
 yard:YardAt W0 Y t sa sc ca cc mb
 kept:KeptT W0 mb t
namespace Zbj
variable {W0 W:World}{Y:Nat}{t:Ty}{sa:Option Addr}{sc:Nat}{ca:Option Addr}{cc mb:Nat}
theorem noCells (h:Zbj W0 Y t sa sc ca cc mb) {cs:Array Value}{t:TypeId}{f:Nat × Nat}{k:Nat}(hk:W0.heap[k]? = some (.cells cs t f)):k≠mb:=by
 rintro rfl
 obtain ⟨l,h1,-⟩:=h.kept
 rw [show W0.heap[k]? = _ from h1] at hk
 cases hk
theorem mb_lt (h:Zbj W0 Y t sa sc ca cc mb):mb < W0.heap.size:=by
 obtain ⟨l,h1,-⟩:=h.kept
 exact h1.lt
theorem Y_lt (h:Zbj W0 Y t sa sc ca cc mb):Y < W0.heap.size:=h.yard.blk.lt
theorem Y_ne (h:Zbj W0 Y t sa sc ca cc mb):Y≠mb:=h.noCells h.yard.blk
theorem cell_ne (h:Zbj W0 Y t sa sc ca cc mb) {a:Addr}{v:Value}(hc:W0.cell? a=some v):a.block≠mb∧a.block < W0.heap.size:=Q2a
theorem rows {α:Type}(h:Zbj W0 Y t sa sc ca cc mb) {X:Nat→Option Obj→Prop}(hX:∀ k o,X k o→k=mb∨W0.heap.size≤k) (hl:Lets X W0 W) {a:Option Addr}{n:Nat}{f:α→List Value}{l:List α}(hr:RowsAt W0 a n f l):RowsAt W a n f l:=fun i hi=>by
 obtain ⟨gb,go,h0,h1⟩:=hr i hi
 exact ⟨gb,go,h0,fun j u hu=>hl.cell (h1 j u hu) (fun e=>by
  have h2:=h.cell_ne (h1 j u hu)
  rcases hX _ _ e with e2|e2
  ·exact h2.1 e2
  ·have h3:=h2.2;simp only at h3 e2;omega)⟩
theorem lets (h:Zbj W0 Y t sa sc ca cc mb) {X:Nat→Option Obj→Prop}(hX:∀ k o,X k o→k=mb∨W0.heap.size≤k) (hl:Lets X W0 W):YardAt W Y t sa sc ca cc mb :=
 ⟨hl.blk h.yard.blk (fun e=>by have h2:=h.Y_ne;have h3:=h.Y_lt;rcases hX _ _ e with e2|e2 <;> omega),h.rows hX hl h.yard.strays,h.rows hX hl h.yard.calls⟩
theorem at_ (h:Zbj W0 Y t sa sc ca cc mb) (hw:LnT W0 mb t W):YardAt W Y t sa sc ca cc mb:=h.lets (fun _ _ e=>.inl e) hw.2
end Zbj
theorem LnT.start {W0:World}{Y:Nat}{t:Ty}{sa:Option Addr}{sc:Nat}{ca:Option Addr}{cc mb:Nat}(h:Zbj W0 Y t sa sc ca cc mb):LnT W0 mb t W0:=⟨h.kept,Lets.refl _ _⟩
theorem look_T {t:Ty}{mb:Nat}{l:List (Nat × Tb)}(hok:MapG.MapOk okT l) (hgood:∀ p∈l,p.2=Zaa t p.1) {x:Nat}(hx:okT x) :
  ∃ (G:Nat→Int) (hb:Bool),(∀ W,MapAt kfT vfT W mb l→(Instr.lookup 258 (.map (some mb)) (kfT x) true).run prog W=.ok (.tuple #[.agg (ts G),.bool hb]) W)∧(hb=true→G=fl (Zaa t x)):=by
 cases hg:MapG.get l x with
 | none =>
  refine ⟨fun _=>0,false,fun W hm=>?_,fun h=>by cases h⟩
  rw [kt_mt.lookup hm hok hx true,hg]
  rfl
 | some F =>
  refine ⟨fl F,true,fun W hm=>?_,fun _=>?_⟩
  ·rw [kt_mt.lookup hm hok hx true,hg]
   rfl
  ·have:=hgood _ (MapG.get_mem hg)
   simp only at this
   rw [this]
theorem mem_putT {l:List (Nat × Tb)}{x:Nat}{v:Tb}{p:Nat × Tb}(h:p∈MapG.put l x v):p=(x,v)∨p∈l:=Q1m
def BdIn (x:Nat × Nat × Int × Int):Prop:=x.1 < 11∧x.2.1 < 11∧-1000000≤x.2.2.1∧x.2.2.1≤1000000
theorem Zgj {s n:Nat}(hs:s≤5) (hn:n≤s):Zbl s n < 11:=by unfold Zbl;split <;> omega
theorem Zxk {t:Ty}{s:Nat}(hT:TyIn t s) (set:Nat):∀ x∈Zb7 t set,BdIn x:=by
 intro x hx
 have h5:=hT.five
 have hst:=hT.strays
 have hsh:=hT.sh
 have e:t.sh.toNat=s:=by omega
 unfold Zb7 at hx
 rw [e] at hx
 rcases List.mem_append.1 hx with hx|hx
 ·rcases List.mem_append.1 hx with hx|hx
  ·obtain ⟨i,hi,hx⟩:=List.mem_flatMap.1 hx
   have hi:=List.mem_range.1 hi
   simp only [List.mem_cons,List.not_mem_nil,or_false] at hx
   rcases hx with rfl|rfl
   ·exact ⟨by show i+1 < 11;omega,by show i < 11;omega,by show -1000000≤(0:Int);decide,by show (0:Int)≤1000000;decide⟩
   ·exact ⟨Zgj h5 hi,Zgj h5 om_,by show -1000000≤(0:Int);decide,by show (0:Int)≤1000000;decide⟩
  ·obtain ⟨y,hy,rfl⟩:=List.mem_map.1 hx
   obtain ⟨y,i⟩:=y
   have hi:=(List.mem_zipIdx' hy).1
   have hy2:y∈t.strays:=by rw [(List.mem_zipIdx' hy).2];exact List.getElem_mem _
   have:=hT.spans y hy2
   exact ⟨by show i+1 < 11;omega,Zgj h5 (by show i+1≤s;omega),by show -1000000≤y.1;omega,by show y.1≤1000000;omega⟩
 ·obtain ⟨y,hy,rfl⟩:=List.mem_map.1 hx
  obtain ⟨y,i⟩:=y
  have hy:=(List.mem_filter.1 hy).1
  have hy2:y∈t.calls:=by rw [(List.mem_zipIdx' hy).2];exact List.getElem_mem _
  have h:=hT.call y hy2
  obtain ⟨k,a,lo,hi⟩:=y
  simp only [Zcv,Bool.and_eq_true,Bool.or_eq_true,decide_eq_true_eq] at h
  unfold Zpp
  simp only
  by_cases h0:k=0
  ·rw [if_pos h0];exact ⟨by show a.toNat+1 < 11;omega,by show a.toNat < 11;omega,by show -1000000≤lo;omega,by show lo≤1000000;omega⟩
  ·rw [if_neg h0]
   by_cases h1:k=1
   ·rw [if_pos h1];exact ⟨Zgj h5 om_,Zgj h5 om_,by show -1000000≤lo;omega,by show lo≤1000000;omega⟩
   ·rw [if_neg h1];exact ⟨by show s < 11;omega,by show 0 < 11;omega,by show -1000000≤lo;omega,by show lo≤1000000;omega⟩
end Go.Proofs.YtbapgefodmmikaaGreatDoor
namespace Go.Proofs.YtbapgefodmmikaaGreatDoor
open Go.RowKit Go.Proofs Go.Ord Tryz
attribute [local irreducible] Ord.walk
attribute [local go_sem] Oper.semAt_some
theorem Tryz.infoTC:(prog.info? 137).map (fun i=>(i.zero,i.size,i.bytes))=some (some (.agg #[(),(),(),()]),4,32):=by kernel_rfl
theorem Zxh (c:Int × Int × Int × Int):(Zcn c).length=4:=rfl
theorem Zn2 {w:World}{O:Nat}{b:Ov}{l:List Nt}{sa:Option Addr}{sc:Nat}{fa:Option Addr}{fc:Nat}{na:Option Addr}{nc:Nat}(h:OvAt w O b l sa sc fa fc na nc) (hI:OvIn b l) :
  Calls prog 238 #[.agg #[.pointer O]] w (fun e w'=>∃ ca cc,e=.returned (.agg (tyV (tyO b l) sa sc ca cc))∧Below w.heap.size w w'∧RowsAt w' sa 2 Zax (tyO b l).strays∧RowsAt w' ca 4 Zcn (tyO b l).calls):=by
 obtain ⟨i0,hi,hz0,hz1,hz2⟩:=Zbp Tryz.infoTC
 have hln:=hI.notes
 have hN9:=h.vars.2.2.2.2
 have HRow:=hd_ (fun W (hb:Below w.heap.size w W)=>h.notes.below hb)
 have HStr:=hd_ (fun W (hb:Below w.heap.size w W)=>h.strays.below hb)
 have HOv:=hd_ (fun W (hb:Below w.heap.size w W)=>h.blk.below hb h.blk.lt)
 have bO:=h.blk
 clear h hI
 refine callsIn_wide.1 (callsIn_of_wp_marks (F:=Fence.wide) (n:=0) func238 rfl trivial (wpIn_wide.2 ?_) rfl)
 simp only [ntmps238,List.size_toArray,List.length_cons,List.length_nil,Nat.reduceAdd,Nat.reduceSub,Array.replicate_succ,Array.replicate_zero,List.push_toArray,List.append_toArray,List.nil_append,List.cons_append]
 go_wp2_with fail
 obtain ⟨w2,hw2⟩:∃ w2,(w.alloc (.cells #[.pointer O] 305)).alloc (.cells #[(),(),.slice none 0 0,.slice none 0 0] 58)=w2:=⟨_,rfl⟩
 rw [hw2]
 have hB2:Below w.heap.size w w2:=by rw [← hw2];exact bel_
 have b1:Blk w2 w.heap.size #[.pointer O] 305:=by rw [← hw2];exact (Blk.new _ _ _).alloc _
 have b2:Blk w2 (w.heap.size+1) #[(),(),.slice none 0 0,.slice none 0 0] 58:=by rw [← hw2];exact Blk.new' _ _ _ _ sp_
 have hs2:w2.heap.size=w.heap.size+2:=by rw [← hw2];simp
 have bO2:=bO.below hB2 bO.lt
 have hOlt:=bO.lt
 clear hw2 bO
 generalize hN:w.heap.size=N at *
 have HN:=hd_ hN
 clear hN
 refine Zyu [(0,1),(1,1),(2,1),(3,1),(4,1),(5,1),(6,1),(7,1),(8,1),(9,1),(10,1),(11,1),(12,1),(13,1),(14,1),(15,1),(16,1),(17,1),(18,1),(19,2),(20,2)] (fun W=>Below w2.heap.size w2 W) kr_ kr_ br_.drew ?_
 go_wp2_with (first
  | ((with_reducible refine Zyp ?_);refine Za2 ?_)
  | ((with_reducible refine Zye ?_);first|(refine Zyq (ad:=⟨N,0,none⟩) (.pointer O) rfl rfl ?_ ?_;(focus (intro W hW;have r:=(b1.below hW b1.lt).cell 0;simp [go_sem,r];done));intro K hK)|(refine Zyq (ad:=⟨O,4,none⟩) ↑b.sh rfl rfl ?_ ?_;(focus (intro W hW;have r:=(bO2.below hW bO2.lt).cell 4;simp [go_sem,r,ovV];done));intro K hK)|(refine Zyq (ad:=⟨O,5,none⟩) ↑b.most rfl rfl ?_ ?_;(focus (intro W hW;have r:=(bO2.below hW bO2.lt).cell 5;simp [go_sem,r,ovV];done));intro K hK)|(refine Zyq (ad:=⟨O,6,none⟩) (.slice sa b.strays.length sc) rfl rfl ?_ ?_;(focus (intro W hW;have r:=(bO2.below hW bO2.lt).cell 6;simp [go_sem,r,ovV];done));intro K hK)|(refine Zyt rfl (.agg #[b.sh,b.most,.slice sa b.strays.length sc,.slice none 0 0]) ?_ ?_;(focus (intro W _;simp [go_sem,Zyr,Zys];done));intro K hK))
  | (refine o_ ?_;intro K hK)|(with_reducible first|refine Zyo ?_ ?_|refine Zyj ?_|refine Zyf bn_ (fun _=>?_)))
 unfold Stop
 obtain ⟨w3,hw3⟩:∃ w3,(w2.alloc (.cells #[b.sh,b.most,.slice sa b.strays.length sc,.slice none 0 0] 58)).drew=w3:=⟨_,rfl⟩
 rw [hw3]
 have hb23:Below w2.heap.size w2 w3:=by rw [← hw3];exact (br_.alloc nl_ _).drew
 have b33:Blk w3 (N+2) #[b.sh,b.most,.slice sa b.strays.length sc,.slice none 0 0] 58:=by rw [← hw3];exact (Blk.new' _ _ _ _ (by simp [hs2])).drew
 have hs3:w3.heap.size=N+3:=by rw [← hw3];simp [hs2]
 have b13:=b1.below hb23 b1.lt
 have b23:=b2.below hb23 b2.lt
 have bO3:=bO2.below hb23 bO2.lt
 have hB3:Below N w w3:=hB2.trans (hb23.mono om_)
 clear hw3 hb23 b1 b2 bO2 hB2 hs2
 have r1:=b13.cell
 have rO:=bO3.cell
 have l1:=b13.lt
 have lO:=bO3.lt
 unfold ovV at rO
 have HOf:=hd_ (fun f la W=>o_of na l.length nc f la W)
 go_wp2_with (first
  | (go_at_call 285;refine (HOf.out _ _ _).mono ?_;rintro e w4 ⟨rfl,hw4⟩;refine Za2 ?_))
 unfold Stop
 rw [← hw4]
 have hb34:Below (N+3) w3 w4:=by rw [hw4,← hs3];exact bel_
 have hs4:w4.heap.size=N+7:=by rw [hw4];simp [hs3]
 have bK4:Blk w4 (N+3) #[(),.int .i64 1,.int .i64 2] 381:=by rw [hw4,← hs3];exact (((Blk.new _ _ _).alloc _).alloc _).alloc _
 have hOf4:OfAt w4 (N+4) l na nc 2 4:=by
  refine ⟨?_,?_,?_,HRow.out w4 (hB3.trans (hb34.mono om_))⟩
  ·rw [hw4];exact ((Blk.new' _ _ _ _ (by simp [hs3])).alloc _).alloc _
  ·rw [hw4];exact (Blk.new' _ _ _ _ (by simp [hs3])).alloc _
  ·rw [hw4];exact Blk.new' _ _ _ _ (by simp [hs3])
 have b24:=b23.below hb34 om_
 have b34:=b33.below hb34 om_
 have hB4:Below N w w4:=hB3.trans (hb34.mono om_)
 clear hw4 hb34 b13 b23 b33 bO3 r1 rO l1 lO hB3 hs3
 have hgs:(ofO l 2 4).length≤30:=Nat.le_trans (List.length_filter_le _ _) hln
 have hkd:∀ n∈ofO l 2 4,2≤n.1∧n.1≤4:=fun n hn=>of_decide_eq_true (List.mem_filter.1 hn).2
 have HKd:=hd_ hkd
 clear hkd
 go_wp2_with fail
 refine (wpIn_wide (n:=0)).1 (Zcq (encs:=fun n=>#[.agg (ntL n).toArray]) (xs:=ofO l 2 4) (XI:=fun _ _=>False) (XB:=fun k _=>k=N+2∨N+9≤k) (Mid:=fun _=>True)
  (fun k A=>∃ av cv,Blk A (N+2) #[b.sh,b.most,.slice sa b.strays.length sc,.slice av k cv] 58∧A.ownsRow (N+9) 137 4 (.slice av k cv) k ((((ofO l 2 4).take k).map Zk7).flatMap Zcn)∧Lets (fun k _=>k=N+2∨N+7≤k) w4 A)
  (fun _ _=>False)
  rfl call316 (fun _=>rfl)
  (fun W1 hb1 hs1=>Zjr l na nc 2 4 om_ (N+4) _ W1 ⟨hOf4.b0.below hb1 om_,hOf4.b1.below hb1 om_,hOf4.b2.below hb1 om_,hOf4.rows.below hb1⟩ _ (fun wr hl=>by
   have hl2:Lets (fun k _=>k=N+2∨N+7≤k) w4 wr:=(Lets.of_below hb1).trans (hl.mono fun _ _ e=>om_)
   exact Q2c))
  (fun j o h1 h2 e=>e) (fun j o h1 h2 e=>om_)
  (fun k A B h hl=>by exact Q2e)
  (fun c A B h hl=>h)
  (fun k A B h hl=>by exact Q2d)
  (fun c A B h hl=>h)
  (fun A B h hl=>trivial) ⟨none,0,b34,World.ownsRow_nil _ _ _ _,Lets.refl _ _⟩ ?round ?done ?stop)
 case stop =>
  intro c W h
  exact h.elim
 case round =>
  intro k hk A' hI' _ hsz hrec
  have hgk:((ofO l 2 4).take (k+1)).map Zk7=((ofO l 2 4).take k).map Zk7 ++ [Zk7 (ofO l 2 4)[k]]:=by rw [List.take_succ_eq_append_getElem hk,List.map_append];rfl
  rw [hgk,List.flatMap_append]
  have hkl:k≤30:=by omega
  have hkk:=HKd.out _ (List.getElem_mem hk)
  clear hgk hI'
  generalize (((ofO l 2 4).take k).map Zk7).flatMap Zcn=XS at *
  generalize (ofO l 2 4)[k]=n at *
  obtain ⟨n1,n2,n3,n4⟩:=n
  simp only at hkk
  obtain ⟨m,hm,rfl⟩:∃ m:Nat,m < 3∧n1=(m:Int)+2:=⟨(n1 - 2).toNat,om_,om_⟩
  have HP:Hid (Zcn (Zk7 ((m:Int)+2,n2,n3,n4))=[.int .i64 (m:Int),.int .i64 n2,.int .i64 n3,.int .i64 n4]):=by
   show _=_
   simp [Zcn,Zk7,show (m:Int)+2 - 2=(m:Int) by omega]
  unfold Zcp
  unfold ntL
  gi_wp2_with fail
  refine ⟨(Lets.refl _ _).alloc _,fun W₂ hl2 hs2 hI2 _=>?_⟩
  have b4:Blk W₂ A'.heap.size #[.int .i64 ((m:Int)+2),n2,n3,n4] 88:=hl2.blk (Blk.new _ _ _) om_
  obtain ⟨av,cv,bT,hown,hLt⟩:=hI2
  clear hl2 hs2 hk hrec
  have hl4:=b4.lt
  have r4:=b4.cell
  have rT:=bT.cell
  have c3:W₂.cell? ⟨N+2,3,none⟩=some (.slice av k cv):=bT.cell 3
  have lT:=bT.lt
  have bK:=hLt.blk bK4 om_
  have rK:W₂.cell? ⟨N+3,m,none⟩=some (.int .i64 (m:Int)):=by
   rw [bK.cell]
   rcases (show m=0∨m=1∨m=2 by omega) with rfl|rfl|rfl <;> rfl
  have lK:=bK.lt
  have hmi:(m:Int) < 3:=by omega
  have hm2:(m:Int)+2 - 2=(m:Int):=by omega
  have hsz2:N+9≤W₂.heap.size:=by omega
  generalize A'.heap.size=t4 at *
  gi_wp2_with fail
  refine Ord.Two.wpIn_region (fun ⟨_,_,h⟩=>h) [(0,1),(1,1),(2,0),(3,0),(4,0),(5,0),(6,0),(7,0),(8,0),(9,0),(10,0),(11,0),(12,0),(13,0),(14,0),(15,2),(16,2)] [(17,0),(18,2)] (fun W=>W.cell? ⟨N+2,3,none⟩=some (.slice av k cv)) kr_ kr_ kr_ (fun c a d v w h=>by cases d <;> exact h) c3 ?_
  go_wp2_with (first
   | (with_reducible refine Ord.Two.walk_next ?_)
   | (at_builtin;refine Za2 ?_)
   | ((with_reducible refine Zye ?_);refine Zyq (ad:=⟨N+2,3,none⟩) (.slice av k cv) rfl rfl ?_ ?_;(focus (intro W hW;simp [go_sem,hW];done));intro K hK)
   | ((with_reducible refine Zyh rfl ?_ (fun K hK=>?_));(focus (first|assumption|exact c3|(simp [c3];done)|(rw [World.cell?_alloc_ite,if_neg om_];exact c3))))
   | ((with_reducible refine Zyf ?_ (fun hOF=>?_));(focus (first|assumption|exact c3|(simp [c3];done)|(rw [World.cell?_alloc_ite,if_neg om_];exact c3))))
   | (refine o_ ?_;intro K hK)|(with_reducible first|refine Zyo ?_ ?_|refine Zyj ?_|refine Zyf bn_ (fun _=>?_)))
  unfold Stop
  have bG:Blk (W₂.alloc (.cells #[m,n2,n3,n4] 137)) W₂.heap.size #[m,n2,n3,n4] 137:=Blk.new _ _ _
  refine wpList_append_own _ rfl (.tmp 34) (.tmp 48) 56 rfl (N+9) 137 i0 _ 4 32 underlying56 hi hz0 hz1 hz2 rfl de_ (.slice av k cv) k XS rfl (World.ownsRow.alloc hown _).drew ⟨W₂.heap.size,0,none⟩ 1 1 [↑m,↑n2,↑n3,↑n4] rfl rfl (Zdh bG.drew _ rfl) (by simp [Value.oneCell']) (by unfold maxLen;omega) om_ (by show _≤(W₂.alloc _).heap.size;simp;omega) ?_
  intro v' w6 hown' hgrow _
  obtain ⟨av',cv',rfl⟩:=Zb9 hown'
  have hl26:Lets (fun k _=>k=N+2∨N+9≤k) W₂ w6:=(((Lets.refl _ _).alloc _).drew).grown hgrow (fun g hg hlt=>.inr (Zad hown hg).1)
  have bT6:Blk w6 (N+2) #[b.sh,b.most,.slice sa b.strays.length sc,.slice av k cv] 58:=(hgrow.block (N+2) (by show _ < (W₂.alloc _).heap.size;simp;omega) (fun e=>by have:=(Zad hown e.symm).1;omega)).trans (bT.alloc _)
  have c3':=bT6.cell 3
  have f6:=bT6.free
  have l6:=bT6.lt
  clear r4 rT lT hl4
  go_wp2_with (first
   | (with_reducible refine Ord.Two.walk_next ?_)
   | ((with_reducible refine Zyh rfl ?_ (fun K hK=>?_));(focus trivial))
   | ((with_reducible refine Zyf ?_ (fun hOF=>?_));(focus (first|exact c3'|trivial)))
   | (refine o_ ?_;intro K hK)|(with_reducible first|refine Zyo ?_ ?_|refine Zyj ?_|refine Zyf bn_ (fun _=>?_)))
  have hl27:=hl26.setCell (p:=⟨N+2,3,none⟩) (.inl rfl) (.slice av' (k+1) cv')
  exact ⟨hl27,trivial,av',cv',bT6.set 3 _,Zaw (X:=fun k _=>k=N+2) (by rw [List.flatMap_cons,List.flatMap_nil,List.append_nil,HP.out];exact hown') ((Lets.refl _ _).setCell rfl _) (fun _ _ h e=>om_),hLt.trans (hl27.mono fun _ _ e=>om_)⟩
 case done =>
  intro W hI' _ hDM
  obtain ⟨av,cv,bT,hown,hLt⟩:=hI'
  rw [List.take_length] at hown
  have b2W:=hLt.blk b24 om_
  have hBW:=Za3 hB4 hLt (n:=N) (by have:=HN.out;omega) (fun _ _ _=>om_)
  have hsM:=lt_of_block hDM
  have hgl2:(ofO l 2 4).length=((ofO l 2 4).map Zk7).length:=(List.length_map ..).symm
  generalize hpl:(ofO l 2 4).length=pl at *
  simp only [Exit.inBlock,Exit.then]
  go_wp2_with (first
   | (refine Za0 58 (.tmp 3) Zbh rfl rfl rfl bT rfl ?_)
   | (refine Za1 58 (.tmp 2) (.tmp 51) Zbh rfl rfl rfl rfl b2W rfl rfl (by simp [Value.oneCell']) ?_;intro w8 h8))
  have hl8:Lets (fun j _=>j=N+1) W w8:=(Lets.refl _ _).rowed h8 rfl
  have hD8:w8.heap[w4.heap.size]? = some (.deferred (some [])):=(hl8.block _ (lt_of_block hDM) om_).trans hDM
  have hB8:Below N w w8:=Za3 hBW hl8 (by have:=HN.out;omega) (fun _ _ _=>om_)
  have hP8:=Zaw hown hl8 (fun _ _ h e=>om_)
  refine Zbu (v:=.agg (tyV (tyO b l) sa sc av cv)) rfl hD8 fun w' hl hs=>?_
  have hP9:=Zaw hP8 hl (fun _ _ h e=>om_)
  rw [hgl2] at hP9
  obtain ⟨a2,c2,e2,hr2⟩:=Zbm Zxh hP9
  simp only [Value.slice.injEq,true_and] at e2
  obtain ⟨rfl,rfl⟩:=e2
  have hBf:Below N w w':=Za3 hB8 hl (by have:=HN.out;omega) (fun _ _ h e=>om_)
  refine ⟨?_,av,cv,rfl,by rw [HN.out];exact hBf,HStr.out w' hBf,hr2⟩
  unfold tyV tyO
  simp only
  rw [← hgl2]
  exact Za5 rfl _ Zbh rfl (Zc8 h8.blk hl (fun _=>om_)) rfl
end Go.Proofs.YtbapgefodmmikaaGreatDoor
namespace Go.Proofs.YtbapgefodmmikaaGreatDoor
open Go.RowKit Go.Proofs Go.Ord Tryz
attribute [local irreducible] Ord.walk
def bs0 (b:Ov):List (Int × Int × Int):=b.fl.map fun n=>(n,0,0)
def bsK (b:Ov) (l:List Nt) (k:Nat):List (Int × Int × Int):=((ofO l 5 5).take k).foldl Znj (bs0 b)
theorem felt_len (bs:List (Int × Int × Int)) (n:Nt):(Znj bs n).length=bs.length:=by
 unfold Znj
 split
 ·exact List.length_modify ..
 ·rfl
theorem Zt0 (b:Ov) (l:List Nt):bsK b l 0=bs0 b:=rfl
theorem Zny (b:Ov) (l:List Nt) {k:Nat}(hk:k < (ofO l 5 5).length):bsK b l (k+1)=Znj (bsK b l k) (ofO l 5 5)[k]:=by
 unfold bsK
 rw [List.take_succ_eq_append_getElem hk,List.foldl_append]
 rfl
theorem Zo0 (b:Ov) (l:List Nt):bsK b l (ofO l 5 5).length=Zkd b l:=by
 unfold bsK Zkd
 rw [List.take_length]
 rfl
theorem Znz (b:Ov) (l:List Nt):∀ k,k≤(ofO l 5 5).length→(bsK b l k).length=b.fl.length
 | 0,_=>by simp [Zt0,bs0]
 | k+1,h=>by rw [Zny b l h,felt_len,Znz b l k om_]
theorem Zmb {α:Type}(f:α→α):∀ (l:List α) (i:Nat) (h:i < l.length),l.modify i f=l.set i (f l[i])
 | [],i,h=>absurd h sp_
 | x :: l,0,_=>rfl
 | x :: l,i+1,h=>by
  have:=Zmb f l i (by simpa using h)
  simp [List.modify_succ_cons,this]
theorem Zmc {α:Type}(f:α→α):∀ (l:List α) (i:Nat),l.length≤i→l.modify i f=l
 | [],i,_=>by simp
 | x :: l,0,h=>absurd h sp_
 | x :: l,i+1,h=>by
  have:=Zmc f l i (by simpa using h)
  simp [List.modify_succ_cons,this]
theorem Zre (bs:List (Int × Int × Int)) (n:Nt) (h:¬ (0≤n.2.1∧n.2.1 < (bs.length:Int))):Znj bs n=bs:=by
 unfold Znj
 split
 ·exact Zmc _ _ _ om_
 ·rfl
theorem Zss (bs:List (Int × Int × Int)) (n:Nt) (i:Nat) (hi:n.2.1=(i:Int)) (h:i < bs.length):Znj bs n=bs.set i (bs[i].1,bs[i].2.1+1,bs[i].2.2+n.2.2.1):=by
 unfold Znj
 rw [if_pos om_,hi,Int.toNat_natCast,Zmb _ _ _ h]
theorem bsK_in (b:Ov) (l:List Nt) (hs:∀ n∈l,-9999≤n.2.2.1∧n.2.2.1≤9999):∀ k,k≤(ofO l 5 5).length→∀ x∈bsK b l k,0≤x.2.1∧x.2.1≤(k:Int)∧-(9999 * (k:Int))≤x.2.2∧x.2.2≤9999 * (k:Int)
 | 0,_=>by
  intro x hx
  obtain ⟨n,_,rfl⟩:=List.mem_map.1 (show x∈b.fl.map _ from hx)
  simp
 | k+1,h=>by
  intro x hx
  have ih:=bsK_in b l hs k om_
  have hn:=hs _ (List.mem_filter.1 (show (ofO l 5 5)[k]∈l.filter _ from List.getElem_mem h)).1
  rw [Zny b l h] at hx
  generalize (ofO l 5 5)[k]=n at *
  have hlast:∀ y∈bsK b l k,0≤y.2.1∧y.2.1≤((k+1:Nat):Int)∧-(9999 * ((k+1:Nat):Int))≤y.2.2∧y.2.2≤9999 * ((k+1:Nat):Int):=fun y hy=>by
   have:=ih y hy
   omega
  by_cases hc:0≤n.2.1∧n.2.1 < ((bsK b l k).length:Int)
  ·rw [Zss _ n n.2.1.toNat om_ om_] at hx
   rcases List.mem_or_eq_of_mem_set hx with hx|rfl
   ·exact hlast x hx
   ·have:=ih _ (List.getElem_mem (show n.2.1.toNat < (bsK b l k).length by omega))
    simp only
    omega
  ·rw [Zre _ n hc] at hx
   exact hlast x hx
theorem Zvv {α:Type}{n:Nat}{f:α→List Value}(hf:∀ a,(f a).length=n) {w:World}{base g L c:Nat}{e:TypeId}{l:List α}(h:w.ownsRow base e n (.slice g L c) L (l.flatMap f)) {i j:Nat}{x:α}{u:Value}(hi:i < l.length) (hj:j < n) (hx:f x=(f l[i]).set j u) {q:Nat}(hq:q=i * n+j) :
  (w.setCell ⟨g,q,none⟩ u).ownsRow base e n (.slice g L c) L ((l.set i x).flatMap f):=by
 subst hq
 obtain ⟨hl,⟨h1,-⟩ | ⟨g',cap,cur,hv,hb,hh,h1,h2,h3,h4⟩⟩:=h
 ·cases h1
 ·simp only [Value.slice.injEq,Option.some.injEq,Addr.mk.injEq,true_and,and_true] at hv
  obtain ⟨rfl,rfl⟩:=hv
  have hlen:l.length=L:=by
   have:=Zau hf l
   rw [this] at hl
   exact Nat.eq_of_mul_eq_mul_right om_ hl
  refine ⟨by rw [Zau hf,List.length_set,hlen],.inr ⟨g,c,cur.setIfInBounds (i * n+j) u,rfl,hb,Blk.set (show Blk w g cur e from hh) _ _,h1,h2,by simp [h3],?_⟩⟩
  rw [Array.toList_setIfInBounds,List.take_set,h4]
  exact Znh hf l i j x u hi hj hx
end Go.Proofs.YtbapgefodmmikaaGreatDoor
namespace Go.Proofs.YtbapgefodmmikaaGreatDoor
open Go.RowKit Go.Proofs Go.Ord Tryz
attribute [local irreducible] Ord.walk
attribute [local go_sem] Oper.semAt_some
theorem Zfw (b:Int × Int × Int):(Zbf b).length=3:=rfl
theorem own_at {w:World}{base L c n:Nat}{e:TypeId}{av:Option Addr}{xs:List Value}(h:w.ownsRow base e n (.slice av L c) L xs) (hL:0 < L):∃ g,av=some ⟨g,0,none⟩∧base≤g∧∃ cur,Blk w g cur e:=by
 obtain ⟨hl,⟨h1,h2⟩ | ⟨g',cap,cur,hv,hb,hh,r⟩⟩:=h
 ·omega
 ·simp only [Value.slice.injEq,true_and] at hv
  exact ⟨g',hv.1,hb,cur,hh⟩
theorem _root_.Q1j {p:Prop}(h:p:=by
 (repeat (first|((with_reducible refine Za8 ?_ ?_ ?_);(focus exact fun ⟨_,_,h⟩=>h);(focus rfl))|gi_step))
 go_wp2_with fail
 gi_wp2_with fail
 exact ⟨Lets.refl _ _,trivial,bT,hown,hLt⟩):p:=h
theorem Zm7 {w:World}{O:Nat}{b:Ov}{l:List Nt}{sa:Option Addr}{sc:Nat}{fa:Option Addr}{fc:Nat}{na:Option Addr}{nc:Nat}(h:OvAt w O b l sa sc fa fc na nc) (hI:OvIn b l) :
  Calls prog 286 #[.agg #[.pointer O]] w (fun e w'=>∃ ca cc,e=.returned (.agg (clV (clO b l) ca cc))∧Below w.heap.size w w'∧RowsAt w' ca 3 Zbf (clO b l).bs∧∀ p,ca=some p→w.heap.size≤p.block):=by
 obtain ⟨i0,hi,hz0,hz1,hz2⟩:=Zbp Zh8
 have hln:=hI.notes
 have hlf:=hI.fl
 have hN9:=h.vars.2.2.2.2
 have HIn:=hd_ (bsK_in b l hI.small)
 have HLen:=hd_ (Znz b l)
 have HSm:=hd_ hI.small
 have HRow:=hd_ (fun W (hb:Below w.heap.size w W)=>h.notes.below hb)
 have HFl:=hd_ (fun W (hb:Below w.heap.size w W)=>h.fl.below hb)
 have HOv:=hd_ (fun W (hb:Below w.heap.size w W)=>h.blk.below hb h.blk.lt)
 have bO:=h.blk
 clear h hI
 refine callsIn_wide.1 (callsIn_of_wp_marks (F:=Fence.wide) (n:=0) func286 rfl trivial (wpIn_wide.2 ?_) rfl)
 simp only [ntmps286,List.size_toArray,List.length_cons,List.length_nil,Nat.reduceAdd,Nat.reduceSub,Array.replicate_succ,Array.replicate_zero,List.push_toArray,List.append_toArray,List.nil_append,List.cons_append]
 go_wp2_with fail
 obtain ⟨w2,hw2⟩:∃ w2,(w.alloc (.cells #[.pointer O] 308)).alloc (.cells #[.slice none 0 0,(),(),()] 62)=w2:=⟨_,rfl⟩
 rw [hw2]
 have hB2:Below w.heap.size w w2:=by rw [← hw2];exact bel_
 have b1:Blk w2 w.heap.size #[.pointer O] 308:=by rw [← hw2];exact (Blk.new _ _ _).alloc _
 have b2:Blk w2 (w.heap.size+1) #[.slice none 0 0,(),(),()] 62:=by rw [← hw2];exact Blk.new' _ _ _ _ sp_
 have hs2:w2.heap.size=w.heap.size+2:=by rw [← hw2];simp
 have bO2:=bO.below hB2 bO.lt
 have hOlt:=bO.lt
 clear hw2 bO
 generalize hN:w.heap.size=N at *
 have HN:=hd_ hN
 clear hN
 refine Zyu [(0,1),(1,1),(2,1),(3,1),(4,1),(5,1),(6,1),(7,1),(8,1),(9,1),(10,1),(11,1),(12,1),(13,1),(14,1),(15,1),(16,1),(17,1),(18,1),(19,1),(20,1),(21,1),(22,2),(23,2)] (fun W=>Below w2.heap.size w2 W) kr_ kr_ br_.drew ?_
 go_wp2_with (first
  | ((with_reducible refine Zyp ?_);refine Za2 ?_)
  | ((with_reducible refine Zye ?_);first|(refine Zyq (ad:=⟨N,0,none⟩) (.pointer O) rfl rfl ?_ ?_;(focus (intro W hW;have r:=(b1.below hW b1.lt).cell 0;simp [go_sem,r];done));intro K hK)|(refine Zyq (ad:=⟨O,8,none⟩) ↑b.may rfl rfl ?_ ?_;(focus (intro W hW;have r:=(bO2.below hW bO2.lt).cell 8;simp [go_sem,r,ovV];done));intro K hK)|(refine Zyq (ad:=⟨O,9,none⟩) ↑b.drift rfl rfl ?_ ?_;(focus (intro W hW;have r:=(bO2.below hW bO2.lt).cell 9;simp [go_sem,r,ovV];done));intro K hK)|(refine Zyq (ad:=⟨O,10,none⟩) ↑b.mist rfl rfl ?_ ?_;(focus (intro W hW;have r:=(bO2.below hW bO2.lt).cell 10;simp [go_sem,r,ovV];done));intro K hK)|(refine Zyt rfl (.agg #[.slice none 0 0,b.may,b.drift,b.mist]) ?_ ?_;(focus (intro W _;simp [go_sem,Zyr,Zys];done));intro K hK))
  | (refine o_ ?_;intro K hK)|(with_reducible first|refine Zyo ?_ ?_|refine Zyj ?_|refine Zyf bn_ (fun _=>?_)))
 unfold Stop
 obtain ⟨w3,hw3⟩:∃ w3,(w2.alloc (.cells #[.slice none 0 0,b.may,b.drift,b.mist] 62)).drew=w3:=⟨_,rfl⟩
 rw [hw3]
 have hb23:Below w2.heap.size w2 w3:=by rw [← hw3];exact (br_.alloc nl_ _).drew
 have b33:Blk w3 (N+2) #[.slice none 0 0,b.may,b.drift,b.mist] 62:=by rw [← hw3];exact (Blk.new' _ _ _ _ (by simp [hs2])).drew
 have hs3:w3.heap.size=N+3:=by rw [← hw3];simp [hs2]
 have b13:=b1.below hb23 b1.lt
 have b23:=b2.below hb23 b2.lt
 have bO3:=bO2.below hb23 bO2.lt
 have hB3:Below N w w3:=hB2.trans (hb23.mono om_)
 clear hw3 hb23 b1 b2 bO2 hB2 hs2
 have r1:=b13.cell
 have rO:=bO3.cell
 have l1:=b13.lt
 have lO:=bO3.lt
 unfold ovV at rO
 have HOf:=hd_ (fun f la W=>o_of na l.length nc f la W)
 go_wp2_with fail
 clear r1 rO l1 lO bO3
 go_loopw [5,37] (fun x5 x37 wr=>∃ k:Nat,k≤b.fl.length∧x37=.int .i64 (k:Int)∧∃ av cv,Blk wr (N+2) #[.slice av k cv,b.may,b.drift,b.mist] 62∧wr.ownsRow (N+3) 139 3 (.slice av k cv) k (((b.fl.take k).map fun n=>((n,0,0):Int × Int × Int)).flatMap Zbf)∧Lets (fun k _=>k=N+2∨N+3≤k) w3 wr) (fun _ x37 _=>b.fl.length - (intOf x37).toNat)
 case atStart=>exact ⟨0,om_,rfl,none,0,b33,World.ownsRow_nil _ _ _ _,Lets.refl _ _⟩
 case round =>
  obtain ⟨k,hk,rfl,av,cv,bT,hown,hLt⟩:=hrel
  have hBr:=Za3 hB3 hLt (n:=N) (by have:=HN.out;omega) (fun _ _ _=>om_)
  by_cases hlt:k < b.fl.length
  ·have hlti:(k:Int) < (b.fl.length:Int):=by omega
   obtain ⟨gb,go,rfl,hq⟩:=HFl.out wr hBr k hlt
   have q0:=hq 0 _ rfl
   rw [Nat.add_zero,Nat.mul_one] at q0
   have lg:=bl_ wr _ q0
   have htk:((b.fl.take (k+1)).map fun n=>((n,0,0):Int × Int × Int))=((b.fl.take k).map fun n=>((n,0,0):Int × Int × Int)) ++ [(b.fl[k],0,0)]:=by rw [List.take_succ_eq_append_getElem hlt,List.map_append];rfl
   have HTK:=hd_ htk
   clear htk hq
   generalize ((b.fl.take k).map fun n=>((n,0,0):Int × Int × Int))=XS at *
   generalize b.fl[k]=F at *
   have rT:=bT.cell
   have lT:=bT.lt
   have hsr:=hLt.size
   have hkl:k≤40:=by omega
   go_wp2_with (first
    | (at_builtin;refine Za2 ?_))
   unfold Stop
   have bG:Blk (wr.alloc (.cells #[F,(),()] 139)) wr.heap.size #[F,(),()] 139:=Blk.new _ _ _
   refine wpList_append_own _ rfl _ _ 60 rfl (N+3) 139 i0 _ 3 24 underlying60 hi hz0 hz1 hz2 rfl de_ (.slice av k cv) k _ rfl (hown.alloc _) ⟨wr.heap.size,0,none⟩ 1 1 [↑F,↑(),↑()] rfl rfl (Zdh bG _ rfl) (by simp [Value.oneCell']) (by unfold maxLen;omega) om_ (by simp;omega) ?_
   intro v' w6 hown' hgrow _
   obtain ⟨av',cv',rfl⟩:=Zb9 hown'
   have hl26:Lets (fun k _=>k=N+2∨N+3≤k) wr w6:=((Lets.refl _ _).alloc _).grown hgrow (fun g hg hlt=>.inr (Zad hown hg).1)
   have bT6:Blk w6 (N+2) #[.slice av k cv,b.may,b.drift,b.mist] 62:=(hgrow.block (N+2) (by simp;omega) (fun e=>by have:=(Zad hown e.symm).1;omega)).trans (bT.alloc _)
   have r6:=bT6.cell
   have f6:=bT6.free
   have l6:=bT6.lt
   clear rT lT
   go_wp2_with fail
   have hl27:=hl26.setCell (p:=⟨N+2,0,none⟩) (.inl rfl) (.slice av' (k+1) cv')
   refine ⟨⟨k+1,om_,by go_num,av',cv',bT6.set 0 _,Zaw (X:=fun k _=>k=N+2) (by rw [HTK.out,List.flatMap_append];exact hown') ((Lets.refl _ _).setCell rfl _) (fun _ _ h e=>om_),hLt.trans hl27⟩,by simp [intOf];omega⟩
  ·have hlti:¬ (k:Int) < (b.fl.length:Int):=by omega
   obtain rfl:k=b.fl.length:=by omega
   rw [List.take_length] at hown
   have b1W:=hLt.blk b13 om_
   have b2W:=hLt.blk b23 om_
   have bOW:=HOv.out wr hBr
   have hsW:=hLt.size
   have r1:=b1W.cell
   have rO:=bOW.cell
   have l1:=b1W.lt
   have lO:=bOW.lt
   unfold ovV at rO
   clear b13 b23 b33 hB3 hlt
   go_wp2_with (first
    | (go_at_call 285;refine (HOf.out _ _ _).mono ?_;rintro e w5 ⟨rfl,hw5⟩;refine Za2 ?_))
   unfold Stop
   rw [← hw5]
   generalize hM:wr.heap.size=M at *
   have hb5:Below M wr w5:=by rw [hw5,← hM];exact bel_
   have hs5:w5.heap.size=M+3:=by rw [hw5];simp [hM]
   have hOf5:OfAt w5 M l na nc 5 5:=by
    refine ⟨?_,?_,?_,HRow.out w5 (hBr.trans (hb5.mono om_))⟩
    ·rw [hw5,← hM];exact ((Blk.new _ _ _).alloc _).alloc _
    ·rw [hw5];exact (Blk.new' _ _ _ _ (by simp [hM])).alloc _
    ·rw [hw5];exact Blk.new' _ _ _ _ (by simp [hM])
   have b25:=b2W.below hb5 om_
   have b35:=bT.below hb5 om_
   have hown5:w5.ownsRow (N+3) 139 3 (.slice av b.fl.length cv) b.fl.length ((bs0 b).flatMap Zbf):=Zbn hown nl_ fun g hg=>hb5.block g (by have:=(Zad hown hg).2;omega)
   have hgM:∀ g,(Value.slice av b.fl.length cv).ownBlock=some g→N+3≤g∧g < M:=fun g hg=>by have:=Zad hown hg;omega
   have hBW5:Below N w w5:=hBr.trans (hb5.mono om_)
   rw [← Zt0 b l] at hown5
   clear hw5 hb5 b1W b2W bOW bT hown hLt r1 rO l1 lO hBr hM hk
   have hgs1:(ofO l 5 5).length≤30:=Nat.le_trans (List.length_filter_le _ _) hln
   have hL0:=HLen.out 0 (Nat.zero_le _)
   generalize hfl:b.fl.length=L at *
   have hLi:(L:Int)≤40:=by omega
   go_wp2_with fail
   refine (wpIn_wide (n:=0)).1 (Zcq (encs:=fun n=>#[.agg (ntL n).toArray]) (xs:=ofO l 5 5) (XI:=fun _ _=>False) (XB:=fun k _=>(Value.slice av L cv).ownBlock=some k∨M+5≤k) (Mid:=fun _=>True)
    (fun k A=>Blk A (N+2) #[.slice av L cv,b.may,b.drift,b.mist] 62∧A.ownsRow (N+3) 139 3 (.slice av L cv) L ((bsK b l k).flatMap Zbf)∧Lets (fun k _=>(Value.slice av L cv).ownBlock=some k∨M+3≤k) w5 A)
    (fun _ _=>False)
    rfl call316 (fun _=>rfl)
    (fun W1 hb1 hs1=>Zjr l na nc 5 5 om_ M _ W1 ⟨hOf5.b0.below hb1 om_,hOf5.b1.below hb1 om_,hOf5.b2.below hb1 om_,hOf5.rows.below hb1⟩ _ (fun wr hl=>by
     have hl2:Lets (fun k _=>(Value.slice av L cv).ownBlock=some k∨M+3≤k) w5 wr:=(Lets.of_below hb1).trans (hl.mono fun _ _ e=>by
      rcases e with (e|e)|e
      ·exact .inl e
      ·exact .inr om_
      ·exact .inr om_)
     have hne:∀ k,M≤k→k < M+3→¬ ((Value.slice av L cv).ownBlock=some k∨M+3≤k):=fun k h1 h2 e=>by
      rcases e with e|e
      ·have:=hgM k e;omega
      ·omega
     exact ⟨hl2.blk hOf5.b0 (hne _ om_ om_),hl2.blk hOf5.b1 (hne _ om_ om_),hl2.blk hOf5.b2 (hne _ om_ om_),HRow.out wr (Za3 hBW5 hl2 (by have:=HN.out;omega) (fun k o h e=>by
      rcases e with e|e
      ·have:=hgM k e;omega
      ·omega))⟩))
    (fun j o h1 h2 e=>e) (fun j o h1 h2 e=>by
     rcases e with e|e
     ·have:=hgM j e;omega
     ·omega)
    (fun k A B h hl=>by
     obtain ⟨h1,h2,h3⟩:=h
     exact ⟨hl.blk h1 (fun e=>e),Zaw h2 hl (fun _ _ _ e=>e),h3.trans (hl.mono fun _ _ e=>e.elim)⟩)
    (fun c A B h hl=>h)
    (fun k A B h hl=>by
     obtain ⟨h1,h2,h3⟩:=h
     exact ⟨hl.blk h1 (fun e=>om_),Zbn h2 nl_ fun g hg=>hl.block g (Zad h2 hg).2 (fun e=>by have:=hgM g hg;omega),h3.trans (hl.mono fun _ _ e=>.inr om_)⟩)
    (fun c A B h hl=>h)
    (fun A B h hl=>trivial) ⟨b35,hown5,Lets.refl _ _⟩ ?round ?done ?stop)
   case stop =>
    intro c W h
    exact h.elim
   case round =>
    intro k hk A' hI' _ hsz hrec
    have hsucc:=Zny b l hk
    have hin:=HIn.out k om_
    have hlen:=HLen.out k om_
    have hkl:k≤30:=by omega
    have hsm : -9999≤((ofO l 5 5)[k]).2.2.1∧((ofO l 5 5)[k]).2.2.1≤9999:=HSm.out _ (List.mem_filter.1 (show (ofO l 5 5)[k]∈l.filter _ from List.getElem_mem hk)).1
    rw [hsucc]
    clear hsucc hI'
    generalize bsK b l k=BS at *
    generalize (ofO l 5 5)[k]=n at *
    obtain ⟨n1,n2,n3,n4⟩:=n
    unfold Zcp
    unfold ntL
    gi_wp2_with fail
    refine ⟨(Lets.refl _ _).alloc _,fun W₂ hl2 hs2 bT hown hLt=>?_⟩
    have b4:Blk W₂ A'.heap.size #[n1,n2,n3,n4] 88:=hl2.blk (Blk.new _ _ _) om_
    clear hl2 hs2 hk hrec
    have hl4:=b4.lt
    have r4:=b4.cell
    have rT:=bT.cell
    have lT:=bT.lt
    have hsz2:M+5≤W₂.heap.size:=by omega
    generalize A'.heap.size=t4 at *
    by_cases h0:0≤n2
    ·by_cases h1:n2 < (L:Int)
     ·obtain ⟨i,rfl⟩:∃ i:Nat,n2=(i:Int):=⟨n2.toNat,om_⟩
      have hib:i < BS.length:=by omega
      obtain ⟨g,rfl,hg0,cur,bg⟩:=own_at hown om_
      rw [Zss BS (n1,(i:Int),n3,n4) i rfl hib]
      have hg2:=hgM g rfl
      obtain ⟨a1,c1,e1,hr1⟩:=Zbm Zfw (by rw [hlen];exact hown)
      simp only [Value.slice.injEq] at e1
      obtain ⟨rfl,-,rfl⟩:=e1
      obtain ⟨gb,go,e2,hq⟩:=hr1 i hib
      simp only [Option.some.injEq,Addr.mk.injEq,and_true] at e2
      obtain ⟨rfl,rfl⟩:=e2
      have q1:=hq 1 _ rfl
      have q2:=hq 2 _ rfl
      rw [Nat.zero_add] at q1 q2
      have hbi:=hin _ (List.getElem_mem hib)
      have h3 : -9999≤n3∧n3≤9999:=hsm
      obtain ⟨X,hX⟩:∃ X,BS[i]=X:=⟨_,rfl⟩
      have HX:=hd_ hX
      rw [hX] at q1 q2 hbi ⊢
      clear hX hin hq hr1
      obtain ⟨F,Lk,Wr⟩:=X
      simp only at q1 q2 hbi ⊢
      have fg:=bg.free
      have lg:=bg.lt
      have hiL:(i:Int) < (L:Int):=h1
      have hown1:=Zvv Zfw hown hib (show 1 < 3 by omega) (x:=(F,Lk+1,Wr)) (u:=.int .i64 (Lk+1)) (by rw [HX.out];rfl) rfl
      have hown2:=Zvv Zfw hown1 (show i < (BS.set i (F,Lk+1,Wr)).length by simpa using hib) (show 2 < 3 by omega) (x:=(F,Lk+1,Wr+n3)) (u:=.int .i64 (Wr+n3)) (by rw [List.getElem_set_self];rfl) rfl
      rw [List.set_set] at hown2
      have HO2:=hd_ hown2
      obtain ⟨w7,hw7⟩:∃ w7,W₂.setCell ⟨g,i * 3+1,none⟩ (.int .i64 (Lk+1))=w7:=⟨_,rfl⟩
      rw [hw7] at HO2
      have q27:w7.cell? ⟨g,i * 3+2,none⟩=some (.int .i64 Wr):=by rw [← hw7];exact (World.cell?_setCell_other W₂ ⟨g,i * 3+1,none⟩ ⟨g,i * 3+2,none⟩ _ sp_).trans q2
      have bT7:Blk w7 (N+2) #[.slice (some ⟨g,0,none⟩) L cv,b.may,b.drift,b.mist] 62:=by rw [← hw7];exact bT.other (by simp only;omega) _
      have b47:Blk w7 t4 #[n1,i,n3,n4] 88:=by rw [← hw7];exact b4.other (by simp only;omega) _
      have bg7:∃ cur,Blk w7 g cur 139:=by rw [← hw7];exact ⟨_,bg.set _ _⟩
      have hl7:Lets (fun k _=>k=g) W₂ w7:=by rw [← hw7];exact (Lets.refl _ _).setCell rfl _
      obtain ⟨cur7,bg7⟩:=bg7
      clear hown1 hown2 hown q2
      (repeat (first|((with_reducible refine Za8 ?_ ?_ ?_);(focus exact fun ⟨_,_,h⟩=>h);(focus rfl))|gi_step))
      go_wp2_with fail
      gi_wp2_with fail
      (try rw [hw7])
      have r47:=b47.cell
      have rT7:=bT7.cell
      have lT7:=bT7.lt
      have l47:=b47.lt
      have fg7:=bg7.free
      have lg7:=bg7.lt
      clear r4 rT lT hl4 q1 bg fg lg
      refine Ord.Two.wpIn_region (fun ⟨_,_,h⟩=>h) [(0,0),(1,0),(2,0),(3,0),(4,0),(5,0),(6,0),(7,0),(8,0),(9,0),(10,0),(11,0)] [(12,2)] (fun _=>True) kr_ kr_ kr_ (fun c a d v w h=>by cases d <;> exact h) trivial ?_
      go_wp2_with (first
       | (with_reducible refine Ord.Two.walk_next ?_)
       | ((with_reducible refine Zyh rfl ?_ (fun K hK=>?_));(focus trivial))
       | ((with_reducible refine Zyf ?_ (fun hOF=>?_));(focus trivial))
       | (refine o_ ?_;intro K hK)|(with_reducible first|refine Zyo ?_ ?_|refine Zyj ?_|refine Zyf bn_ (fun _=>?_)))
      have hl8:=(hl7.drew).setCell (p:=⟨g,i * 3+2,none⟩) rfl (.int .i64 (Wr+n3))
      have hl9:Lets (fun k _=>(Value.slice (some ⟨g,0,none⟩) L cv).ownBlock=some k∨M+5≤k) W₂ _:=hl8.mono fun k _ e=>.inl (by rw [e];rfl)
      exact ⟨hl9,trivial,bT7.other (by simp only;omega) _,HO2.out,hLt.trans (hl9.mono fun k _ e=>by
       rcases e with e|e
       ·exact .inl e
       ·exact .inr om_)⟩
     ·rw [Zre BS (n1,n2,n3,n4) (by rintro ⟨-,h⟩;simp only at h;omega)]
      exact Q1j
    ·rw [Zre BS (n1,n2,n3,n4) (by rintro ⟨h,-⟩;exact h0 h)]
     exact Q1j
   case done =>
    intro W hI' _ hDM
    obtain ⟨bT,hown,hLt⟩:=hI'
    rw [Zo0] at hown
    have hlb:(Zkd b l).length=L:=by rw [← Zo0,HLen.out _ nl_]
    have hneB:∀ k,k < N+3→¬ ((Value.slice av L cv).ownBlock=some k∨M+3≤k):=fun k h1 e=>by
     rcases e with e|e
     ·have:=hgM k e;omega
     ·omega
    have b2W:=hLt.blk b25 (hneB _ om_)
    have hBW:Below N w W:=Za3 hBW5 hLt (by have:=HN.out;omega) (fun k _ h=>hneB k (by have:=HN.out;omega))
    have hsM:=lt_of_block hDM
    simp only [Exit.inBlock,Exit.then]
    go_wp2_with (first
     | (refine Za0 62 (.tmp 3) Zah rfl rfl rfl bT rfl ?_)
     | (refine Za1 62 (.tmp 2) (.tmp 90) Zah rfl rfl rfl rfl b2W rfl rfl (by simp [Value.oneCell']) ?_;intro w8 h8))
    have hl8:Lets (fun j _=>j=N+1) W w8:=(Lets.refl _ _).rowed h8 rfl
    have hD8:w8.heap[w5.heap.size]? = some (.deferred (some [])):=(hl8.block _ (lt_of_block hDM) om_).trans hDM
    have hB8:Below N w w8:=Za3 hBW hl8 (by have:=HN.out;omega) (fun _ _ _=>om_)
    have hP8:=Zaw hown hl8 (fun _ _ h e=>om_)
    refine Zbu (v:=.agg (clV (clO b l) av cv)) rfl hD8 fun w' hl hs=>?_
    have hP9:w'.ownsRow (N+3) 139 3 (.slice av L cv) L ((Zkd b l).flatMap Zbf):=Zbn hP8 nl_ fun g hg=>hl.block g (Zad hP8 hg).2 (fun e=>by have:=hgM g hg;omega)
    rw [← hlb] at hP9
    obtain ⟨a2,c2,e2,hr2⟩:=Zbm Zfw hP9
    simp only [Value.slice.injEq,true_and] at e2
    obtain ⟨rfl,rfl⟩:=e2
    have hBf:Below N w w':=Za3 hB8 hl (by have:=HN.out;omega) (fun _ _ h e=>om_)
    refine ⟨?_,av,cv,rfl,by rw [HN.out];exact hBf,hr2,fun p hp=>by subst hp;have:=hgM p.block rfl;have:=HN.out;omega⟩
    unfold clV clO
    simp only
    rw [hlb]
    exact Za5 rfl _ Zah rfl (Zc8 h8.blk hl (fun _=>om_)) rfl
theorem Zw6 {w:World}{O:Nat}{b:Ov}{l:List Nt}{sa:Option Addr}{sc:Nat}{fa:Option Addr}{fc:Nat}{na:Option Addr}{nc:Nat}(h:OvAt w O b l sa sc fa fc na nc) (hI:OvIn b l) :
  Calls prog 286 #[.agg #[.pointer O]] w (fun e w'=>∃ ca cc,e=.returned (.agg (clV (clO b l) ca cc))∧Below w.heap.size w w'∧RowsAt w' ca 3 Zbf (clO b l).bs) :=
 (Zm7 h hI).mono fun e w' ⟨ca,cc,h1,h2,h3,_⟩=>⟨ca,cc,h1,h2,h3⟩
end Go.Proofs.YtbapgefodmmikaaGreatDoor
