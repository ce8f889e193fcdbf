/- Parts of a proof. -/
import Derived.Test.YtbapgefodmmikaaGreatDoorLMin
import Derived.Test.YtbapgefodmmikaaGreatDoorL02
import Derived.Maps.RangeRun
import Derived.DeepKeys5
import Derived.Carry
set_option linter.unusedVariables false
set_option linter.unusedSimpArgs false
set_option maxHeartbeats 40000000
set_option maxRecDepth 100000
namespace Go.Proofs.YtbapgefodmmikaaGreatDoor
open Go.RowKit Go.Proofs Go.Ord Tryz
theorem b_gties (t:Ti) (vo:Nat) (lo hi:Int) (w:World) :
  Calls prog 356 #[.agg #[.int .u64 vo,lo,hi],.agg (Zaj t)] w (Zat (.agg (Zaj t)) (.bool true) w):=by
 have hsz:=Zbk t
 have hones:=Zde t
 generalize Zaj t=TC at *
 go_enter func356,ntmps356
 go_upto_region 1 with fail
 obtain ⟨W3,hW3⟩:∃ W3,W3=((w.alloc (.cells #[.int .u64 vo,lo,hi] 234)).alloc (.cells TC 240)).alloc (.cells (Zaj (Zcj 0)) 240):=⟨_,rfl⟩
 rw [Zeb] at hW3
 have b1:Blk W3 (w.heap.size+1) TC 240:=by rw [hW3];exact (Blk.new' _ _ _ _ sp_).alloc _
 have b2:Blk W3 (w.heap.size+1+1) #[(),.bool false,(),.bool false,(),.bool false,(),.bool false,(),.bool false,(),.bool false,(),.bool false,(),.bool false] 240:=by rw [hW3];exact Blk.new' _ _ _ _ sp_
 have hb3:Below w.heap.size w W3:=by rw [hW3];exact bel_
 rw [← hW3]
 clear hW3
 go_wp2_with (first
  | (refine Za0 240 (.tmp 3) Zb5 rfl rfl rfl b1 hsz ?_)
  | (refine Za1 240 (.tmp 4) (.tmp 6) Zb5 rfl rfl rfl rfl b2 rfl hsz hones ?_;intro w5 h5))
 (try simp only [Exit.inBlock,Exit.then])
 refine bodyPost_ret (v:=.tuple #[.agg TC,.bool true]) ((results_cell_tmp rfl _ _ _).trans (by simp [asAddr,Zbo Zb5 h5.blk hsz];done)) rfl ⟨rfl,?_⟩
 exact h5.below hb3 om_
theorem Zxr (t:Ti) (A B:Nat) (hA:A < 8) (hB:B < 8) (ht:∀ i,i < 8→(t i).1 < 8) (s:Bool) (w:World) :
  Calls prog 357 #[.agg #[.int .u64 0,(),(),A,B,.bool s],.agg (Zaj t)] w (Zat (.agg (Zaj (Zd1 t A B s))) (.bool (Zek t A B s)) w):=by
 have hsz:=Zbk t
 have hones:=Zde (Zd1 t A B s)
 have hsz2:=Zbk (Zd1 t A B s)
 have HT:=hd_ (fun w=>b_tied t A B A B rfl rfl hA hB ht s w)
 generalize Zek t A B s=ok at *
 generalize Zaj (Zd1 t A B s)=T2 at *
 generalize Zaj t=TC at *
 go_enter func357,ntmps357
 go_upto_region 1 with fail
 obtain ⟨W3,hW3⟩:∃ W3,W3=((w.alloc (.cells #[.int .u64 0,(),(),A,B,.bool s] 236)).alloc (.cells TC 240)).alloc (.cells (Zaj (Zcj 0)) 240):=⟨_,rfl⟩
 rw [Zeb] at hW3
 have b0:Blk W3 w.heap.size #[.int .u64 0,(),(),A,B,.bool s] 236:=by rw [hW3];exact ((Blk.new _ _ _).alloc _).alloc _
 have b1:Blk W3 (w.heap.size+1) TC 240:=by rw [hW3];exact (Blk.new' _ _ _ _ sp_).alloc _
 have b2:Blk W3 (w.heap.size+1+1) #[(),.bool false,(),.bool false,(),.bool false,(),.bool false,(),.bool false,(),.bool false,(),.bool false,(),.bool false] 240:=by rw [hW3];exact Blk.new' _ _ _ _ sp_
 have hb3:Below w.heap.size w W3:=by rw [hW3];exact bel_
 rw [← hW3]
 clear hW3
 have r0:=b0.cell
 have hlt:=b2.lt
 go_wp2_with (first
  | (refine Za0 240 (.tmp 3) Zb5 rfl rfl rfl b1 hsz ?_)
  | (go_at_call 358;refine (HT.out _).mono ?_;rintro e w4 ⟨rfl,hb4⟩;replace b2:=b2.below hb4 hlt)
  | (refine Za1 240 (.tmp 4) (.tmp 10) Zb5 rfl rfl rfl rfl b2 rfl hsz2 hones ?_;intro w5 h5))
 (try simp only [Exit.inBlock,Exit.then])
 refine bodyPost_ret (v:=.tuple #[.agg T2,.bool ok]) ((results_cell_tmp rfl _ _ _).trans (by simp [asAddr,Zbo Zb5 h5.blk hsz2];done)) rfl ⟨rfl,?_⟩
 exact h5.below (hb3.trans (hb4.mono om_)) om_
abbrev St:=Nat→Nat
def Zbc (s:St):Array Value:=#[(s 0),(s 1),(s 2),(s 3),(s 4),(s 5),(s 6)]
theorem Zdd (s:St):(Zbc s).size=7:=rfl
theorem Zht (s:St):(Zbc s).all (·.oneCell')=true:=by simp [Zbc,Value.oneCell']
theorem Zos (s:St) (i:Nat) (h:i < 7):(Zbc s)[i]? = some (.int .i64 (s i)):=by
 rcases (show i=0∨i=1∨i=2∨i=3∨i=4∨i=5∨i=6 by omega) with rfl|rfl|rfl|rfl|rfl|rfl|rfl <;> rfl
def sadd (s:St) (i:Nat):St:=fun j=>if j=i then s j+1 else s j
theorem Ztm (s:St) (i:Nat) (h:i < 7):(Zbc s).setIfInBounds i (.int .i64 (s i+1))=Zbc (sadd s i):=by
 rcases (show i=0∨i=1∨i=2∨i=3∨i=4∨i=5∨i=6 by omega) with rfl|rfl|rfl|rfl|rfl|rfl|rfl <;> simp [Zbc,sadd]
theorem Zep:Zdw prog 248 7:=⟨_,underlying248,rfl,by kernel_rfl⟩
abbrev Gr:=Nat × Int × Int
def GrAt (w:World) (ga:Option Addr) (gs:List Gr):Prop :=
 ∀ i,(h:i < gs.length)→∃ gb go,ga=some ⟨gb,go,none⟩∧w.cell? ⟨gb,go+i * 3,none⟩=some (.int .u64 gs[i].1) ∧
  w.cell? ⟨gb,go+i * 3+1,none⟩=some (.int .i64 gs[i].2.1)∧w.cell? ⟨gb,go+i * 3+2,none⟩=some (.int .i64 gs[i].2.2)
def inG (gs:List Gr) (v:Nat) (k:Nat):Bool:=match gs[k]? with|some g=>hasB g.1 v|none=>false
def Zc7 (gs:List Gr) (s:St) (v:Nat) (k:Nat):St:=fun j=>if j < k∧inG gs v j=true then s j+1 else s j
def Ztb (gs:List Gr) (s:St) (v:Nat):St:=Zc7 gs s v gs.length
theorem _root_.Q2g {p:Prop}(h:p:=by
 by_cases h2:j < k∧inG gs v j=true
 ·rw [if_pos h2,if_pos ⟨om_,h2.2⟩]
 ·rw [if_neg h2,if_neg (fun e=>h2 ⟨om_,e.2⟩)]):p:=h
theorem Zqe (gs:List Gr) (s:St) (v:Nat) (k:Nat):Zc7 gs s v (k+1)=if inG gs v k=true then sadd (Zc7 gs s v k) k else Zc7 gs s v k:=by
 by_cases h:inG gs v k=true
 ·rw [if_pos h];funext j;simp only [Zc7,sadd]
  by_cases h1:j=k
  ·subst h1;rw [if_pos ⟨Nat.lt_succ_self _,h⟩,if_pos rfl,if_neg (fun e=>Nat.lt_irrefl _ e.1)]
  ·rw [if_neg h1]
   exact Q2g
 ·rw [if_neg h];funext j;simp only [Zc7]
  by_cases h1:j=k
  ·subst h1;rw [if_neg (fun e=>h e.2),if_neg (fun e=>h e.2)]
  ·exact Q2g
theorem Zqf (gs:List Gr) (s:St) (v k:Nat):Zc7 gs s v k k=s k:=by simp [Zc7]
theorem bit_u64 (vo v:Nat) (h:vo < 2 ^ 62):(bits .and .u64 ((vo:Int) / 2 ^ v) 1 == 1)=hasB vo v:=by
 have h1:((vo:Int) / 2 ^ v)=((vo / 2 ^ v:Nat):Int):=by simp
 have h2:vo / 2 ^ v≤vo:=Nat.div_le_self _ _
 have h3:(1:Int)=((1:Nat):Int):=rfl
 rw [h1]
 conv=>lhs;arg 1;rw [h3]
 rw [u64_and_nat _ _ om_ om_,nat_mask1]
 unfold hasB
 rw [Bool.eq_iff_iff,beq_iff_eq,beq_iff_eq]
 omega
theorem b_with (s:St) (hs:∀ i,s i < 1000) (ga:Option Addr) (gc:Nat) (gs:List Gr) (hl:gs.length≤7) (hv:∀ g∈gs,g.1 < 2 ^ 62) (x:Int) (v:Nat) (hx:x=v) (hv8:v≤62) (w:World) (hg:GrAt w ga gs) :
  Calls prog 193 #[.agg (Zbc s),.slice ga gs.length gc,x] w (Zak (.agg (Zbc (Ztb gs s v))) w):=by
 subst hx
 have hsz:=Zdd s
 have hones:=Zht s
 have H0:Hid (Zc7 gs s v 0=s):=by show _=_;funext j;simp [Zc7]
 have HE:Hid (Ztb gs s v=Zc7 gs s v gs.length):=rfl
 go_enter func193,ntmps193
 go_upto_region 1 with fail
 obtain ⟨W3,hW3⟩:∃ W3,W3=(w.alloc (.cells (Zbc s) 248)).alloc (.cells (Zbc (fun _=>0)) 248):=⟨_,rfl⟩
 have b0:Blk W3 w.heap.size (Zbc (Zc7 gs s v 0)) 248:=by rw [hW3,H0.out];exact (Blk.new _ _ _).alloc _
 have b1:Blk W3 (w.heap.size+1) (Zbc (fun _=>0)) 248:=by rw [hW3];exact Blk.new' _ _ _ _ sp_
 have hb3:Below w.heap.size w W3:=by rw [hW3];exact bel_
 have hq:Zbc (fun _=>0)=#[.int .i64 0,.int .i64 0,.int .i64 0,.int .i64 0,.int .i64 0,.int .i64 0,.int .i64 0]:=rfl
 rw [hq] at hW3 b1
 rw [← hW3]
 have hz:w.heap.size+2=W3.heap.size:=by rw [hW3];simp
 clear hW3
 go_wp2
 go_loopw [11] (fun i wr=>∃ k:Nat,k≤gs.length∧i=↑k∧Below w.heap.size w wr∧w.heap.size+2≤wr.heap.size∧Blk wr w.heap.size (Zbc (Zc7 gs s v k)) 248 ∧
  Blk wr (w.heap.size+1) #[(),(),(),(),(),(),()] 248) (fun i _=>gs.length - (intOf i).toNat)
 case atStart=>exact ⟨0,om_,rfl,hb3,om_,b0,b1⟩
 case round =>
  clear b0 b1 hb3
  obtain ⟨k,hk,rfl,hB,hsz2,b0,b1⟩:=hrel
  by_cases hlt:k < gs.length
  ·have hlti:(k:Int) < gs.length:=by omega
   have hk7:(k:Int) < 7:=by omega
   obtain ⟨gb,go,rfl,e1,e2,e3⟩:=hg k hlt
   have f1:=Za4 hB e1
   have f2:=Za4 hB e2
   have f3:=Za4 hB e3
   have hgb:gb < w.heap.size:=bl_ w _ e1
   have hbit:inG gs v k=hasB gs[k].1 v:=by simp [inG,hlt]
   have hvo:=hv _ (List.getElem_mem hlt)
   have hbI:=bit_u64 gs[k].1 v hvo
   have hself:=Zqf gs s v k
   have hsk:=hs k
   have hcell:=Zos (Zc7 gs s v k) k om_
   have hset:=hd_ (Ztm (Zc7 gs s v k) k om_)
   rw [hself] at hcell
   have hst:=hd_ (Zqe gs s v k)
   generalize gs[k]=g at *
   obtain ⟨vo,lo,hi⟩:=g
   simp only at *
   clear e1 e2 e3 hg
   have HSELF:=hd_ hself
   clear hself
   generalize hsv:s k=sk at *
   have HSV:=hd_ hsv
   clear hsv
   have hst2:=hst.out
   rw [hbit] at hst2
   clear hst hbit
   have r0:=b0.cell
   have r1:=b0.free
   cases hbb:hasB vo v
   ·rw [hbb] at hbI hst2
    rw [if_neg sp_] at hst2
    have HST:=hd_ hst2
    clear hst2 hbb
    go_wp2
    refine ⟨⟨k+1,om_,by go_num,by exact bel_,by simp;omega,?_,b1.alloc _⟩,by simp [intOf];omega⟩
    rw [HST.out]
    exact b0.alloc _
   ·rw [hbb] at hbI hst2
    rw [if_pos rfl] at hst2
    have HST:=hd_ hst2
    clear hst2 hbb
    go_wp2
    refine ⟨⟨k+1,om_,by go_num,by exact bel_,by simp;omega,?_,(b1.alloc _).other (by show w.heap.size+1≠w.heap.size;omega) _⟩,by simp [intOf];omega⟩
    rw [HST.out,← hset.out,HSELF.out]
    exact (b0.alloc _).set _ _
  ·have hkl:k=gs.length:=by omega
   subst hkl
   have hszE:=Zdd (Zc7 gs s v gs.length)
   have honesE:=Zht (Zc7 gs s v gs.length)
   rw [← HE.out] at b0 hszE honesE
   generalize Ztb gs s v=E at *
   generalize Zbc E=EC at *
   go_wp2_with (first
    | (refine Za0 248 (.tmp 3) Zep rfl rfl rfl b0 hszE ?_)
    | (refine Za1 248 (.tmp 6) (.tmp 30) Zep rfl rfl rfl rfl b1 rfl hszE honesE ?_;intro w5 h5))
   (try simp only [Exit.inBlock,Exit.then])
   refine bodyPost_ret (v:=.agg EC) (Za5 rfl _ Zep rfl h5.blk hszE) rfl ⟨rfl,?_⟩
   exact h5.below hB om_
def Zf6 (gs:List Gr) (s:St) (k:Nat):Bool:=(List.range k).all fun j=>match gs[j]? with|some g=>inB (s j) g.2.1 g.2.2|none=>true
def Ziv (gs:List Gr) (s:St):Bool:=Zf6 gs s gs.length
theorem Zrd (gs:List Gr) (s:St) (k:Nat) (h:k < gs.length):Zf6 gs s (k+1)=(Zf6 gs s k && inB (s k) gs[k].2.1 gs[k].2.2):=by
 unfold Zf6
 rw [List.range_succ,List.all_append]
 simp [h]
theorem Zwy (gs:List Gr) (s:St) (k n:Nat) (h:k≤n) (hf:Zf6 gs s k=false):Zf6 gs s n=false:=by
 unfold Zf6 at *
 rw [List.all_eq_false] at *
 obtain ⟨x,hx,hp⟩:=hf
 exact ⟨x,List.mem_range.2 (by have:=List.mem_range.1 hx;omega),hp⟩
theorem b_sfits (s:St) (ga:Option Addr) (gc:Nat) (gs:List Gr) (hl:gs.length≤7) (w:World) (hg:GrAt w ga gs) :
  Calls prog 194 #[.agg (Zbc s),.slice ga gs.length gc] w (Zak (.bool (Ziv gs s)) w):=by
 have HE:Hid (Ziv gs s=Zf6 gs s gs.length):=rfl
 have HF:=hd_ b_gfits
 have H0:Hid (Zf6 gs s 0=true):=rfl
 go_enter func194,ntmps194
 go_wp2
 have b0:Blk (w.alloc (.cells (Zbc s) 248)) w.heap.size (Zbc s) 248:=Blk.new _ _ _
 go_loopw [10] (fun i wr=>∃ k:Nat,k≤gs.length∧i=↑k∧Below w.heap.size w wr∧w.heap.size < wr.heap.size∧Blk wr w.heap.size (Zbc s) 248∧Hid (Zf6 gs s k=true)) (fun i _=>gs.length - (intOf i).toNat)
 case atStart=>exact ⟨0,om_,rfl,by exact bel_,sp_,b0,H0⟩
 case round =>
  clear b0 H0
  obtain ⟨k,hk,rfl,hB,hsz2,b0,hF⟩:=hrel
  by_cases hlt:k < gs.length
  ·have hlti:(k:Int) < gs.length:=by omega
   have hk7:(k:Int) < 7:=by omega
   obtain ⟨gb,go,rfl,e1,e2,e3⟩:=hg k hlt
   have f1:=Za4 hB e1
   have f2:=Za4 hB e2
   have f3:=Za4 hB e3
   have hgb:gb < w.heap.size:=bl_ w _ e1
   have hst:=hd_ (Zrd gs s k hlt)
   have hno:=hd_ (Zwy gs s (k+1) gs.length om_)
   have hcell:=Zos s k om_
   generalize gs[k]=g at *
   obtain ⟨vo,lo,hi⟩:=g
   simp only at *
   clear e1 e2 e3 hg
   have r0:=b0.cell
   cases hbb:inB (s k) lo hi
   ·have HBB:=hd_ hbb
    clear hbb
    go_wp2_with (go_at_call 263;refine (HF.out _ _ _ _ _).mono ?_;rw [HBB.out];rintro e w4 ⟨rfl,hb4⟩;obtain ⟨c4,f4,z4⟩:=after hb4 (by simp;rfl))
    go_ret
    refine ⟨Zd3 ?_,?_⟩
    ·rw [HE.out];exact (hno.out (by rw [hst.out,HBB.out];simp)).symm
    ·exact bel_
   ·have HBB:=hd_ hbb
    clear hbb
    go_wp2_with (go_at_call 263;refine (HF.out _ _ _ _ _).mono ?_;rw [HBB.out];rintro e w4 ⟨rfl,hb4⟩;obtain ⟨c4,f4,z4⟩:=after hb4 (by simp;rfl))
    refine ⟨⟨k+1,om_,by go_num,by exact bel_,om_,(b0.alloc _).below hb4 (by simp;omega),?_⟩,by simp [intOf];omega⟩
    show _=_
    rw [hst.out,HBB.out,hF.out];rfl
  ·have hkl:k=gs.length:=by omega
   subst hkl
   go_wp2
   go_ret
   refine ⟨Zd3 ?_,hB⟩
   rw [HE.out];exact hF.out.symm
abbrev SL:=List Nat
def Zaq (x:SL):Array Value:=(x.map fun n:Nat=>Value.int .i64 n).toArray
def SL7 (x:SL):Prop:=x.length=7∧∀ n∈x,n < 1000
theorem Ztz {x y:SL}(h:Zaq x=Zaq y):x=y:=by
 unfold Zaq at h
 have h2:x.map (fun n:Nat=>Value.int .i64 n)=y.map (fun n:Nat=>Value.int .i64 n):=by simpa using h
 refine List.map_inj_right (f:=fun n:Nat=>Value.int .i64 n) (fun a b hab=>?_) |>.1 h2
 simp only [Value.int.injEq,true_and] at hab
 omega
theorem Zj3:laidOutB prog=true:=by kernel_rfl
theorem st_law:WideMaps.KeyLaw prog 248 :=
 deep_law_gate Zj3 (of_decide_eq_true kr_) (of_decide_eq_true kr_) kr_ (by rw [underlying248])
theorem Zsa {x:SL}(h:SL7 x):∃ l,keyOf prog 248 (.agg (Zaq x))=some l:=by
 obtain ⟨h7,hx⟩:=h
 match x,h7 with
 | [a,b,c,d,e,f,g],_ =>
  simp only [List.mem_cons,List.not_mem_nil,or_false,forall_eq_or_imp,forall_eq] at hx
  obtain ⟨ha,hb,hc,hd,he,hf,hg⟩:=hx
  have hk:prog.keyType 248=true:=by kernel_rfl
  obtain ⟨n,hn⟩:∃ n,prog.types.size+1=n+3:=⟨prog.types.size - 2,by have:2≤prog.types.size:=of_decide_eq_true kr_;omega⟩
  unfold keyOf
  rw [underlying248]
  simp only [hk,hn]
  have c1:prog.cellsOf 248=7:=by kernel_rfl
  have c2:prog.cellsOf 246=7:=by kernel_rfl
  have c3:prog.cellsOf 3=1:=by kernel_rfl
  have hform:(Value.agg (Zaq [a,b,c,d,e,f,g])).formed prog 248=true:=by
   simp [Value.formed,underlying248,c1,Zaq]
  rw [hform]
  have hr:List.range 7=[0,1,2,3,4,5,6]:=rfl
  have hw:∀ n:Nat,n < 1000→(Lit.int .i64 n).wf=true:=fun n hn=>by have:IntKind.i64.min = -9223372036854775808:=rfl;simp [Lit.wf,this];omega
  simp [Program.keyLits,underlying248,underlying246,underlying3,Zaq,c1,c2,c3,Value.cells,hr,hw a ha,hw b hb,hw c hc,hw d hd,hw e he,hw f hf,hw g hg]
def entsFrom:Nat→List (SL × Nat)→List MapEntry
 | _,[]=>[]
 | i,p :: l=>{ key:=.agg (Zaq p.1),val:=.int .i64 p.2,born:=i } :: entsFrom (i+1) l
def ents (l:List (SL × Nat)):Array MapEntry:=(entsFrom 0 l).toArray
def MapIs (w:World) (m:Nat) (l:List (SL × Nat)):Prop:=w.heap[m]? = some (.map (ents l) l.length)
def MapOk (l:List (SL × Nat)):Prop:=(∀ p∈l,SL7 p.1)∧(l.map (·.1)).Nodup
def getM (l:List (SL × Nat)) (x:SL):Nat:=((l.find? (fun p=>p.1 == x)).map (·.2)).getD 0
def putM (l:List (SL × Nat)) (x:SL) (v:Nat):List (SL × Nat):=if x∈l.map (·.1) then l.map (fun p=>if p.1=x then (x,v) else p) else l ++ [(x,v)]
theorem entsFrom_length (i:Nat) (l:List (SL × Nat)):(entsFrom i l).length=l.length:=by
 induction l generalizing i with
 | nil=>rfl
 | cons p l ih=>simp [entsFrom,ih]
theorem _root_.Q1w {p:Prop}(h:p:=by
 induction l generalizing i j with
 | nil=>simp [entsFrom]
 | cons p l ih =>
  cases j with
  | zero=>simp [entsFrom]
  | succ j=>simp [entsFrom,ih];congr 1;funext q;congr 1;omega):p:=h
theorem entsFrom_get (i:Nat) (l:List (SL × Nat)) (j:Nat):(entsFrom i l)[j]? = l[j]?.map fun p=>{ key:=.agg (Zaq p.1),val:=.int .i64 p.2,born:=i+j }:=Q1w
theorem _root_.Q1f {p:Prop}(h:p:=by
 induction l generalizing i with
 | nil=>simp [entsFrom] at h
 | cons p l ih =>
  simp only [entsFrom,List.mem_cons] at h
  rcases h with rfl|h
  ·exact ⟨p,sp_,rfl,rfl⟩
  ·obtain ⟨q,h1,h2,h3⟩:=ih h
   exact ⟨q,by simp [h1],h2,h3⟩):p:=h
theorem entsFrom_mem {i:Nat}{l:List (SL × Nat)}{e:MapEntry}(h:e∈entsFrom i l):∃ p∈l,e.key=.agg (Zaq p.1)∧e.val=.int .i64 p.2:=Q1f
theorem MapOk.keyed {l:List (SL × Nat)}(h:MapOk l):∀ e∈(ents l).toList,∃ k,keyOf prog 248 e.key=some k:=by
 intro e he
 obtain ⟨p,hp,hk,-⟩:=entsFrom_mem (show e∈entsFrom 0 l by simpa [ents] using he)
 rw [hk]
 exact Zsa (h.1 p hp)
theorem _root_.Qj {p:Prop}(h:p:=by
 have hm:p∈l:=List.mem_of_getElem? hj
 have h1:∀ q∈l,q.1=p.1→q=p:=by
  have hn:=h.2
  intro q hq he
  obtain ⟨i,hi⟩:=List.getElem?_of_mem hq
  have hi':(l.map (·.1))[i]? = some q.1:=by simp [hi]
  have hj':(l.map (·.1))[j]? = some p.1:=by simp [hj]
  rw [he] at hi'
  have hij:i=j:=(List.getElem?_inj (by simpa using (List.getElem?_eq_some_iff.1 hi).1) hn).1 (hi'.trans hj'.symm)
  subst hij
  rw [hi] at hj
  simpa using hj
 cases hf:l.find? (fun q=>q.1 == p.1) with
 | none =>
  have:=List.find?_eq_none.1 hf p hm
  simp at this
 | some q =>
  have h2:=List.find?_some hf
  have h3:=List.mem_of_find?_eq_some hf
  have h4:=h1 q h3 (by simpa using h2)
  subst h4
  rfl):p:=h
theorem Zwt {l:List (SL × Nat)}(h:MapOk l) {j:Nat}{p:SL × Nat}(hj:l[j]? = some p):getM l p.1=p.2:=by
 unfold getM
 exact Qj
theorem Zws {l:List (SL × Nat)}{x:SL}(h:∀ p∈l,p.1≠x):getM l x=0:=by
 unfold getM
 rw [List.find?_eq_none.2 (fun p hp=>by simpa using h p hp)]
 rfl
theorem Zjl {l:List (SL × Nat)}(h:MapOk l) {x:SL}(hx:SL7 x) (w:World) :
  ((Instr.findKey 248 (.agg (Zaq x)) (ents l).toList).run prog w=.ok none w∧∀ p∈l,p.1≠x) ∨
  ∃ j p,(Instr.findKey 248 (.agg (Zaq x)) (ents l).toList).run prog w=.ok (some (j,.int .i64 p.2)) w∧l[j]? = some p∧p.1=x:=by
 obtain ⟨k,hk⟩:=Zsa hx
 rcases st_law.find w hk (ents l).toList h.keyed with ⟨h1,h2⟩ | ⟨j,e,h1,h2,h3⟩
 ·refine .inl ⟨h1,fun p hp he=>?_⟩
  obtain ⟨i,hi⟩:=List.getElem?_of_mem hp
  have:({ key:=.agg (Zaq p.1),val:=.int .i64 p.2,born:=0+i }:MapEntry)∈(ents l).toList:=by
   refine List.mem_of_getElem? (i:=i) ?_
   simp [ents,entsFrom_get,hi]
  exact h2 _ this (by rw [he])
 ·have h4:(entsFrom 0 l)[j]? = some e:=by simpa [ents] using h2
  rw [entsFrom_get] at h4
  cases hp:l[j]? with
  | none=>simp [hp] at h4
  | some p =>
   simp only [hp,Option.map_some,Option.some.injEq] at h4
   subst h4
   exact .inr ⟨j,p,h1,hp,Ztz (by simpa using h3)⟩
theorem Zmz {w:World}{m:Nat}{l:List (SL × Nat)}(hm:MapIs w m l) (h:MapOk l) {x:SL}(hx:SL7 x) :
  (Instr.lookup 249 (.map (some m)) (.agg (Zaq x)) false).run prog w=.ok ↑(getM l x) w:=by
 obtain ⟨k,hk⟩:=Zsa hx
 have hc:=fun em=>st_law.check w em hk
 have hz:(zeroValue 3).run prog w=.ok ↑() w:=by simp [go_sem]
 rcases Zjl h hx w with ⟨h1,h2⟩ | ⟨j,p,h1,h2,h3⟩
 ·simp [Instr.lookup,underlying249,MapKept.run_getObj_map hm,hc,h1,hz,Zws h2]
 ·subst h3
  simp [Instr.lookup,underlying249,MapKept.run_getObj_map hm,hc,h1,Zwt h h2]
structure Turn1 (w:World) (b:Nat) (w':World):Prop where
 size:w'.heap.size=w.heap.size
 other:∀ {c:Nat},c≠b→w'.heap[c]? = w.heap[c]?
 cell:∀ c i,w'.cell? ⟨c,i,none⟩=if c=b then cellX w' b i else w.cell? ⟨c,i,none⟩
 free:∀ c i,w'.frozen? ⟨c,i,none⟩=if c=b then Zra w' b i else w.frozen? ⟨c,i,none⟩
 below:∀ {n:Nat}{W:World},Below n W w→n≤b→Below n W w'
theorem Turn1.blk {w w':World}{b c:Nat}{A:Array Value}{t:TypeId}(h:Turn1 w b w') (hb:Blk w c A t) (hc:c≠b):Blk w' c A t:=(h.other hc).trans hb
theorem _root_.Q2v {p:Prop}(h:p:=by
 simp only [Go.ChangeMaps.setBlock]
 rw [Array.getElem?_setIfInBounds,if_pos rfl,if_pos (by rw [hh];exact hb)]):p:=h
theorem Turn1.of {w w1:World}{b:Nat}{o:Obj}(hw:w1=w∨w1=w.drew) (hb:b < w.heap.size):Turn1 w b (Go.ChangeMaps.setBlock w1 b o)∧(Go.ChangeMaps.setBlock w1 b o).heap[b]? = some o:=by
 have hh:w1.heap=w.heap:=by rcases hw with rfl|rfl <;> rfl
 have hot:∀ {c:Nat},c≠b→(Go.ChangeMaps.setBlock w1 b o).heap[c]? = w.heap[c]?:=by
  intro c hc
  simp only [Go.ChangeMaps.setBlock]
  rw [Array.getElem?_setIfInBounds,if_neg (Ne.symm hc),hh]
 have hsz:(Go.ChangeMaps.setBlock w1 b o).heap.size=w.heap.size:=by simp [Go.ChangeMaps.setBlock,hh]
 refine ⟨⟨hsz,hot,fun c i=>?_,fun c i=>?_,fun hB hn=>hB.trans ⟨?_,?_,?_,Nat.le_of_eq hsz.symm,fun k hk=>hot om_⟩⟩,?_⟩
 ·by_cases hc:c=b
  ·subst hc;rw [if_pos rfl];rfl
  ·rw [if_neg hc];exact World.cell?_of_block (a:=⟨c,i,none⟩) (hot hc)
 ·by_cases hc:c=b
  ·subst hc;rw [if_pos rfl];rfl
  ·rw [if_neg hc];exact World.frozen?_of_block (a:=⟨c,i,none⟩) (hot hc)
 ·rcases hw with rfl|rfl <;> rfl
 ·rcases hw with rfl|rfl <;> rfl
 ·rcases hw with rfl|rfl <;> rfl
 ·exact Q2v
theorem _root_.Qo {p:Prop}(h:p:=by
 rw [if_pos hin]
 refine ⟨?_,sp_⟩
 apply Array.ext_getElem?
 intro i
 rw [Array.getElem?_modify]
 simp only [ents,List.getElem?_toArray,entsFrom_get,List.getElem?_map,Option.map_map]
 by_cases hij:j=i
 ·subst hij
  rw [if_pos rfl,hj]
  simp
 ·rw [if_neg hij]
  cases hq:l[i]? with
  | none=>rfl
  | some q =>
   have hne:q.1≠p.1:=by
    intro he
    have hi':(l.map (·.1))[i]? = some q.1:=by simp [hq]
    have hj':(l.map (·.1))[j]? = some p.1:=by simp [hj]
    rw [he] at hi'
    exact hij ((List.getElem?_inj (by simpa using (List.getElem?_eq_some_iff.1 hj).1) h.2).1 (hj'.trans hi'.symm))
   simp [hne]):p:=h
theorem putM_old {l:List (SL × Nat)}(h:MapOk l) {j:Nat}{p:SL × Nat}(hj:l[j]? = some p) (v:Nat) :
  (ents l).modify j (fun e=>{ e with key:=.agg (Zaq p.1),val:=↑v })=ents (putM l p.1 v)∧(putM l p.1 v).length=l.length:=by
 have hm:p∈l:=List.mem_of_getElem? hj
 have hin:p.1∈l.map (·.1):=List.mem_map_of_mem hm
 unfold putM
 exact Qo
theorem _root_.Q13 {p:Prop}(h:p:=by
 rw [if_neg hni]
 refine ⟨?_,sp_⟩
 apply Array.ext_getElem?
 intro i
 rw [Array.getElem?_push]
 simp only [ents,List.getElem?_toArray,entsFrom_get,List.size_toArray,entsFrom_length]
 by_cases hi:i=l.length
 ·subst hi
  simp
 ·rw [if_neg hi]
  by_cases h2:i < l.length
  ·rw [List.getElem?_append_left h2]
  ·rw [List.getElem?_eq_none om_,List.getElem?_eq_none (by simp;omega)]):p:=h
theorem putM_new {l:List (SL × Nat)}{x:SL}(hn:∀ p∈l,p.1≠x) (v:Nat) :
  (ents l).push { key:=.agg (Zaq x),val:=↑v,born:=l.length }=ents (putM l x v)∧(putM l x v).length=l.length+1:=by
 have hni:x ∉ l.map (·.1):=by
  intro h
  obtain ⟨p,hp,he⟩:=List.mem_map.1 h
  exact hn p hp he
 unfold putM
 exact Q13
theorem _root_.Qk {p:Prop}(h:p:=by
 split
 ·rename_i hin
  refine ⟨fun p hp=>?_,?_⟩
  ·obtain ⟨q,hq,rfl⟩:=List.mem_map.1 hp
   split
   ·exact hx
   ·exact h.1 q hq
  ·have:(l.map (fun p=>if p.1=x then (x,v) else p)).map (·.1)=l.map (·.1):=by
    rw [List.map_map]
    apply List.map_congr_left
    intro p _
    by_cases he:p.1=x
    ·simp [he]
    ·simp [he]
   rw [this]
   exact h.2
 ·rename_i hni
  refine ⟨fun p hp=>?_,?_⟩
  ·rcases List.mem_append.1 hp with hp|hp
   ·exact h.1 p hp
   ·simp at hp;subst hp;exact hx
  ·rw [List.map_append,List.nodup_append]
   refine ⟨h.2,sp_,fun a ha b hb=>?_⟩
   simp at hb
   subst hb
   exact fun e=>hni (e ▸ ha)):p:=h
theorem MapOk.put {l:List (SL × Nat)}(h:MapOk l) {x:SL}(hx:SL7 x) (v:Nat):MapOk (putM l x v):=by
 unfold putM
 exact Qk
theorem Ziu {w:World}{m:Nat}{l:List (SL × Nat)}(hm:MapIs w m l) (h:MapOk l) {x:SL}(hx:SL7 x) (v:Nat) :
  ∃ w',(Instr.mapUpdate 249 (.map (some m)) (.agg (Zaq x)) ↑v).run prog w=.ok () w'∧Turn1 w m w'∧MapIs w' m (putM l x v):=by
 obtain ⟨k,hk⟩:=Zsa hx
 have hc:=fun em=>st_law.check w em hk
 have hst:=st_law.stays w hk
 have hlt:m < w.heap.size:=by
  rcases Nat.lt_or_ge m w.heap.size with h'|h'
  ·exact h'
  ·unfold MapIs at hm;simp [Array.getElem?_eq_none h'] at hm
 rcases Zjl h hx w with ⟨h1,h2⟩ | ⟨j,p,h1,h2,h3⟩
 ·obtain ⟨e1,e2⟩:=putM_new h2 v
  obtain ⟨t1,t2⟩:=Turn1.of (w:=w) (w1:=w) (b:=m) (o:=.map ((ents l).push { key:=.agg (Zaq x),val:=↑v,born:=l.length }) (l.length+1)) (.inl rfl) hlt
  refine ⟨_,?_,t1,?_⟩
  ·simp [Instr.mapUpdate,underlying249,MapKept.run_getObj_map hm,hc,h1,MapKept.run_setObj_map _ hm,Go.ChangeMaps.setBlock]
  ·unfold MapIs;rw [t2,e1,e2]
 ·subst h3
  obtain ⟨e1,e2⟩:=putM_old h h2 v
  have hent:(ents l)[j]? = some { key:=.agg (Zaq p.1),val:=.int .i64 p.2,born:=0+j }:=by simp [ents,entsFrom_get,h2]
  obtain ⟨t1,t2⟩:=Turn1.of (w:=w) (w1:=w) (b:=m) (o:=.map ((ents l).modify j fun e=>{ e with key:=.agg (Zaq p.1),val:=↑v }) l.length) (.inl rfl) hlt
  refine ⟨_,?_,t1,?_⟩
  ·simp [Instr.mapUpdate,underlying249,MapKept.run_getObj_map hm,hc,h1,hent,hst,MapKept.run_setObj_map _ hm,Go.ChangeMaps.setBlock]
  ·unfold MapIs;rw [t2,e1,e2]
theorem MapIs.lt {w:World}{m:Nat}{l:List (SL × Nat)}(h:MapIs w m l):m < w.heap.size:=lt_of_block h
theorem MapIs.alloc {w:World}{m:Nat}{l:List (SL × Nat)}(h:MapIs w m l) (o:Obj):MapIs (w.alloc o) m l:=(Below.heap_alloc w o m h.lt).trans h
theorem MapIs.drew {w:World}{m:Nat}{l:List (SL × Nat)}(h:MapIs w m l):MapIs w.drew m l:=h
theorem MapIs.new (w:World):MapIs (w.alloc (.map #[] 0)) w.heap.size []:=by
 show (w.heap.push _)[w.heap.size]? = _
 simp [ents,entsFrom]
theorem MapOk.nil:MapOk []:=⟨(by intro p hp;cases hp),sp_⟩
def IterIs (w:World) (r m:Nat) (n:Nat) (seen:List Nat):Prop:=∃ c,n≤c∧w.heap[r]? = some (.mapIter (some m) n seen.toArray c)
theorem IterIs.lt {w:World}{r m n:Nat}{seen:List Nat}(h:IterIs w r m n seen):r < w.heap.size:=by
 obtain ⟨c,-,h⟩:=h
 exact lt_of_block h
section
variable {ops:Array Oper}{rest:List Oper}{o:Oper}{a:Act}{w:World}{Q:Exit→Act→World→Prop}
theorem Zir (x y:Operand) (hgd:o.guard=none) (ho:o.op=.lookup 249 x y false) {m:Nat}(hx:a.eval x=.map (some m)) {k:SL}(hy:a.eval y=.agg (Zaq k)) {l:List (SL × Nat)}(hm:MapIs w m l) (h:MapOk l) (hk:SL7 k)
  (hK:wpList prog ops Q rest (a.put o.dst ↑(getM l k)) w):wpList prog ops Q (o :: rest) a w:=by
 refine wpList_plain hgd fun K' hK'=>?_
 unfold Oper.wp
 simp [execOp,ho,hx,hy,Zmz hm h hk,Result.andThen]
 exact hK' _ _ hK
theorem Zdb (x y z:Operand) (hgd:o.guard=none) (ho:o.op=.mapUpdate 249 x y z∨o.op=.insert 249 x y z) {m:Nat}(hx:a.eval x=.map (some m)) {k:SL}(hy:a.eval y=.agg (Zaq k)) {v:Nat}(hz:a.eval z=↑v) {l:List (SL × Nat)}(hm:MapIs w m l) (h:MapOk l) (hk:SL7 k)
  (hK:∀ w',Turn1 w m w'→MapIs w' m (putM l k v)→wpList prog ops Q rest (a.put o.dst undef) w'):wpList prog ops Q (o :: rest) a w:=by
 refine wpList_plain hgd fun K' hK'=>?_
 obtain ⟨w',h1,h2,h3⟩:=Ziu hm h hk v
 unfold Oper.wp
 rcases ho with ho|ho <;> simp [execOp,ho,hx,hy,hz,h1,Result.andThen] <;> exact hK' _ _ (hK w' h2 h3)
theorem Zeq (x:Operand) (hgd:o.guard=none) (ho:o.op=.range 249 x) {m:Nat}(hx:a.eval x=.map (some m)) {l:List (SL × Nat)}(hm:MapIs w m l)
  (hK:∀ w',w'=w.alloc (.mapIter (some m) l.length #[] l.length)→IterIs w' w.heap.size m l.length []→MapIs w' m l→wpList prog ops Q rest (a.put o.dst (.pointer w.heap.size)) w'):wpList prog ops Q (o :: rest) a w:=by
 refine wpList_plain hgd fun K' hK'=>?_
 have hr:=run_range_map (P:=prog) w 249 248 3 m (ents l) l.length underlying249 hm
 unfold Oper.wp
 simp [execOp,ho,hx,hr,Result.andThen]
 exact hK' _ _ (hK _ rfl ⟨l.length,Nat.le_refl _,heap_alloc_new w _⟩ (hm.alloc _))
theorem Zx0 {l:List (SL × Nat)}:∀ x∈(ents l).toList,x.born < l.length:=by
 intro x hx
 obtain ⟨i,hi⟩:=List.getElem?_of_mem hx
 have h4:(entsFrom 0 l)[i]? = some x:=by simpa [ents] using hi
 rw [entsFrom_get] at h4
 cases hp:l[i]? with
 | none=>simp [hp] at h4
 | some p =>
  simp only [hp,Option.map_some,Option.some.injEq] at h4
  subst h4
  have:=(List.getElem?_eq_some_iff.1 hp).1
  simp;exact this
theorem ents_borns (i:Nat) (l:List (SL × Nat)):(entsFrom i l).map (·.born)=List.range' i l.length:=by
 induction l generalizing i with
 | nil=>rfl
 | cons p l ih=>simp [entsFrom,ih,List.range'_succ]
theorem Zu5 (l:List (SL × Nat)):((ents l).toList.map (·.born)).Nodup:=by
 simp only [ents]
 rw [ents_borns]
 exact List.nodup_range'
theorem Zg8 (x:Operand) (hgd:o.guard=none) (ho:o.op=.next x false) {r m:Nat}(hx:a.eval x=.pointer r) {l:List (SL × Nat)}{seen:List Nat}(hr:IterIs w r m l.length seen) (hm:MapIs w m l)
  (hDone:(∀ i,i < l.length→i∈seen)→wpList prog ops Q rest (a.put o.dst (.tuple #[.bool false])) w)
  (hMore:∀ i p w',l[i]? = some p→i ∉ seen→Turn1 w r w'→IterIs w' r m l.length (seen ++ [i])→MapIs w' m l→(Instr.entry (.pointer r)).run prog w'=.ok (.tuple #[.agg (Zaq p.1),.int .i64 p.2]) w' →
   wpList prog ops Q rest (a.put o.dst (.tuple #[.bool true,.agg (Zaq p.1),.int .i64 p.2])) w'):wpList prog ops Q (o :: rest) a w:=by
 refine wpList_plain hgd fun K' hK'=>?_
 have hrl:=hr.lt
 obtain ⟨c,hc,hr⟩:=hr
 have hne:m≠r:=by
  intro e;subst e
  rw [show w.heap[m]? = _ from hm] at hr
  cases hr
 rcases run_next_at (P:=prog) w o.type r m l.length c seen.toArray (ents l) l.length hr hm Zx0 hc with ⟨h0,hrun⟩ | ⟨e,he,w1,hw1,hrun⟩
 ·unfold Oper.wp
  simp [execOp,ho,hx,hrun,Result.andThen]
  refine hK' _ _ (hDone fun i hi=>?_)
  obtain ⟨p,hp⟩:∃ p,l[i]? = some p:=⟨l[i],by simp [hi]⟩
  have:=all_seen (ents l) seen.toArray h0 { key:=.agg (Zaq p.1),val:=.int .i64 p.2,born:=0+i } (List.mem_of_getElem? (i:=i) (by simp [ents,entsFrom_get,hp]))
  simpa using this
 ·obtain ⟨h1,h2⟩:=mem_left he
  obtain ⟨i,hi⟩:=List.getElem?_of_mem h1
  have h4:(entsFrom 0 l)[i]? = some e:=by simpa [ents] using hi
  rw [entsFrom_get] at h4
  cases hp:l[i]? with
  | none=>simp [hp] at h4
  | some p =>
   simp only [hp,Option.map_some,Option.some.injEq] at h4
   obtain ⟨t1,t2⟩:=Turn1.of (w:=w) (w1:=w1) (b:=r) (o:=.mapIter (some m) l.length (seen.toArray.push e.born) l.length) hw1 hrl
   have hm':MapIs (Go.ChangeMaps.setBlock w1 r (.mapIter (some m) l.length (seen.toArray.push e.born) l.length)) m l:=(t1.other hne).trans hm
   have hen:=run_entry_at (P:=prog) _ r m l.length seen.toArray (ents l) l.length e t2 hm' h1 (Zu5 l)
   have hni:i ∉ seen:=by rw [← h4] at h2;simpa using h2
   have hit:IterIs (Go.ChangeMaps.setBlock w1 r (.mapIter (some m) l.length (seen.toArray.push e.born) l.length)) r m l.length (seen ++ [i]):=⟨l.length,Nat.le_refl _,by rw [t2,← h4];simp⟩
   generalize Go.ChangeMaps.setBlock w1 r (.mapIter (some m) l.length (seen.toArray.push e.born) l.length)=W' at *
   subst h4
   unfold Oper.wp
   simp [execOp,ho,hx,hrun,Result.andThen]
   exact hK' _ _ (hMore i p _ hp hni t1 hit hm' hen)
end
def Rep (l:List (SL × Nat)) (S:List SL):Prop:=MapOk l∧∀ x,getM l x=S.count x
theorem Zsq {l:List (SL × Nat)}(h:MapOk l) (y:SL) (v:Nat) (z:SL):getM (putM l y v) z=if z=y then v else getM l z:=by
 unfold putM
 split
 ·rename_i hin
  by_cases hz:z=y
  ·subst hz
   rw [if_pos rfl]
   obtain ⟨p,hp,he⟩:=List.mem_map.1 hin
   unfold getM
   rw [List.find?_map]
   have hf:l.find? ((fun q:SL × Nat=>q.1 == z) ∘ fun p=>if p.1=z then (z,v) else p)=l.find? (fun q=>q.1 == z):=by
    congr 1
    funext q
    by_cases hq:q.1=z
    ·simp [hq]
    ·simp [hq]
   rw [hf]
   cases hfd:l.find? (fun q=>q.1 == z) with
   | none =>
    have:=List.find?_eq_none.1 hfd p hp
    simp [he] at this
   | some q =>
    have h2:=List.find?_some hfd
    simp only [beq_iff_eq] at h2
    simp [h2]
  ·rw [if_neg hz]
   unfold getM
   rw [List.find?_map]
   have hf:l.find? ((fun q:SL × Nat=>q.1 == z) ∘ fun p=>if p.1=y then (y,v) else p)=l.find? (fun q=>q.1 == z):=by
    congr 1
    funext q
    by_cases hq:q.1=y
    ·simp [hq]
    ·simp [hq]
   rw [hf]
   cases hfd:l.find? (fun q=>q.1 == z) with
   | none=>rfl
   | some q =>
    have h2:=List.find?_some hfd
    simp only [beq_iff_eq] at h2
    have:q.1≠y:=fun e=>hz (h2.symm.trans e)
    simp [this]
 ·rename_i hni
  unfold getM
  rw [List.find?_append]
  by_cases hz:z=y
  ·subst hz
   rw [if_pos rfl,List.find?_eq_none.2 (fun p hp=>by
    simp only [beq_iff_eq]
    intro e
    exact hni (e ▸ List.mem_map_of_mem hp))]
   simp
  ·rw [if_neg hz]
   cases hfd:l.find? (fun q=>q.1 == z) with
   | none=>simp [Ne.symm hz]
   | some q=>simp
theorem Rep.add {l:List (SL × Nat)}{S:List SL}(h:Rep l S) {y:SL}(hy:SL7 y) (n:Nat):Rep (putM l y (getM l y+n)) (S ++ List.replicate n y):=by
 refine ⟨h.1.put hy _,fun x=>?_⟩
 rw [Zsq h.1,List.count_append,List.count_replicate,← h.2 x]
 by_cases hx:x=y
 ·subst hx;simp
 ·rw [if_neg hx,if_neg (by simpa using Ne.symm hx)];omega
theorem Rep.perm {l:List (SL × Nat)}{S T:List SL}(h:Rep l S) (hp:S.Perm T):Rep l T:=⟨h.1,fun x=>(h.2 x).trans (hp.count_eq x)⟩
theorem Rep.nil:Rep [] []:=⟨MapOk.nil,fun x=>rfl⟩
def expand (l:List (SL × Nat)):List SL:=l.flatMap fun p=>List.replicate p.2 p.1
theorem Zpj {l:List (SL × Nat)}(h:(l.map (·.1)).Nodup) (x:SL):(expand l).count x=getM l x:=by
 induction l with
 | nil=>rfl
 | cons p l ih =>
  simp only [List.map_cons,List.nodup_cons] at h
  unfold expand at *
  rw [List.flatMap_cons,List.count_append,ih h.2,List.count_replicate]
  unfold getM
  rw [List.find?_cons]
  by_cases hx:p.1=x
  ·subst hx
   simp only [beq_self_eq_true,if_true]
   rw [List.find?_eq_none.2 (fun q hq=>by
    simp only [beq_iff_eq]
    intro e
    exact h.1 (e ▸ List.mem_map_of_mem hq))]
   simp
  ·have:(p.1 == x)=false:=by simpa using hx
   simp [this]
theorem Rep.expand {l:List (SL × Nat)}{S:List SL}(h:Rep l S):(expand l).Perm S:=by
 rw [List.perm_iff_count]
 intro x
 rw [Zpj h.1.2,h.2]
def Zkr (st:Bool→SL→SL) (p:SL × Nat):List SL:=List.replicate p.2 (st false p.1) ++ List.replicate p.2 (st true p.1)
theorem Zuo (st:Bool→SL→SL) (p:SL × Nat):(Zkr st p).Perm ((List.replicate p.2 p.1).flatMap fun x=>[st false x,st true x]):=by
 unfold Zkr
 obtain ⟨x,n⟩:=p
 simp only
 induction n with
 | zero=>simp
 | succ n ih =>
  rw [List.replicate_succ,List.replicate_succ,List.replicate_succ,List.flatMap_cons]
  simp only [List.cons_append,List.nil_append]
  refine List.Perm.cons _ ?_
  refine (List.perm_middle).trans ?_
  exact List.Perm.cons _ ih
theorem Zy5 (st:Bool→SL→SL) (l:List (SL × Nat)):(l.flatMap (Zkr st)).Perm ((expand l).flatMap fun x=>[st false x,st true x]):=by
 induction l with
 | nil=>exact List.Perm.refl _
 | cons p l ih =>
  unfold expand at *
  rw [List.flatMap_cons,List.flatMap_cons,List.flatMap_append]
  exact (Zuo st p).append ih
theorem Zor {α:Type}(l:List α) (d:α) (seen:List Nat) (hn:seen.Nodup) (hlt:∀ i∈seen,i < l.length) (hall:∀ i,i < l.length→i∈seen):(seen.map fun i=>l.getD i d).Perm l:=by
 have h1:seen.Perm (List.range l.length):=(List.perm_ext_iff_of_nodup hn List.nodup_range).2 fun i=>⟨fun h=>List.mem_range.2 (hlt i h),fun h=>hall i (List.mem_range.1 h)⟩
 have h2:=h1.map fun i=>l.getD i d
 have h3:(List.range l.length).map (fun i=>l.getD i d)=l:=by
  apply List.ext_getElem?
  intro i
  by_cases hi:i < l.length
  ·simp [hi]
  ·simp [hi]
 rwa [h3] at h2
inductive Kn where
 | g (vo:Nat) (lo hi:Int)
 | p (a b:Nat) (s:Bool)
def knV:Kn→Value
 | .g vo lo hi=>gv vo lo hi
 | .p a b s=>pv a b s
def KnAt (w:World) (ka:Option Addr) (ks:List Kn):Prop:=∀ i,(h:i < ks.length)→∃ b o,ka=some ⟨b,o,none⟩∧w.cell? ⟨b,o+i,none⟩=some (knV ks[i])
theorem KnAt.below {w w':World}{ka:Option Addr}{ks:List Kn}(h:KnAt w ka ks) (hb:w w'):KnAt w' ka ks:=fun i hi =>
 let ⟨b,o,h0,h1⟩:=h i hi
 ⟨b,o,h0,Za4 hb h1⟩
def knOk:Kn→Prop
 | .g vo _ _=>vo < 256
 | .p a b _=>a < 8∧b < 8
def Zg4 (x:Option (Ti × List Gr)) (k:Kn):Option (Ti × List Gr) :=
 match x,k with
 | none,_=>none
 | some (t,gs),.g vo lo hi=>some (t,gs ++ [(vo,lo,hi)])
 | some (t,gs),.p a b s=>if Zek t a b s then some (Zd1 t a b s,gs) else none
def Zh6 (L:List Kn) (g0:Gr):Option (Ti × List Gr):=L.foldl Zg4 (some (Zi0,[g0]))
def Ze7 (ks:List Kn) (set:Nat) (k:Nat):List Kn:=(List.range k).flatMap fun i=>match ks[i]? with|some x=>if hasB set i then [x] else []|none=>[]
def sel (ks:List Kn) (set:Nat) (ws:List Kn):List Kn:=Ze7 ks set ks.length ++ ws
def x7 (s:St):SL:=[s 0,s 1,s 2,s 3,s 4,s 5,s 6]
def f7 (x:SL):St:=fun i=>x.getD i 0
theorem f7_x7 (s:St) (i:Nat) (h:i < 7):f7 (x7 s) i=s i:=by
 rcases (show i=0∨i=1∨i=2∨i=3∨i=4∨i=5∨i=6 by omega) with rfl|rfl|rfl|rfl|rfl|rfl|rfl <;> rfl
theorem x7_f7 (x:SL) (h:x.length=7):x7 (f7 x)=x:=by
 match x,h with
 | [a,b,c,d,e,f,g],_=>rfl
theorem Zwe (s:St):Zaq (x7 s)=Zbc s:=rfl
theorem Zew (x:SL) (h:x.length=7):Zbc (f7 x)=Zaq x:=by rw [← Zwe,x7_f7 x h]
def Zb1 (gs:List Gr) (t:Ti) (first:Nat) (white:Bool) (s:St):Nat→St
 | 0=>s
 | k+1=>if (t k).1=first∧(t k).2=white then Ztb gs (Zb1 gs t first white s k) k else Zb1 gs t first white s k
def Zai (gs:List Gr) (t:Ti) (V first:Nat) (white:Bool) (x:SL):SL:=x7 (Zb1 gs t first white (f7 x) V)
def Zaz (gs:List Gr) (t:Ti) (V:Nat):Nat→List SL
 | 0=>[[0,0,0,0,0,0,0]]
 | k+1=>if (t k).1=k then (Zaz gs t V k).flatMap fun x=>[Zai gs t V k false x,Zai gs t V k true x] else Zaz gs t V k
def outN (gs:List Gr) (S:List SL) (n:Nat):Nat:=S.countP fun x=>Ziv gs (f7 x) && f7 x 0 == n
def Za6 (V:Nat) (lo hi:Int) (L:List Kn) (n:Nat):Nat :=
 match Zh6 L (2 ^ V - 1,lo,hi) with
 | none=>0
 | some (t,gs)=>outN gs (Zaz gs t V V) n
theorem Zuw (gs:List Gr) (s:St) (v k i:Nat):Zc7 gs s v k i≤s i+1:=by unfold Zc7;split <;> omega
theorem Zgp (gs:List Gr) (t:Ti) (first:Nat) (white:Bool) (s:St) (k i:Nat):Zb1 gs t first white s k i≤s i+k:=by
 induction k with
 | zero=>simp [Zb1]
 | succ k ih =>
  simp only [Zb1]
  split
  ·have:=Zuw gs (Zb1 gs t first white s k) k gs.length i
   show Zc7 _ _ _ _ _≤_
   omega
  ·omega
end Go.Proofs.YtbapgefodmmikaaGreatDoor
