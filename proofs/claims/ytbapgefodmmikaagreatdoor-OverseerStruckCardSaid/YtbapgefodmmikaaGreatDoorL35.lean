/- Parts of a proof. -/
import Derived.Test.YtbapgefodmmikaaGreatDoorLMin
import Derived.Test.YtbapgefodmmikaaGreatDoorL34
set_option linter.unusedVariables false
set_option linter.unusedSimpArgs false
set_option maxHeartbeats 40000000
set_option maxRecDepth 100000
namespace Go.Proofs.YtbapgefodmmikaaGreatDoor
open Go.RowKit Go.Proofs Go.Ord Tryz
attribute [local irreducible] Ord.walk
open Go.MapG
attribute [local go_sem] Oper.semAt_some
def strL (s:Bs):List Value:=[strV s]
theorem Zmw (s:Bs):(strL s).length=1:=rfl
def Zuq (O:Nat) (b:Ov) (sa:Option Addr) (sc:Nat) (fa:Option Addr) (fc:Nat) (na:Option Addr) (r:Bs × Int × List Nt) (w:World) (e:Ending) (w':World):Prop :=
 e=.returned (.tuple #[strV r.1,.int .i64 r.2.1])∧Lets (fun k _=>k=O) w w'∧∃ na' nc',OvOk w' O b r.2.2 sa sc fa fc na' nc'∧∀ p,na'=some p→na=some p∨(w.heap.size≤p.block∧p.block < w'.heap.size)
theorem Znf:(prog.info? 9).map (fun i=>(i.zero,i.size,i.bytes))=some (some (.string ⟨#[]⟩),1,16):=by kernel_rfl
theorem rows_str (W:World) (l:List Bs) (t:TypeId):RowsAt (W.alloc (.cells (l.map strV).toArray t)) W.heap.size 1 strL l:=fun i hi=>by
 refine ⟨_,_,rfl,fun j u hj=>?_⟩
 have hc:=(Blk.new W (l.map strV).toArray t).cell (0+i * 1+j)
 rw [hc]
 obtain rfl:j=0:=by
  rcases j with _|j
  ·rfl
  ·simp [strL] at hj
 simp [strL] at hj
 simp [hi,hj]
section
variable {w:World}{O:Nat}{b:Ov}{l:List Nt}{sa:Option Addr}{sc:Nat}{fa:Option Addr}{fc:Nat}{na:Option Addr}{nc:Nat}
theorem Zr1 (h:OvOk w O b l sa sc fa fc na nc) (s:Bs) (hs:40 < s.length) :
  Calls prog 19 #[.pointer O,strV s] w (Zuq O b sa sc fa fc na (Zb8 b l s) w):=by
 have hr:Zb8 b l s=([],3,l):=by unfold Zb8;rw [if_pos hs]
 rw [hr]
 have HN:=hd_ (fun W=>Zdf 3 W)
 have HY:=hd_ (fun W=>Zbz 13 W)
 have HE:Hid (∀ W,Below w.heap.size w W→Zuq O b sa sc fa fc na ([],3,l) w (.returned (.tuple #[strV [],.int .i64 3])) W):=fun W hb=>⟨rfl,Lets.of_below hb,na,nc,h.below hb,fun p e=>.inl e⟩
 have bO:=h.at_.blk
 have r:=bO.cell
 have lt:=bO.lt
 unfold ovV at r
 have hli:¬ (s.length:Int)≤40:=by omega
 have hld:decide ((s.length:Int)≤40)=false:=by simpa using hli
 have hB1:w (w.alloc (.cells #[()] 31)):=by exact bel_
 have bE:Blk (w.alloc (.cells #[()] 31)) w.heap.size #[()] 31:=Blk.new _ _ _
 unfold strV at *
 clear h bO hr
 refine callsIn_wide.1 (callsIn_of_wp_marks (F:=Fence.wide) (n:=0) func19 rfl trivial (wpIn_wide.2 ?_) rfl)
 simp only [ntmps19,List.size_toArray,List.length_cons,List.length_nil,Nat.reduceAdd,Nat.reduceSub,Array.replicate_succ,Array.replicate_zero,List.push_toArray,List.append_toArray,List.nil_append,List.cons_append]
 go_wp2_with (first
  | (go_at_call 64;(with_reducible refine (HY.out _).mono ?_);rintro e w2 ⟨rfl,rfl⟩)
  | (go_at_call 64;(with_reducible refine (HN.out _).mono ?_);rintro e w2 ⟨rfl,rfl⟩))
 refine Zal (pb:=w.heap.size) (v:=.tuple #[.string ⟨#[]⟩,.int .i64 3]) Zee (fun W=>by simp [go_sem]) rfl bE fun w' hl hb=>⟨?_,HE.out _ (Za3 hB1 hl nl_ (fun _ _ _=>om_))⟩
 have r4:=hb.cell
 simp [results,results19,go_sem,r4]
theorem Zwc {w:World}{N:Nat}{v:Value}{t:TypeId}(h:Blk w N #[v] t):Lets (fun _ _=>False) w (w.setCell ⟨N,0,none⟩ v):=by
 have hl:Lets (fun k _=>k=N) w (w.setCell ⟨N,0,none⟩ v):=(Lets.refl _ _).setCell rfl _
 refine ⟨hl.os,hl.tape,hl.output,hl.size,fun k hk _=>?_⟩
 by_cases e:k=N
 ·subst e
  have h2:=h.set 0 v
  have h3:(w.setCell ⟨k,0,none⟩ v).heap[k]? = some (.cells #[v] t (0,0)):=h2
  exact h3.trans (show w.heap[k]? = some (.cells #[v] t (0,0)) from h).symm
 ·exact hl.block k hk e
theorem do_bad (b:Ov) (l:List Nt) (a:List Int) (wd:Wd) (h:(doO b l a wd).2.1≠0):doO b l a wd=([],(doO b l a wd).2.1,l):=by
 cases wd with
 | note k f la m =>
  simp only [doO] at h ⊢
  (repeat' split) <;> first|rfl|(exfalso;simp_all;done)
 | strike =>
  simp only [doO] at h ⊢
  split <;> first|rfl|(exfalso;simp_all;done)
 | ask k =>
  simp only [doO] at h ⊢
  split <;> first|rfl|(exfalso;simp_all;done)
theorem words_n:wordsO.all (fun x=>decide (0≤x.2.1∧x.2.1≤3))=true:=by decide +kernel
theorem Zty (b:Ov) (l:List Nt) (s:Bs) (hs:¬ 40 < s.length) :
  (wordsO.find? (fun x=>x.1 == (Zab s).headD [])=none→Zb8 b l s=([],8,l)) ∧
  (∀ x,wordsO.find? (fun x=>x.1 == (Zab s).headD [])=some x→((Zab s).length:Int)≠x.2.1+1→Zb8 b l s=([],8,l)) ∧
  (∀ x,wordsO.find? (fun x=>x.1 == (Zab s).headD [])=some x→((Zab s).length:Int)=x.2.1+1→∀ k,(h:k+1 < (Zab s).length)→numO (Zab s)[k+1]=none→Zb8 b l s=([],8,l)) ∧
  (∀ x,wordsO.find? (fun x=>x.1 == (Zab s).headD [])=some x→((Zab s).length:Int)=x.2.1+1→∀ ns:List Int,ns.length+1=(Zab s).length→(∀ k,(h:k+1 < (Zab s).length)→numO (Zab s)[k+1]=ns[k]?)→Zb8 b l s=doO b l ns x.2.2):=by
 have hl:Zb8 b l s=match wordsO.find? (fun x=>x.1 == (Zab s).headD []) with
  | none=>([],8,l)
  | some x=>if ((Zab s).length:Int)=x.2.1+1 then
    match Zg2 (Zab s).tail with
    | none=>([],8,l)
    | some a=>doO b l a x.2.2
   else ([],8,l):=by unfold Zb8;rw [if_neg hs];rfl
 rw [hl]
 refine ⟨fun h=>by rw [h],fun x h hn=>by rw [h];simp only [hn,if_false],fun x h he k hk hn=>?_,fun x h he ns hns hk=>?_⟩
 ·rw [h]
  simp only [he,if_true]
  have hkt:k < (Zab s).tail.length:=by rw [List.length_tail];omega
  rw [Zma (Zab s).tail k hkt (by rw [List.getElem_tail];exact hn)]
 ·rw [h]
  simp only [he,if_true]
  have:=(Zm9 (Zab s).tail ns).2 ⟨by rw [List.length_tail];omega,fun k hkt=>by rw [List.getElem_tail];exact hk k (by rw [List.length_tail] at hkt;omega)⟩
  rw [this]
theorem _root_.Q1y {p:Prop}(h:p:=by
 go_wp2_with (first
  | (go_at_call 64;(with_reducible refine (HN8.out _).mono ?_);rintro e w2 ⟨rfl,rfl⟩))
 (refine hEr.out wc hBw bE5 hR8.out _ ?_ ?_ ?_ <;> rfl)):p:=h
theorem Zr0 (h:OvOk w O b l sa sc fa fc na nc) (hO:9≤O) (s:Bs) (hs:¬ 40 < s.length) :
  Calls prog 19 #[.pointer O,strV s] w (Zuq O b sa sc fa fc na (Zb8 b l s) w):=by
 obtain ⟨i0,hi,hz0,hz1,hz2⟩:=Zbp Zsn
 obtain ⟨hp1,hp2,hp3,hp4⟩:=Zty b l s hs
 have HP1:=hd_ hp1
 have HP2:=hd_ hp2
 have HP3:=hd_ hp3
 have HP4:=hd_ hp4
 have HY13:=hd_ (fun W=>Zbz 13 W)
 have HY3:=hd_ (fun W=>Zbz 3 W)
 have HY8:=hd_ (fun W=>Zbz 8 W)
 have HN8:=hd_ (fun W=>Zdf 8 W)
 have HE:Hid (∀ (er:Int) W,Below w.heap.size w W→Zb8 b l s=([],er,l)→Zuq O b sa sc fa fc na (Zb8 b l s) w (.returned (.tuple #[strV [],.int .i64 er])) W):=fun er W hb e=>by
  rw [e]
  exact ⟨rfl,Lets.of_below hb,na,nc,h.below hb,fun p e=>.inl e⟩
 have HDo:Hid (∀ W B,Below w.heap.size w W→O < B→∀ x∈wordsO,∀ a:List Int,(a.length:Int)=x.2.1→(∀ n∈a,-9999≤n∧n≤9999)→∀ fv,WdAt B W fv x.2.2→∀ aa ac,RowsAt W aa 1 numL a→Zqd fv #[.pointer O,.slice aa a.length ac] W (DoPost O b sa sc fa fc na (doO b l a x.2.2) W)) :=
  fun W B hb hB x hx a ha hs fv hf aa ac hr=>o_do (h.below hb) hO hB x hx a ha hs hf aa ac hr
 have HSp:Hid (∀ W,VarsOk W→Calls prog 29 #[.string ⟨s.toArray⟩,.string ⟨#[32]⟩] W (fun e w'=>e=.returned (.slice (some ⟨W.heap.size,0,none⟩) (Zab s).length (Zab s).length)∧Below W.heap.size W w'∧RowsAt w' (some ⟨W.heap.size,0,none⟩) 1 strL (Zab s)∧w'.heap.size=W.heap.size+1)):=fun W hv=>(s_Split s om_ W hv).mono (by
  rintro e w' ⟨rfl,rfl⟩
  exact ⟨rfl,br_.alloc nl_ _,rows_str W (Zab s) _,sp_⟩)
 have HVar:=hd_ (fun W (hb:Below w.heap.size w W)=>h.at_.vars.below hb h.at_.vars.2.2.2.2)
 have HMem:Hid (∀ x,wordsO.find? (fun x=>x.1 == (Zab s).headD [])=some x→x∈wordsO):=fun x e=>List.mem_of_find?_eq_some e
 have HFind:Hid (∀ {B:Nat}{W:World}{ys:List (Bs × Wv)},RelW B W wordsO ys→∃ n fv is,((MapG.get ys ((Zab s).headD [])).map vfW).getD (.agg #[(),.nilFunc])=Value.agg #[.int .i64 n,fv]∧(MapG.get ys ((Zab s).headD [])).isSome=is∧fv.oneCell'=true∧Found B W n fv is (wordsO.find? (fun x=>x.1 == (Zab s).headD []))):=fun h=>Zsg _ h
 have hps0:=Zjf s
 have hpsl:=Zm2 s
 have HPm:=hd_ (Zm1 s)
 have hli:(s.length:Int)≤40:=by omega
 have bO:=h.at_.blk
 have r:=bO.cell
 have lt:=bO.lt
 unfold ovV at r
 have hp0:∃ t ts,Zab s=t :: ts:=by
  cases hsp:Zab s with
  | nil=>rw [hsp] at hps0;simp at hps0
  | cons t ts=>exact ⟨t,ts,rfl⟩
 obtain ⟨hd0,tl0,hsp⟩:=hp0
 have hhd:(Zab s).headD []=hd0:=by rw [hsp];rfl
 rw [hhd] at HP1 HP2 HP3 HP4 HMem HFind
 have hhl:hd0.length≤1000000:=by have:=HPm.out hd0 (by rw [hsp];exact List.mem_cons_self ..);omega
 have HG0:Hid (∀ h:0 < (Zab s).length,(Zab s)[0]=hd0):=fun h=>by simp [hsp]
 clear h bO hp1 hp2 hp3 hp4 hhd hsp
 generalize wordsO.find? (fun x=>x.1 == hd0)=fr at *
 generalize hR:Zb8 b l s=R at *
 clear hR
 generalize Zab s=ps at *
 have hplen:ps.length≤41:=by omega
 clear hpsl
 have hB1:w (w.alloc (.cells #[()] 31)):=by exact bel_
 have bE:Blk (w.alloc (.cells #[()] 31)) w.heap.size #[()] 31:=Blk.new _ _ _
 have HRow0:Hid (∀ W g,RowsAt W (some ⟨g,0,none⟩) 1 strL ps→W.cell? ⟨g,0,none⟩=some (.string ⟨hd0.toArray⟩)):=fun W g hr=>by
  obtain ⟨gb,go,e,hq⟩:=hr 0 hps0
  simp only [Option.some.injEq,Addr.mk.injEq,and_true] at e
  obtain ⟨rfl,rfl⟩:=e
  have q:=hq 0 _ rfl
  rw [HG0.out hps0] at q
  exact q
 have HW:=hd_ (fun W=>o_words W)
 have HNum:=hd_ (fun t (ht:t∈ps) W (hv:VarsOk W)=>o_number t (by have:=HPm.out t ht;omega) W hv)
 show Calls _ _ #[_,.string ⟨s.toArray⟩] _ _
 refine callsIn_wide.1 (callsIn_of_wp_marks (F:=Fence.wide) (n:=0) func19 rfl trivial (wpIn_wide.2 ?_) rfl)
 simp only [ntmps19,List.size_toArray,List.length_cons,List.length_nil,Nat.reduceAdd,Nat.reduceSub,Array.replicate_succ,Array.replicate_zero,List.push_toArray,List.append_toArray,List.nil_append,List.cons_append]
 go_wp2_with (first
  | (go_at_call 64;(with_reducible refine (HY13.out _).mono ?_);rintro e w2 ⟨rfl,rfl⟩)
  | (go_at_call 64;(with_reducible refine (HY3.out _).mono ?_);rintro e w2 ⟨rfl,rfl⟩)
  | (go_at_call 29;refine (HSp.out _ (HVar.out _ hB1)).mono ?_;rintro e w3 ⟨rfl,hb3,hrow3,hs3⟩;refine Za2 ?_))
 unfold Stop
 have hB3:w w3:=hB1.trans (hb3.mono sp_)
 have bE3:=bE.below hb3 bE.lt
 have q03:=HRow0.out _ _ hrow3
 simp only [World.size_alloc] at hs3 hrow3 q03
 clear hb3 bE hB1
 generalize hN:w.heap.size=N at *
 have HN:=hd_ hN
 have HS3:=hd_ hs3
 clear hN
 have hs3a:N+2≤w3.heap.size:=by omega
 have hps0i:(0:Int) < (ps.length:Int):=by omega
 clear hs3
 go_upto_region 5 with fail
 go_cut [7,8] from 28 to 35 (fun p7 p8 wx=>∃ pb n fv is,p7=.pointer (some ⟨pb,0,none⟩)∧p8=.bool is∧Blk wx pb #[.int .i64 n,fv] 114∧Below (N+2) w3 wx∧Found (N+2) wx n fv is fr)
 case first =>
  have q03d:w3.drew.cell? ⟨N+1,0,none⟩=some (.string ⟨hd0.toArray⟩):=q03
  refine Zyz 4 (.fork2 [(1,1),(2,1),(3,1)] 0 (.fork2 [] 4 (.leaf [(5,1),(6,1),(7,1),(8,2),(9,2),(10,0)]) 8 (.leaf [(4,2),(5,0),(6,0),(7,1),(9,2),(10,0)])) 8 (.leaf [(0,2),(4,2),(5,0),(6,0),(7,1),(9,2),(10,0)])) (fun W=>W.cell? ⟨N+1,0,none⟩=some (.string ⟨hd0.toArray⟩)) kr_ kr_ q03d ?_
  have hA3:w3 (w3.alloc (.cells #[(),.nilFunc] 114)).drew:=(br_.alloc nl_ _).drew
  have q03a:(w3.alloc (.cells #[(),.nilFunc] 114)).drew.cell? ⟨N+1,0,none⟩=some (.string ⟨hd0.toArray⟩):=Za4 hA3 q03
  have hD3:w3 w3.drew:=br_.drew
  have bA3:Blk (w3.alloc (.cells #[(),.nilFunc] 114)).drew w3.heap.size #[(),.nilFunc] 114:=(Blk.new _ _ _).drew
  go_wp2_with (first
   | (with_reducible refine Zyp ?_)
   | (go_at_call 65;refine (HW.out _).mono ?_;rintro e w4 ⟨f0,f1,f2,f3,f4,f5,rfl,hb4,hw4,hc4⟩;(try simp only [World.size_drew,World.size_alloc] at hw4);obtain ⟨n,fv,is,hg1,hg2,hone,hF4⟩:=HFind.out (Zvi (hc4.mono (show N+2≤_ by first|(simp;omega;done)|(simp;done))));have hb34:w3 w4:=(by first|exact hD3.trans hb4|exact hA3.trans (hb4.mono sp_));have q04:=Za4 hb34 q03;have q04a:=Za4 ((Below.refl w4.heap.size w4).alloc nl_ (.cells #[(),.nilFunc] 114)) q04;have hw4a:=hw4.below ((Below.refl w4.heap.size w4).alloc nl_ (.cells #[(),.nilFunc] 114));have b4n:Blk (w4.alloc (.cells #[(),.nilFunc] 114)) w4.heap.size #[(),.nilFunc] 114:=Blk.new _ _ _;clear hc4;refine Za2 ?_)
   | ((with_reducible refine Zye ?_);first|(refine Zyq (ad:=⟨N+1,0,none⟩) (.string ⟨hd0.toArray⟩) rfl rfl ?_ ?_;(focus (intro W hW;simp [go_sem,hW];done));intro K hK)|(refine Zyw (.pointer ↑(N+1)) rfl ?_ ?_;(focus (intro W hW;simp [go_sem,hps0i,hps0];done));intro K hK))
   | (refine Zyf (by first|with_reducible exact q03d|with_reducible exact q03a) (fun _=>?_))
   | with_reducible refine Ord.top_two ?_|with_reducible refine Ord.top_three ?_|with_reducible refine Ord.at_two ?_ ?_|with_reducible refine Ord.at_three ?_ ?_ ?_|with_reducible refine Ord.tree_leaf ?_|with_reducible refine Ord.tree_two ?_|(refine o_ ?_;intro K hK)|(with_reducible first|refine Zyo ?_ ?_|refine Zyj ?_|refine Zyf bn_ (fun _=>?_)))
  all_goals unfold Stop
  all_goals go_wp2_with (first
    | (with_reducible refine Zyp ?_)
    | (refine MapG.wpList_lookup ww_mt (.tmp 29) (.tmp 32) true rfl rfl rfl rfl hw4.1 hw4.2 hhl ?_;rw [hg1,hg2])
    | (refine MapG.wpList_lookup ww_mt (.tmp 29) (.tmp 32) true rfl rfl rfl rfl hw4a.1 hw4a.2 hhl ?_;rw [hg1,hg2])
    | (refine Za1 114 (.tmp 7) (.tmp 34) Zc1 rfl rfl rfl rfl (by first|with_reducible exact b4n|with_reducible exact bA3.below hb4 bA3.lt) rfl rfl (by have h':=hone;simp [Value.oneCell'] at h' ⊢;exact h') ?_;intro w6 h6;refine Za2 ?_)
    | (refine Zyf (by first|with_reducible exact q04|with_reducible exact q04a) (fun _=>?_))
    | ((with_reducible refine Zye ?_);first|(refine Zyt rfl (.agg #[.int .i64 n,fv]) ?_ ?_;(focus (intro W _;simp [go_sem,Zyr,Zys];done));intro K hK)|(refine Zyt rfl (.bool is) ?_ ?_;(focus (intro W _;simp [go_sem,Zyr,Zys];done));intro K hK))
    | with_reducible refine Ord.top_two ?_|with_reducible refine Ord.top_three ?_|with_reducible refine Ord.at_two ?_ ?_|with_reducible refine Ord.at_three ?_ ?_ ?_|with_reducible refine Ord.tree_leaf ?_|with_reducible refine Ord.tree_two ?_|(refine o_ ?_;intro K hK)|(with_reducible first|refine Zyo ?_ ?_|refine Zyj ?_|refine Zyf bn_ (fun _=>?_)))
  all_goals unfold Stop
  all_goals have b6:=h6.blk
  all_goals have hl6:=(Lets.refl (fun k _=>w3.heap.size≤k) _).rowed h6 (by first|exact Nat.le_refl _|exact hb34.size)
  all_goals have hb36:w3 w6:=(by first|exact Za3 hb34 hl6 nl_ (fun _ _ h e=>om_)|exact Za3 (hb34.alloc hb34.size _) hl6 nl_ (fun _ _ h e=>om_))
  all_goals have hF6:Found (N+2) w6 n fv is fr:=hF4.move (fun p A t ht hb=>by first|exact h6.other (hb.alloc _) (fun e=>by have:=hb.lt;omega)|exact h6.other hb (fun e=>by subst e;exact ht (blk_ty hb (bA3.below hb4 bA3.lt))))
  all_goals have hq6:=Za4 hb36 q03
  all_goals go_wp2_with (first
    | (with_reducible refine Zyp ?_)
    | (refine Zyf (by with_reducible exact hq6) (fun _=>?_))
    | ((with_reducible refine Zye ?_);refine Zyt rfl (.bool is) ?_ ?_;(focus (intro W _;simp [go_sem,Zyr,Zys];done));intro K hK)
    | with_reducible refine Ord.top_two ?_|with_reducible refine Ord.top_three ?_|with_reducible refine Ord.at_two ?_ ?_|with_reducible refine Ord.at_three ?_ ?_ ?_|with_reducible refine Ord.tree_leaf ?_|with_reducible refine Ord.tree_two ?_|(refine o_ ?_;intro K hK)|(with_reducible first|refine Zyo ?_ ?_|refine Zyj ?_|refine Zyf bn_ (fun _=>?_)))
  all_goals go_meet
  all_goals exact ⟨_,n,fv,is,rfl,rfl,b6,hb36.mono hs3a,hF6⟩
 case rest =>
  obtain ⟨pb,n,fv,is,rfl,rfl,b5,hB5,hF5⟩:=hcut
  have hB5':w3 wc:=by rw [show w3.heap.size=N+2 from HS3.out];exact hB5
  have hBw:Below N w wc:=hB3.trans (hB5.mono om_)
  have bE5:=bE3.below hB5 om_
  have hrow5:=hrow3.below hB5'
  have hNc:N+2≤wc.heap.size:=Nat.le_trans om_ hB5'.size
  have r5:=b5.cell
  have l5:=b5.lt
  have hEr:Hid (∀ W,Below N w W→Blk W N #[()] 31→R=([],8,l)→∀ a:Act,a.defers=[{ target:=.fn (.func 62) #[.pointer N],args:=#[] }]→a.tmps.getD 4 undef=.string ⟨#[]⟩→a.tmps.getD 5 undef=.pointer N→bodyPostM Fence.wide 0 prog Tryz.f19 (Zuq O b sa sc fa fc na R w) (panE Zkm 8) a W):=fun W hb hE hR a ha h4 h5=>by
   refine Zal (pb:=N) (v:=.tuple #[.string ⟨#[]⟩,.int .i64 8]) Zee (fun W=>by simp [go_sem]) ha hE fun w' hl hb'=>⟨?_,HE.out 8 _ (Za3 hb hl (by have:=HN.out;have:=hb.size;omega) (fun _ _ _=>om_)) hR⟩
   have r4:=hb'.cell
   simp only [Array.getD_eq_getD_getElem?] at h4 h5
   simp [results,results19,go_sem,h4,h5,r4]
  clear q03 hB3 hB5 bE3 hrow3
  cases is with
  | false =>
   have hR8:Hid (R=([],8,l)):=by
    show R=([],8,l)
    cases fr with
    | none=>exact HP1.out rfl
    | some x=>have:=hF5.1;cases this
   exact Q1y
  | true =>
   obtain ⟨x,rfl⟩:∃ x,fr=some x:=by
    cases fr with
    | none=>cases hF5
    | some x=>exact ⟨x,rfl⟩
   obtain ⟨-,hnx,hWd⟩:=hF5
   have hmem:=HMem.out x rfl
   have hn3:=List.all_eq_true.1 words_n x hmem
   simp only [decide_eq_true_eq,← hnx] at hn3
   by_cases hc:(ps.length:Int)=n+1
   ·have hcb:((ps.length:Int) == n+1)=true:=by simpa using hc
    have HC:=hd_ hc
    have HNX:=hd_ hnx
    clear hnx
    have hps1:(1:Int)≤(ps.length:Int):=by omega
    have HB5:=hd_ hBw
    have hM0:wc.ownsRow wc.heap.size 3 1 (.slice none 0 0) 0 (([]:List Int).flatMap numL):=World.ownsRow_nil _ _ _ _
    go_wp2_with (first
     | (go_at_call 64;(with_reducible refine (HY8.out _).mono ?_);rintro e w2 ⟨rfl,rfl⟩))
    all_goals
     go_loopw [9,11,49] (fun x9 x11 x49 wr=>∃ (k:Nat) (ns:List Int),k+1≤ps.length∧x49=.int .i64 (k:Int)∧Below wc.heap.size wc wr∧wr.ownsRow wc.heap.size 3 1 x9 k (ns.flatMap numL)∧Hid (ns.length=k∧(∀ m∈ns,-9999≤m∧m≤9999)∧∀ i,(h:i+1 < ps.length)→i < k→numO ps[i+1]=ns[i]?)) (fun _ _ x49 _=>ps.length - (intOf x49).toNat)
     case atStart=>exact ⟨0,[],om_,rfl,Below.refl _ _,hM0,⟨rfl,fun m hm=>by simp at hm,fun i h h0=>absurd h0 om_⟩⟩
     case round =>
      obtain ⟨k,ns,hk,rfl,hbr,hown,hns⟩:=hrel
      have hbN:Below N w wr:=HB5.out.trans (hbr.mono om_)
      have bEr:=bE5.below hbr bE5.lt
      have b5r:=b5.below hbr b5.lt
      by_cases hlt:k+1 < ps.length
      ·have hlti:(k:Int) < (ps.length:Int) - 1:=by omega
       obtain ⟨gb,go,e,hq⟩:=(hrow5.below hbr) (k+1) hlt
       simp only [Option.some.injEq,Addr.mk.injEq,and_true] at e
       obtain ⟨rfl,rfl⟩:=e
       have q0:=hq 0 _ rfl
       rw [Nat.add_zero,Nat.mul_one,Nat.zero_add] at q0
       have q0':wr.cell? ⟨N+1,1+k,none⟩=some (strV ps[k+1]):=by rw [Nat.add_comm 1 k];exact q0
       have lg:=bl_ wr _ q0
       have HNk:=hd_ (HNum.out ps[k+1] (List.getElem_mem hlt) wr (HVar.out wr hbN))
       have HR8:Hid (numO ps[k+1]=none→R=([],8,l)):=fun e=>HP3.out x rfl (by rw [← HNX.out];exact HC.out) k hlt e
       have HNs:Hid (∀ v,numO ps[k+1]=some v→(ns ++ [v]).length=k+1∧(∀ m∈ns ++ [v],-9999≤m∧m≤9999)∧∀ i,(h:i+1 < ps.length)→i < k+1→numO ps[i+1]=(ns ++ [v])[i]?):=fun v hv=>by
        obtain ⟨g1,g2,g3⟩:=hns.out
        refine ⟨by simp [g1],fun m hm=>?_,fun i hi hik=>?_⟩
        ·rcases List.mem_append.1 hm with hm|hm
         ·exact g2 m hm
         ·simp at hm;subst hm;exact Ztu hv
        ·by_cases e:i=k
         ·subst e
          rw [hv,← g1];simp
         ·rw [g3 i hi om_,List.getElem?_append_left om_]
       have hkl:=hns.out.1
       obtain ⟨av,cv,rfl⟩:=Zb9 hown
       clear hq q0 hns
       generalize ps[k+1]=pt at *
       unfold strV at q0' HNk
       cases hnum:numO pt with
       | none =>
        rw [hnum] at HNk
        have hR8:=hd_ (HR8.out hnum)
        go_wp2_with (first
         | (go_at_call 66;refine HNk.out.mono ?_;rintro e w7 ⟨rfl,hb7⟩))
        all_goals (refine hEr.out w7 (hbN.trans (hb7.mono (by have:=hbN.size;have:=HN.out;omega))) (bEr.below hb7 bEr.lt) hR8.out _ ?_ ?_ ?_ <;> rfl)
       | some v =>
        rw [hnum] at HNk
        have HNs':=hd_ (HNs.out v hnum)
        go_wp2_with (first
         | (go_at_call 66;refine HNk.out.mono ?_;rintro e w7 ⟨rfl,hb7⟩)
         | (at_builtin;refine Za2 ?_))
        all_goals unfold Stop
        all_goals have hown7:=Zbn hown nl_ fun g hg=>hb7.block g (Zad hown hg).2
        all_goals refine wpList_append_own _ rfl _ _ 25 rfl wc.heap.size 3 i0 _ 1 8 underlying25 hi hz0 hz1 hz2 rfl de_ (.slice av k cv) k _ rfl (hown7.alloc _) ⟨w7.heap.size,0,none⟩ 1 1 [.int .i64 v] rfl rfl (cell_one_new _ _ _) (by simp [Value.oneCell']) (by unfold maxLen;omega) om_ (by have:=hbr.size;have:=hb7.size;simp;omega) ?_
        all_goals intro v' w8 hown8 hgrow _
        all_goals obtain ⟨av',cv',rfl⟩:=Zb9 hown8
        all_goals have hl8:Lets (fun k _=>wc.heap.size≤k) w7 w8:=((Lets.refl _ _).alloc _).grown hgrow (fun g hg hlt=>(Zad hown7 hg).1)
        all_goals have hb8:wc w8:=Za3 (hbr.trans (hb7.mono hbr.size)) hl8 nl_ (fun _ _ _=>om_)
        all_goals go_wp2_with fail
        all_goals exact ⟨⟨k+1,ns ++ [v],om_,by go_num,hb8,by rw [List.flatMap_append];exact hown8,HNs'⟩,by simp [intOf];omega⟩
      ·have hkp:k+1=ps.length:=by omega
       obtain ⟨g1,g2,g3⟩:=hns.out
       have hRd:R=doO b l ns x.2.2:=HP4.out x rfl (by rw [← HNX.out];exact HC.out) ns om_ (fun i hi=>g3 i hi om_)
       have HRd:=hd_ hRd
       have hlti:¬ (k:Int) < (ps.length:Int) - 1:=by omega
       rw [← g1] at hown
       obtain ⟨aa,ac,rfl,hrow⟩:=Zbm Zea hown
       have hnl:(ns.length:Int)=x.2.1:=by rw [← HNX.out];have:=HC.out;omega
       obtain ⟨F,cap,rfl,hcf,hC⟩:=HDo.out wr (N+2) hbN (by have:=HN.out;omega) x hmem ns hnl g2 fv (hWd.below hbr) aa ac hrow
       rw [g1] at hC
       have HCd:=hd_ hC
       have hdb:=hd_ (do_bad b l ns x.2.2)
       clear hRd hC g2 g3 hns hnl hown hrow
       generalize doO b l ns x.2.2=dr at *
       have rr:=b5r.cell
       have lr:=b5r.lt
       clear hWd
       go_wp2_with (first
        | (refine (HCd.out).mono ?_;rintro e w9 (⟨h0,rfl,hl9,na',nc',hok9,hna9⟩ | ⟨h0,rfl,hb9⟩) <;> refine Za2 ?_))
       all_goals unfold Stop
       ·have bE9:=hl9.blk bEr (by have:=HN.out;omega)
        have r9:=bE9.cell
        have f9:=bE9.free
        have l9:=bE9.lt
        have hls:=Zwc bE9
        have hR1:=HRd.out
        unfold strV
        go_wp2_with fail
        refine Zcd (pb:=N) (v:=.tuple #[.string ⟨dr.1.toArray⟩,()]) Zee (fun W=>by simp [go_sem]) rfl ?_ ?_
        ·have r10:=(bE9.set 0 ↑()).cell
         simp [results,results19,go_sem,r10]
        ·rw [HRd.out]
         have hN:=HN.out
         refine ⟨by rw [h0];rfl,((Lets.of_below (by rw [hN];exact hbN)).trans hl9).trans (hls.mono fun _ _ h=>h.elim),na',nc',hok9.below hls.none,fun p e=>(hna9 p e).imp id fun h=>⟨by have:=hbN.size;omega,by simp only [World.size_setCell];exact h.2⟩⟩
       ·have hdr:=hd_ (HRd.out.trans (hdb.out h0))
        refine Zal (pb:=N) (e:=dr.2.1) (v:=.tuple #[.string ⟨#[]⟩,.int .i64 dr.2.1]) Zee (fun W=>by simp [go_sem]) rfl (bEr.below hb9 bEr.lt) fun w' hl hb'=>⟨?_,HE.out dr.2.1 _ (Za3 (hbN.trans (hb9.mono (by have:=hbN.size;have:=HN.out;omega))) hl (by have:=HN.out;omega) (fun _ _ _=>om_)) hdr.out⟩
        have r4:=hb'.cell
        simp [results,results19,go_sem,r4]
   ·have hcb:((ps.length:Int) == n+1)=false:=by simpa using hc
    have hR8:Hid (R=([],8,l)):=HP2.out x rfl (by rw [← hnx];exact hc)
    clear hnx
    exact Q1y
theorem o_Line (h:OvOk w O b l sa sc fa fc na nc) (hO:9≤O) (s:Bs) :
  Calls prog 19 #[.pointer O,strV s] w (Zuq O b sa sc fa fc na (Zb8 b l s) w):=by
 by_cases hs:40 < s.length
 ·exact Zr1 h s hs
 ·exact Zr0 h hO s hs
end
end Go.Proofs.YtbapgefodmmikaaGreatDoor
namespace Go.Proofs.YtbapgefodmmikaaGreatDoor
open Go.RowKit Go.Proofs Go.Ord Tryz
attribute [local irreducible] Ord.walk
attribute [local go_sem] Oper.semAt_some
theorem Zjv (b:Ov):∀ (xs:List Bs) (l:List Nt) (s:Bs),Zao b l (xs ++ [s])=((Zao b l xs).1 ++ [(Zb8 b (Zao b l xs).2.2 s).1],(Zao b l xs).2.1+(if (Zb8 b (Zao b l xs).2.2 s).2.1=0 then 0 else 1),(Zb8 b (Zao b l xs).2.2 s).2.2)
 | [],l,s=>by simp only [Zao,List.nil_append,Int.zero_add,Int.add_zero];rfl
 | x :: xs,l,s=>by
  have ih:=Zjv b xs (Zb8 b l x).2.2 s
  rw [List.cons_append,Zao,ih]
  simp only [Zao,List.cons_append,Prod.mk.injEq,true_and,and_true]
  omega
theorem Zme (b:Ov):∀ (xs:List Bs) (l:List Nt),(Zao b l xs).1.length=xs.length
 | [],_=>rfl
 | x :: xs,l=>by simp [Zao,Zme b xs]
theorem Zp4 (b:Ov):∀ (xs:List Bs) (l:List Nt),0≤(Zao b l xs).2.1∧(Zao b l xs).2.1≤xs.length
 | [],_=>by simp [Zao]
 | x :: xs,l=>by
  have ih:=Zp4 b xs (Zb8 b l x).2.2
  simp only [Zao,List.length_cons]
  split <;> omega
def Zqs (b:Ov) (ss:List Bs):List Bs × Int × Int :=
 if 60 < ss.length then ([],0,3) else if Zbq b []=true then ((Zao b [] ss).1,(Zao b [] ss).2.1,0) else ([],0,1)
def PlayP (r:List Bs × Int × Int) (w:World) (e:Ending) (w':World):Prop :=
 ∃ v,e=.returned (.tuple #[v,.int .i64 r.2.1,.int .i64 r.2.2])∧w w'∧w'.ownsRow w.heap.size 9 1 v r.1.length (r.1.flatMap strL)
section
variable {w:World}{b:Ov}{sa:Option Addr}{sc:Nat}{fa:Option Addr}{fc:Nat}
theorem OvOk.new {w':World}{O:Nat}(h:OvAt w' O b [] sa sc fa fc none 0) (h1:∀ g,(Value.slice sa b.strays.length sc).ownBlock=some g→w.heap.size≤g∧g < O) (h2:∀ g,(Value.slice fa b.fl.length fc).ownBlock=some g→w.heap.size≤g∧g < O) (hls:b.strays.length≤40) (hlf:b.fl.length≤40):OvOk w' O b [] sa sc fa fc none 0 :=
 ⟨h,(fun p e=>by
  rcases e with e|e|e
  ·subst e
   have:=h1 p.block rfl
   omega
  ·subst e
   have:=h2 p.block rfl
   omega
  ·cases e),⟨hls,hlf,sp_,sp_⟩,sp_⟩
theorem OvOk.off {w w':World}{O:Nat}{b:Ov}{l:List Nt}{sa:Option Addr}{sc:Nat}{fa:Option Addr}{fc:Nat}{na:Option Addr}{nc:Nat}{X:Nat→Option Obj→Prop}(h:OvOk w O b l sa sc fa fc na nc) (hl:Lets X w w') (hO:¬ X O w.heap[O]?) (h1:∀ p o,sa=some p→¬ X p.block o) (h2:∀ p o,fa=some p→¬ X p.block o) (h3:∀ p o,na=some p→¬ X p.block o) (h9:∀ k o,k < 9→¬ X k o):OvOk w' O b l sa sc fa fc na nc :=
 ⟨⟨hl.blk h.at_.blk hO,Zcc h.at_.strays hl h1,Zcc h.at_.fl hl h2,Zcc h.at_.notes hl h3,h.at_.vars.lets (Nat.le_trans h.at_.vars.2.2.2.2 hl.size) fun k hk=>hl.block k (by have:=h.at_.vars.2.2.2.2;omega) (h9 _ _ hk)⟩,h.apart,h.inn,h.cap⟩
theorem _root_.Q1a {p:Prop}(h:p:=by
 obtain ⟨j1,j2⟩:=HJ3.out p hp
 refine ⟨Nat.lt_of_lt_of_le j1 hl8.size,fun g hg=>?_⟩
 rcases hat with e|e
 ·exact j2 g (by rw [← e];exact hg)
 ·rw [hg] at e
  simp only [Option.some.injEq,World.size_alloc] at e
  omega):p:=h
theorem o_Play (ss:List Bs) (ta:Option Addr) (tc:Nat) (hs:RowsAt w sa 2 Zax b.strays) (hf:RowsAt w fa 1 numL b.fl) (hls:b.strays.length≤40) (hlf:b.fl.length≤40) (hv:VarsOk w) (ht:RowsAt w ta 1 strL ss) (hln:ss.length≤1000000)  :
  Calls prog 14 #[.agg (bgV b sa sc fa fc),.slice ta ss.length tc] w (PlayP (Zqs b ss) w):=by
 obtain ⟨i0,hi,hz0,hz1,hz2⟩:=Zbp Znf
 have bb:Blk (w.alloc (.cells (bgV b sa sc fa fc) 27)) w.heap.size (bgV b sa sc fa fc) 27:=Blk.new _ _ _
 have hB1:w (w.alloc (.cells (bgV b sa sc fa fc) 27)):=by exact bel_
 have HNew:=hd_ (o_New (w:=w.alloc (.cells (bgV b sa sc fa fc) 27)) (b:=b) (sa:=sa) (sc:=sc) (fa:=fa) (fc:=fc) (hs.below hB1) (hf.below hB1) hls hlf (hv.below hB1 hv.2.2.2.2))
 have HT:=hd_ (fun W (hb:Below w.heap.size w W)=>ht.below hb)
 have hN9:=hv.2.2.2.2
 have hOwn0:∀ W:World,W.ownsRow w.heap.size 9 1 (.slice none 0 0) 0 []:=fun W=>World.ownsRow_nil _ _ _ _
 have HOwn0:=hd_ hOwn0
 clear hs hf hv ht hOwn0
 by_cases h60:60 < ss.length
 ·have hr:Zqs b ss=([],0,3):=by unfold Zqs;rw [if_pos h60]
  rw [hr]
  have h60i:(60:Int) < (ss.length:Int):=by omega
  clear hr HNew bb
  unfold bgV at *
  go_enter func14,ntmps14
  go_wp2_with fail
  go_ret3
  exact ⟨_,rfl,hB1,HOwn0.out _⟩
 ·have h60i:¬ (60:Int) < (ss.length:Int):=by omega
  have hr:Zqs b ss=if Zbq b []=true then ((Zao b [] ss).1,(Zao b [] ss).2.1,0) else ([],0,1):=by unfold Zqs;rw [if_neg h60]
  rw [hr]
  clear hr
  cases hvd:Zbq b [] with
  | false =>
   simp only [Bool.false_eq_true,if_false]
   have HNew':Hid (Calls prog 17 #[.agg (bgV b sa sc fa fc)] (w.alloc (.cells (bgV b sa sc fa fc) 27)) (fun e w'=>e=.returned (.tuple #[.pointer none,.int .i64 1])∧Below w.heap.size w w')):=HNew.out.mono (by
    rintro e w' (⟨h,-⟩ | ⟨-,h1,h2⟩)
    ·rw [hvd] at h;cases h
    ·exact ⟨h1,hB1.trans (h2.mono sp_)⟩)
   clear HNew hvd
   unfold bgV at *
   go_enter func14,ntmps14
   go_wp2_with (first
    | (refine Za0 27 (.tmp 2) Zge rfl rfl rfl bb rfl ?_)
    | (go_at_call 17;refine HNew'.out.mono ?_;rintro e w2 ⟨rfl,hb2⟩))
   go_ret3
   exact ⟨_,rfl,hb2,HOwn0.out _⟩
  | true =>
   simp only [if_true]
   have HNew':Hid (Calls prog 17 #[.agg (bgV b sa sc fa fc)] (w.alloc (.cells (bgV b sa sc fa fc) 27)) (fun e w'=>∃ O sa sc fa fc,e=.returned (.tuple #[.pointer (some ⟨O,0,none⟩),()])∧Below w.heap.size w w'∧w.heap.size≤O∧OvOk w' O b [] sa sc fa fc none 0∧(∀ p,sa=some p→p.block < O)∧(∀ p,fa=some p→p.block < O))):=HNew.out.mono (by
    rintro e w' (⟨-,O,sa,sc,fa,fc,h1,h2,h3,h4,h5,h6⟩ | ⟨h,-⟩)
    ·simp only [World.size_alloc] at h3
     exact ⟨O,sa,sc,fa,fc,h1,hB1.trans (h2.mono sp_),om_,OvOk.new h4 h5 h6 hls hlf,fun p e=>by subst e;exact (h5 p.block rfl).2,fun p e=>by subst e;exact (h6 p.block rfl).2⟩
    ·rw [hvd] at h;cases h)
   have HK:Hid (∀ k,(Zao b [] (ss.take k)).1.length=min k ss.length∧0≤(Zao b [] (ss.take k)).2.1∧(Zao b [] (ss.take k)).2.1≤k):=fun k=>by
    have h1:=Zme b (ss.take k) []
    have h2:=Zp4 b (ss.take k) []
    rw [List.length_take] at h1 h2
    exact ⟨h1,h2.1,by have:=h2.2;omega⟩
   have HS:Hid (∀ k (h:k < ss.length),Zao b [] (ss.take (k+1))=((Zao b [] (ss.take k)).1 ++ [(Zb8 b (Zao b [] (ss.take k)).2.2 ss[k]).1],(Zao b [] (ss.take k)).2.1+(if (Zb8 b (Zao b [] (ss.take k)).2.2 ss[k]).2.1=0 then 0 else 1),(Zb8 b (Zao b [] (ss.take k)).2.2 ss[k]).2.2)):=fun k h=>by
    rw [List.take_succ_eq_append_getElem h,Zjv]
   have HEnd:Hid (Zao b [] (ss.take ss.length)=Zao b [] ss):=by show _=_;rw [List.take_length]
   have HZ:Hid (Zao b [] (ss.take 0)=([],0,[])):=by show _=_;rfl
   obtain ⟨LN,hLN⟩:∃ LN:Nat→List Bs × Int × List Nt,∀ k,LN k=Zao b [] (ss.take k):=⟨_,fun _=>rfl⟩
   simp only [← hLN] at HK HS HEnd HZ
   clear hLN
   clear HNew hvd
   unfold bgV at *
   go_enter func14,ntmps14
   go_wp2_with (first
    | (refine Za0 27 (.tmp 2) Zge rfl rfl rfl bb rfl ?_)
    | (go_at_call 17;refine HNew'.out.mono ?_;rintro e w2 ⟨O,sa2,sc2,fa2,fc2,rfl,hb2,hO2,hok,hsaO,hfaO⟩;refine Za2 ?_))
   unfold Stop
   generalize hN:w.heap.size=N at *
   have HN:=hd_ hN
   clear hN bb hB1
   go_wp2_with fail
   go_loopw [4,5,25] (fun x4 x5 x25 wr=>∃ k:Nat,k≤ss.length∧x25=.int .i64 (k:Int)∧x5=.int .i64 (LN k).2.1∧Below N w wr∧wr.ownsRow (O+1) 9 1 x4 k ((LN k).1.flatMap strL)∧∃ na nc,OvOk wr O b (LN k).2.2 sa2 sc2 fa2 fc2 na nc∧Hid (∀ p,na=some p→p.block < wr.heap.size∧∀ g,x4.ownBlock=some g→p.block≠g)) (fun _ _ x25 _=>ss.length - (intOf x25).toNat)
   case atStart=>exact ⟨0,om_,rfl,by rw [HZ.out],hb2,by rw [HZ.out];exact World.ownsRow_nil _ _ _ _,none,0,by rw [HZ.out];exact hok,fun p e=>by cases e⟩
   case round =>
    obtain ⟨k,hk,rfl,rfl,hbr,hown,na,nc,hokr,hJ⟩:=hrel
    have hOr:=hokr.at_.blk.lt
    by_cases hlt:k < ss.length
    ·have hlti:(k:Int) < (ss.length:Int):=by omega
     obtain ⟨gb,go,hgo,hq⟩:=HT.out wr hbr k hlt
     have q0:=hq 0 _ rfl
     rw [Nat.add_zero,Nat.mul_one] at q0
     have lg:=bl_ wr _ q0
     have hst:=HS.out k hlt
     have hkk:=HK.out k
     have hHok:=hd_ (o_Line hokr om_ ss[k] )
     have HSt:=hd_ hst
     clear hq hst hokr
     subst hgo
     generalize ss[k]=s at *
     obtain ⟨av,cv,rfl⟩:=Zb9 hown
     generalize hlr:Zb8 b (LN k).2.2 s=res at *
     clear hlr
     generalize (LN k).2.1=bad at *
     obtain ⟨t,e,l'⟩:=res
     unfold strV at *
     go_wp2_with (first
      | (go_at_call 19;refine hHok.out.mono ?_;rintro e' w3 ⟨rfl,hl3,na',nc',hok3,hna3⟩;refine Za2 ?_))
     unfold Stop
     unfold strV
     have hown3:=Zaw hown hl3 (fun k _ h e=>om_)
     have hbr3:Below N w w3:=Za3 hbr hl3 (by have:=HN.out;omega) (fun k _ h e=>om_)
     have hsz3:=hl3.size
     have HJ3:Hid (∀ p,na'=some p→p.block < w3.heap.size∧∀ g,(Value.slice av k cv).ownBlock=some g→p.block≠g):=fun p hp=>by
      rcases hna3 p hp with e | ⟨e1,e2⟩
      ·exact ⟨Nat.lt_of_lt_of_le (hJ.out p e).1 hl3.size,(hJ.out p e).2⟩
      ·exact ⟨e2,fun g hg=>by have:=(Zad hown hg).2;omega⟩
     clear hJ hna3
     by_cases he:e=0
     ·subst he
      go_wp2_with (first
       | (at_builtin;refine Za2 ?_))
      unfold Stop
      refine wpList_append_own_at _ rfl _ _ 28 rfl (O+1) 9 i0 _ 1 16 underlying28 hi hz0 hz1 hz2 rfl de_ (.slice av k cv) k _ rfl (hown3.alloc _) ⟨w3.heap.size,0,none⟩ 1 1 [.string ⟨t.toArray⟩] rfl rfl (cell_one_new _ _ _) (by simp [Value.oneCell']) (by unfold maxLen;omega) om_ (by simp;omega) ?_
      intro v' w8 hown8 hgrow _ hat
      obtain ⟨av',cv',rfl⟩:=Zb9 hown8
      have hl8:Lets (fun k _=>O+1≤k∧∀ p,na'=some p→p.block≠k) w3 w8:=((Lets.refl _ _).alloc _).grown hgrow (fun g hg hlt=>⟨(Zad hown3 hg).1,fun p hp=>(HJ3.out p hp).2 g hg⟩)
      have hok8:=hok3.off hl8 (fun h=>om_) (fun p _ e h=>by have:=hsaO p e;omega) (fun p _ e h=>by have:=hfaO p e;omega) (fun p _ e h=>h.2 p e rfl) (fun k _ h9 h=>om_)
      have hb8:Below N w w8:=Za3 hbr3 hl8 (by have:=HN.out;omega) (fun k _ h e=>om_)
      have HJ8:Hid (∀ p,na'=some p→p.block < w8.heap.size∧∀ g,(Value.slice av' (k+1) cv').ownBlock=some g→p.block≠g):=fun p hp=>by exact Q1a
      clear hat hgrow
      go_wp2_with fail
      exact ⟨⟨k+1,om_,by go_num,by rw [HSt.out];simp,hb8,by rw [HSt.out,List.flatMap_append];exact hown8,na',nc',by rw [HSt.out];exact hok8,HJ8⟩,by simp [intOf];omega⟩
     ·have hb0:(e == 0)=false:=by simpa using he
      go_wp2_with (first
       | (at_builtin;refine Za2 ?_))
      unfold Stop
      refine wpList_append_own_at _ rfl _ _ 28 rfl (O+1) 9 i0 _ 1 16 underlying28 hi hz0 hz1 hz2 rfl de_ (.slice av k cv) k _ rfl (hown3.alloc _) ⟨w3.heap.size,0,none⟩ 1 1 [.string ⟨t.toArray⟩] rfl rfl (cell_one_new _ _ _) (by simp [Value.oneCell']) (by unfold maxLen;omega) om_ (by simp;omega) ?_
      intro v' w8 hown8 hgrow _ hat
      obtain ⟨av',cv',rfl⟩:=Zb9 hown8
      have hl8:Lets (fun k _=>O+1≤k∧∀ p,na'=some p→p.block≠k) w3 w8:=((Lets.refl _ _).alloc _).grown hgrow (fun g hg hlt=>⟨(Zad hown3 hg).1,fun p hp=>(HJ3.out p hp).2 g hg⟩)
      have hok8:=hok3.off hl8 (fun h=>om_) (fun p _ e h=>by have:=hsaO p e;omega) (fun p _ e h=>by have:=hfaO p e;omega) (fun p _ e h=>h.2 p e rfl) (fun k _ h9 h=>om_)
      have hb8:Below N w w8:=Za3 hbr3 hl8 (by have:=HN.out;omega) (fun k _ h e=>om_)
      have HJ8:Hid (∀ p,na'=some p→p.block < w8.heap.size∧∀ g,(Value.slice av' (k+1) cv').ownBlock=some g→p.block≠g):=fun p hp=>by exact Q1a
      clear hat hgrow
      go_wp2_with fail
      exact ⟨⟨k+1,om_,by go_num,by rw [HSt.out];simp only [he,if_false],hb8,by rw [HSt.out,List.flatMap_append];exact hown8,na',nc',by rw [HSt.out];exact hok8,HJ8⟩,by simp [intOf];omega⟩
    ·obtain rfl:k=ss.length:=by omega
     have hlti:¬ (ss.length:Int) < (ss.length:Int):=by omega
     have hE:=HEnd.out
     have hln2:=(HK.out ss.length).1
     rw [Nat.min_self] at hln2
     go_wp2_with fail
     go_ret3
     refine ⟨_,by rw [← hE];rfl,by rw [HN.out];exact hbr,?_⟩
     rw [← hE]
     show World.ownsRow _ _ _ _ _ (LN ss.length).1.length _
     rw [hln2]
     exact Zbn hown (by have:=HN.out;omega) (fun _ _=>rfl)
end
end Go.Proofs.YtbapgefodmmikaaGreatDoor
