/- Parts of a proof. -/
import Derived.Test.YtbapgefodmmikaaGreatDoorLMin
import Derived.Test.YtbapgefodmmikaaGreatDoorL16
set_option linter.unusedVariables false
set_option linter.unusedSimpArgs false
set_option maxHeartbeats 40000000
set_option maxRecDepth 100000
namespace Go.Proofs.YtbapgefodmmikaaGreatDoor
open Go.RowKit Go.Proofs Go.Ord Tryz
attribute [local irreducible] Ord.walk
open Go.MapG
theorem Zku {o:Oper}{a:Act}{W:World}{x:Operand}{ix:Nat}{vs:Array Value}{v:Value}(ho:o.op=.extract x ix) (hx:a.eval x=.tuple vs) (hv:vs[ix]? = some v):Zyr prog o a W v:=by
 unfold Zyr
 simp [execOp,ho,hx,hv,Instr.extract,Zys]
theorem _root_.Q1m {p:Prop}(h:p:=by
 unfold MapG.put at h
 split at h
 ·obtain ⟨q,hq,rfl⟩:=List.mem_map.1 h
  split
  ·exact .inl rfl
  ·exact .inr hq
 ·rcases List.mem_append.1 h with h|h
  ·exact .inr h
  ·exact .inl (by simpa using h)):p:=h
theorem Zj1 {α β:Type} [DecidableEq α] {l:List (α × β)}{x:α}{v:β}{p:α × β}(h:p∈MapG.put l x v):p=(x,v)∨p∈l:=Q1m
theorem look_C {c:Cl}{mb:Nat}{l:List (KeyC × (Nat→Int))}(hok:MapG.MapOk okC l) (hgood:∀ p∈l,goodC c p) {x:KeyC}(hx:okC x) :
  ∃ (G:Nat→Int) (hb:Bool),(∀ W,MapAt kfC vfC W mb l→(Instr.lookup 176 (.map (some mb)) (kfC x) true).run prog W=.ok (.tuple #[.agg (cs G),.bool hb]) W)∧(hb=true→G=toC (dC c) c.bs x.1 x.2.1 x.2.2):=by
 cases hg:MapG.get l x with
 | none =>
  refine ⟨fun _=>0,false,fun W hm=>?_,fun h=>by cases h⟩
  rw [kc_mt.lookup hm hok hx true,hg]
  rfl
 | some F =>
  refine ⟨F,true,fun W hm=>?_,fun _=>?_⟩
  ·rw [kc_mt.lookup hm hok hx true,hg]
   rfl
  ·exact (hgood _ (MapG.get_mem hg)).2
theorem _root_.Q1 {p:Prop}(h:p:=by
 unfold Stop
 have hk12:KeptC w12 mb c:=⟨_,hm12,hok2.put hkx _,fun p hp=>by
  rcases Zj1 hp with rfl|hp
  ·exact ⟨hn,by rw [← ER.out]⟩
  ·exact hgood2 _ hp⟩
 have hlt12:Lets (fun k _=>k=mb) wt w12:=⟨(ht12.below (Below.refl mb _) nl_).os,(ht12.below (Below.refl mb _) nl_).tape,(ht12.below (Below.refl mb _) nl_).output,by have:=ht12.size;show wt.heap.size≤_;rw [this];exact Nat.le_refl _,fun k _ hk=>ht12.other hk⟩
 have b1012:=hlt12.blk b10t om_
 have br12:=hlt12.blk brt om_
 have hl012:=(hlwt.trans hlt12)
 go_wp2_with (first
  | (refine Za0 182 (.tmp 10) Za7 rfl rfl rfl b1012 (Za9 _) ?_)
  | (refine Za1 182 (.tmp 4) (.tmp 68) Za7 rfl rfl rfl rfl br12 (Za9 _) (Za9 _) (Zck _) ?_;intro w13 h13)
  | (with_reducible refine Zyp ?_)
  | (refine o_ ?_;intro K hK)|(with_reducible first|refine Zyo ?_ ?_|refine Zyj ?_|refine Zyf bn_ (fun _=>?_)))
 have hl13:Lets (fun k _=>k=N+1) w12 w13:=(Lets.refl _ _).rowed h13 rfl
 have hwN:=HN.out
 have hfin:Lets (fun k _=>k=mb) w w13:=hl012.next hl13 (fun i hi _=>om_)
 exact bodyPost_ret (v:=.agg (cs R)) (Za5 rfl _ Za7 rfl h13.blk (Za9 _)) rfl ⟨rfl,⟨hk12.lets hl13 (fun _=>om_),hL0.trans hfin⟩,hfin⟩):p:=h
theorem Zns {W0:World}{T:Nat}{c:Cl}{ba:Option Addr}{bc mb:Nat}(hO:Zb4 W0 T c ba bc mb) (hL:Zc3 c) (set:Nat) (hs:set < 64) (n:Nat) (hn:n < c.bs.length) (back:Bool)
  (HR:Hid (∀ n':Nat,(n':Int)=(if back then (n:Int)+1 else (n:Int) - 1)→n' < c.bs.length→∀ W,Ln W0 mb c W→Calls prog 213 #[.pointer T,kfC (set,n',back)] W (Zcw W0 mb c (.agg (cs (toC (dC c) c.bs set n' back))) W)))
  (w:World) (hw:Ln W0 mb c w):Calls prog 213 #[.pointer T,kfC (set,n,back)] w (Zcw W0 mb c (.agg (cs (toC (dC c) c.bs set n back))) w):=by
 have hlen:=hL.len
 have hmb:=hO.mb_lt
 have hT:=hO.T_lt
 have hTm:=hO.T_ne
 have hsz:=hw.2.size
 have hkx:okC (set,n,back):=⟨hs,by show n < 6;omega⟩
 have hwL:=hw
 obtain ⟨⟨l,hm,hok,hgood⟩,hL0⟩:=hw
 obtain ⟨G,hb,hlook,hG⟩:=look_C (mb:=mb) hok hgood hkx
 obtain ⟨R,eR⟩:∃ R,toC (dC c) c.bs set n back=R:=⟨_,rfl⟩
 have ER:=hd_ eR
 have hG:hb=true→G=R:=fun h=>(hG h).trans eR
 rw [eR]
 clear eR
 have HLook:=hd_ hlook
 have HG:=hd_ hG
 have HOk:=hd_ hok
 have HGood:=hd_ hgood
 clear hlook hG hok hgood
 have hTab:=hO.at_ (W:=w) ⟨⟨l,hm,HOk.out,HGood.out⟩,hL0⟩
 have bT:=hTab.blk
 unfold kfC
 go_enter func213,ntmps213
 go_wp2_with fail
 obtain ⟨w1,hw1⟩:∃ w1,(w.alloc (.cells #[.int .u64 (set:Int),n,.bool back] 292)).alloc (.cells Zo7 182)=w1:=⟨_,rfl⟩
 rw [hw1]
 have bk:Blk w1 w.heap.size #[.int .u64 (set:Int),n,.bool back] 292:=by rw [← hw1];exact (Blk.new _ _ _).alloc _
 have br:Blk w1 (w.heap.size+1) (cs fun _=>0) 182:=by rw [← hw1];exact Blk.new' _ _ _ _ sp_
 have hB:Below w.heap.size w w1:=by rw [← hw1];exact bel_
 have hs1:w1.heap.size=w.heap.size+2:=by rw [← hw1];simp
 have bT1:=bT.below hB om_
 have hm1:MapAt kfC vfC w1 mb l:=hm.below hB om_
 clear hw1
 generalize hN:w.heap.size=N at *
 have HN:=hd_ hN
 clear hN
 refine Zyu [(0,1),(1,1),(2,1),(3,1),(4,1),(5,1),(6,1),(7,1),(8,1),(9,2),(10,2),(11,0)] (fun W=>Below w1.heap.size w1 W) kr_ kr_ br_.drew ?_
 go_wp2_with (first
  | (with_reducible refine Zyp ?_)
  | ((with_reducible refine Zye ?_);first|(refine Zyq (ad:=⟨T,4,none⟩) (.map (some mb)) rfl rfl ?_ ?_;(focus (intro W hW;have r:=(bT1.below hW bT1.lt).cell 4;simp [go_sem,r,tabV];done));intro K hK)|(refine Zyq (ad:=⟨N,0,none⟩) (.agg #[.int .u64 (set:Int),n,.bool back]) rfl rfl ?_ ?_;(focus (intro W hW;exact Zbo Zkg (bk.below hW bk.lt) rfl));intro K hK)|(refine Zyt rfl (.tuple #[.agg (cs G),.bool hb]) ?_ ?_;(focus (intro W hW;have r:=HLook.out W (hm1.below hW hm1.lt);unfold kfC at r;simp [go_sem,Zyr,Zys,r];done));intro K hK)|(refine Zyt rfl (.agg (cs G)) ?_ ?_;(focus (exact fun W _=>Zku (ix:=0) rfl rfl rfl));intro K hK)|(refine Zyt rfl (.bool hb) ?_ ?_;(focus (exact fun W _=>Zku (ix:=1) rfl rfl rfl));intro K hK))
  | (refine Za1 182 (.tmp 5) (.tmp 19) Za7 rfl rfl rfl rfl (Blk.new' _ _ _ _ (by simp [hs1])) rfl (Za9 _) (Zck _) ?_;intro w5 h5;have hb5:=h5.below ((Below.refl w1.heap.size w1).drew.alloc nl_ _) om_;refine Za2 ?_)
  | (refine o_ ?_;intro K hK)|(with_reducible first|refine Zyo ?_ ?_|refine Zyj ?_|refine Zyf bn_ (fun _=>?_)))
 unfold Stop
 have b5:=h5.blk
 have bk5:=bk.below hb5 bk.lt
 have br5:=br.below hb5 br.lt
 have bT5:=bT1.below hb5 bT1.lt
 have hm5:=hm1.below hb5 hm1.lt
 have hB5:Below N w w5:=hB.trans (hb5.mono om_)
 have hs5:w5.heap.size=N+3:=by rw [h5.size];simp [hs1]
 clear h5 bk br bT1 hm1 HLook hTab bT hm hs1
 cases hb
 case true =>
  go_wp2_with (first
   | (refine Za0 182 (.tmp 5) Za7 rfl rfl rfl b5 (Za9 _) ?_)
   | (refine Za1 182 (.tmp 4) (.tmp 22) Za7 rfl rfl rfl rfl br5 (Za9 _) (Za9 _) (Zck _) ?_;intro w6 h6)
   | (with_reducible refine Zyp ?_)
   | (refine o_ ?_;intro K hK)|(with_reducible first|refine Zyo ?_ ?_|refine Zyj ?_|refine Zyf bn_ (fun _=>?_)))
  have hB6:Below w.heap.size w w6:=by rw [HN.out];exact h6.below hB5 om_
  rw [← HG.out sp_]
  exact bodyPost_ret (v:=.agg (cs G)) (Za5 rfl _ Za7 rfl h6.blk (Za9 _)) rfl ⟨rfl,hwL.below hB6 hmb,Lets.of_below hB6⟩
 case false =>
  have rk5:=bk5.cell
  have rT5:=bT5.cell
  unfold tabV at rT5
  obtain ⟨B,eB⟩:∃ B,c.bs.getD n (0,0,0)=B:=⟨_,rfl⟩
  obtain ⟨tk,etk⟩:∃ tk,Zcz set n=tk:=⟨_,rfl⟩
  have ed:c.drift=((dC c:Nat):Int):=by have:=hL.drift;unfold dC;omega
  have hBin:Ze4 B:=by rw [← eB];exact Zcy hL hn
  have hd30:dC c≤30:=by have:=hL.drift;unfold dC;omega
  have HS:Hid (∀ W,Below w5.heap.size w5 W→Calls prog 211 #[.pointer T,n,.int .u64 (set:Int)] W (Zak (.agg (Zce ((dC c:Nat):Int) B tk)) W)):=fun W hW=>by
   have:=c_step (w:=W) (hO.at_ (W:=W) ((hwL.below (by rw [HN.out];exact hB5) hmb).below hW hmb)) hlen.2 n hn set hs
   rw [eB,etk,ed] at this
   exact this
  have HW:Hid (∀ W,Calls prog 212 #[.agg (Zce ((dC c:Nat):Int) B tk)] W (Zak (.agg (cs (ownC B tk))) W)):=fun W=>c_own _ B tk hBin W
  have HA:=hd_ (fun G hG W=>c_after (dC c) hd30 B tk hBin G hG W)
  have EB:=hd_ eB
  have ETK:=hd_ etk
  have hLn5:Ln W0 mb c w5:=hwL.below (by rw [HN.out];exact hB5) hmb
  clear eB etk HG ed b5
  generalize ((dC c:Nat):Int)=D at *
  cases back
  case false =>
   go_wp2_with (first
    | (go_at_call 211;refine (HS.out _ (by first|exact Below.refl _ _|exact br_.drew)).mono ?_;rintro e w7 ⟨rfl,hb7⟩;refine Za2 ?_)
    | (with_reducible refine Zyp ?_)
    | (refine o_ ?_;intro K hK)|(with_reducible first|refine Zyo ?_ ?_|refine Zyj ?_|refine Zyf bn_ (fun _=>?_)))
   unfold Stop
   clear hb5
   go_wp2_with (first
    | (go_at_call 212;refine (HW.out _).mono ?_;rintro e w8 ⟨rfl,hb8⟩;refine Za2 ?_))
   unfold Stop
   have b9:Blk w8 w7.heap.size (Zce D B tk) 287:=(Blk.new _ _ _).below hb8 sp_
   have hb58:w5 w8:=hb7.trans (((Below.refl w7.heap.size w7).alloc nl_ _).trans (hb8.mono sp_) |>.mono hb7.size)
   have hs8:=hb8.size
   have hp98:w7.heap.size < w8.heap.size:=b9.lt
   clear hb8
   generalize hp9:w7.heap.size=p9 at *
   have hp95:N+3≤p9:=by have:=hb7.size;omega
   clear hb7
   go_wp2_with (first
    | (refine Za1 182 (.tmp 10) (.tmp 39) Za7 rfl rfl rfl rfl (Blk.new _ _ _) rfl (Za9 _) (Zck _) ?_;intro w10 h10;refine Za2 ?_))
   unfold Stop
   have b10:=h10.blk
   have b910:Blk w10 p9 (Zce D B tk) 287:=h10.other (b9.alloc _) om_
   have hb510:w5 w10:=h10.below (hb58.alloc (by have:=hb58.size;omega) _) (by have:=hb58.size;omega)
   generalize hp10:w8.heap.size=p10 at *
   clear h10 hb58 b9
   have bk10:=bk5.below hb510 bk5.lt
   have br10:=br5.below hb510 br5.lt
   have hLn10:Ln W0 mb c w10:=hLn5.below hb510 hmb
   have hlw10:Lets (fun k _=>k=mb) w w10:=(Lets.of_below (by rw [HN.out];exact hB5)).trans (Lets.of_below hb510)
   have rk10:=bk10.cell
   by_cases h0:n=0
   case pos =>
    subst h0
    have eR2:ownC B tk=R:=by
     rw [← ER.out,← EB.out,← ETK.out]
     exact (toC_f0 _ _ _).symm
    rw [eR2] at b10
    go_wp2_with fail
    obtain ⟨wt,hwt⟩:∃ wt,wt=w10:=⟨_,rfl⟩
    rw [← hwt] at bk10 br10 hLn10 hlw10 b10 ⊢
    have bkt:=bk10
    have brt:=br10
    have hLt:=hLn10
    have b10t:=b10
    have hlwt:=hlw10
    clear bk10 br10 hLn10 hlw10 b10 rk10 hwt b910 hb510 HA HR HW HS
    have bTt:=(hO.at_ (W:=wt) hLt).blk
    have rTt:=bTt.cell
    unfold tabV at rTt
    obtain ⟨⟨l2,hm2,hok2,hgood2⟩,hL2⟩:=hLt
    refine Zyu [(0,0),(1,0),(2,0),(3,0),(4,0),(5,0),(6,2)] (fun _=>True) kr_ kr_ trivial ?_
    go_wp2_with (first
     | (with_reducible refine Zyp ?_)
     | (refine Za0 292 (.tmp 3) Zkg rfl rfl rfl bkt.drew rfl ?_)
     | (refine Za0 182 (.tmp 10) Za7 rfl rfl rfl b10t.drew (Za9 _) ?_)
     | (refine Zby kc_mt (.tmp 65) (.tmp 66) (.tmp 67) rfl (.inl rfl) rfl (n:=(set,0,false)) rfl (v:=R) rfl hm2.drew hok2 hkx ?_;intro w12 ht12 hm12;refine Za2 ?_)
     | (refine o_ ?_;intro K hK)|(with_reducible first|refine Zyo ?_ ?_|refine Zyj ?_|refine Zyf bn_ (fun _=>?_)))
    exact Q1
   case neg =>
    have h0i:¬ (n:Int)=0:=by omega
    obtain ⟨m,hmn⟩:∃ m,n=m+1:=⟨n - 1,om_⟩
    obtain ⟨S,eS⟩:∃ S,toC (dC c) c.bs set m false=S:=⟨_,rfl⟩
    have hS:∀ i,i < 31→0≤S i∧S i≤65536:=by rw [← eS];exact Zs6 hL set m om_ false
    have eR2:Zhg (dC c) B tk S=R:=by
     rw [← ER.out,← EB.out,← ETK.out,← eS,hmn]
     exact (toC_fs _ _ _ _).symm
    have HRi:Hid (∀ x:Int,x=(n:Int) - 1→∀ W,Ln W0 mb c W→Calls prog 213 #[.pointer T,.agg #[.int .u64 (set:Int),.int .i64 x,.bool false]] W (Zcw W0 mb c (.agg (cs S)) W)):=fun x hx W hW=>by
     have:=HR.out m (by rw [if_neg de_];omega) om_ W hW
     rw [eS] at this
     obtain rfl:x=(m:Int):=by omega
     exact this
    have HA2:=hd_ (HA.out S hS)
    rw [eR2] at HA2
    clear HA HR hmn
    have r910:=b910.cell
    have hna : ∀ w, (nilAhead 551 287 (.agg (Zce D B tk)) "shearworks/classer.after").run prog w = .ok (some false) w := fun _ => by kernel_rfl
    have hm9 : ∀ w, (method 551 287 (.agg (Zce D B tk)) "shearworks/classer.after").run prog w = .ok (360, .agg (Zce D B tk)) w := fun _ => by kernel_rfl
    go_wp2_with fail
    refine Zyu [(0,1),(1,0),(2,0),(3,0),(4,0),(5,0),(6,0),(7,0),(8,0),(9,0),(10,0),(12,1),(13,1),(14,1),(11,2),(15,2),(16,2)] (fun _=>True) kr_ kr_ trivial ?_
    go_wp2_with (first
     | (with_reducible refine Zyp ?_)
     | ((with_reducible refine Zye ?_);first|( refine Zyt rfl (.func (.method "shearworks/classer.after") #[.iface 287 (.agg (Zce D B tk))] #[]) ?_ ?_; (focus (intro W _; simp [go_sem, Zyr, Zys]; done)); intro K hK)|( refine Zyt rfl (.func (.method "shearworks/classer.after") #[.iface 287 (.agg (Zce D B tk))] #[]) ?_ ?_; (focus (intro W _; unfold Zyr; simp [execOp, go_sem, hna W, Zys]; done)); intro K hK))
     | (go_at_call 213;refine (HRi.out _ om_ _ hLn10.drew).mono ?_;rintro e w14 ⟨rfl,hLn14,hl14⟩)
     | (go_at_call 360;refine (HA2.out _).mono ?_;rintro e w15 ⟨rfl,hb15⟩;refine Za2 ?_)
     | (refine o_ ?_;intro K hK)|(with_reducible first|refine Zyo ?_ ?_|refine Zyj ?_|refine Zyf bn_ (fun _=>?_)))
    unfold Stop
    have b1015:Blk w15 p10 (cs (ownC B tk)) 182:=(hl14.blk b10.drew om_).below hb15 (by have:=hl14.size;have:=b10.lt;show p10 < w14.heap.size;exact Nat.lt_of_lt_of_le this as_)
    have hl15:Lets (fun k _=>k=mb) w10 w15:=((Lets.refl _ w10).drew.trans hl14).trans (Lets.of_below hb15)
    have bk15:=hl15.blk bk10 om_
    have br15:=hl15.blk br10 om_
    have hLn15:=hLn14.below hb15 hmb
    go_wp2_with (first
     | (with_reducible refine Zyp ?_)
     | (refine Za1 182 (.tmp 10) (.tmp 61) Za7 rfl rfl rfl rfl b1015 (Za9 _) (Za9 _) (Zck _) ?_;intro wt h16)
     | (refine o_ ?_;intro K hK)|(with_reducible first|refine Zyo ?_ ?_|refine Zyj ?_|refine Zyf bn_ (fun _=>?_)))
    have hl16:Lets (fun k _=>k=p10) w15 wt:=(Lets.refl _ _).rowed h16 rfl
    have bkt:=hl16.blk bk15 om_
    have brt:=hl16.blk br15 om_
    have b10t:=h16.blk
    have hLt:Ln W0 mb c wt:=hLn15.lets hl16 hmb (fun k _ e=>om_)
    have hlwt:Lets (fun k _=>k=mb) w wt:=(hlw10.trans hl15).next hl16 (fun i hi _ e=>by have:=HN.out;omega)
    clear hl16 h16 b1015 hl15 bk15 br15 hLn15 hLn14 hl14 hb15 bk10 br10 hLn10 hlw10 b10 rk10 b910 r910 hb510 HRi HA2 HW HS hna hm9
    have bTt:=(hO.at_ (W:=wt) hLt).blk
    have rTt:=bTt.cell
    unfold tabV at rTt
    obtain ⟨⟨l2,hm2,hok2,hgood2⟩,hL2⟩:=hLt
    refine Zyu [(0,0),(1,0),(2,0),(3,0),(4,0),(5,0),(6,2)] (fun _=>True) kr_ kr_ trivial ?_
    go_wp2_with (first
     | (with_reducible refine Zyp ?_)
     | (refine Za0 292 (.tmp 3) Zkg rfl rfl rfl bkt.drew rfl ?_)
     | (refine Za0 182 (.tmp 10) Za7 rfl rfl rfl b10t.drew (Za9 _) ?_)
     | (refine Zby kc_mt (.tmp 65) (.tmp 66) (.tmp 67) rfl (.inl rfl) rfl (n:=(set,n,false)) rfl (v:=R) rfl hm2.drew hok2 hkx ?_;intro w12 ht12 hm12;refine Za2 ?_)
     | (refine o_ ?_;intro K hK)|(with_reducible first|refine Zyo ?_ ?_|refine Zyj ?_|refine Zyf bn_ (fun _=>?_)))
    exact Q1
  case true =>
   go_wp2_with (first
    | (go_at_call 211;refine (HS.out _ (by first|exact Below.refl _ _|exact br_.drew)).mono ?_;rintro e w7 ⟨rfl,hb7⟩;refine Za2 ?_)
    | (with_reducible refine Zyp ?_)
    | (refine o_ ?_;intro K hK)|(with_reducible first|refine Zyo ?_ ?_|refine Zyj ?_|refine Zyf bn_ (fun _=>?_)))
   unfold Stop
   clear hb5
   go_wp2_with (first
    | (go_at_call 212;refine (HW.out _).mono ?_;rintro e w8 ⟨rfl,hb8⟩;refine Za2 ?_))
   unfold Stop
   have b9:Blk w8 w7.heap.size (Zce D B tk) 287:=(Blk.new _ _ _).below hb8 sp_
   have hb58:w5 w8:=hb7.trans (((Below.refl w7.heap.size w7).alloc nl_ _).trans (hb8.mono sp_) |>.mono hb7.size)
   have hs8:=hb8.size
   have hp98:w7.heap.size < w8.heap.size:=b9.lt
   clear hb8
   generalize hp9:w7.heap.size=p9 at *
   have hp95:N+3≤p9:=by have:=hb7.size;omega
   clear hb7
   go_wp2_with (first
    | (refine Za1 182 (.tmp 10) (.tmp 39) Za7 rfl rfl rfl rfl (Blk.new _ _ _) rfl (Za9 _) (Zck _) ?_;intro w10 h10;refine Za2 ?_))
   unfold Stop
   have b10:=h10.blk
   have b910:Blk w10 p9 (Zce D B tk) 287:=h10.other (b9.alloc _) om_
   have hb510:w5 w10:=h10.below (hb58.alloc (by have:=hb58.size;omega) _) (by have:=hb58.size;omega)
   generalize hp10:w8.heap.size=p10 at *
   clear h10 hb58 b9
   have bk10:=bk5.below hb510 bk5.lt
   have br10:=br5.below hb510 br5.lt
   have hLn10:Ln W0 mb c w10:=hLn5.below hb510 hmb
   have hlw10:Lets (fun k _=>k=mb) w w10:=(Lets.of_below (by rw [HN.out];exact hB5)).trans (Lets.of_below hb510)
   have rk10:=bk10.cell
   by_cases h0:n=c.bs.length - 1
   case pos =>
    subst h0
    have eR2:ownC B tk=R:=by
     rw [← ER.out,← EB.out,← ETK.out]
     exact (toC_b0 _ _ _).symm
    rw [eR2] at b10
    go_wp2_with fail
    obtain ⟨wt,hwt⟩:∃ wt,wt=w10:=⟨_,rfl⟩
    rw [← hwt] at bk10 br10 hLn10 hlw10 b10 ⊢
    have bkt:=bk10
    have brt:=br10
    have hLt:=hLn10
    have b10t:=b10
    have hlwt:=hlw10
    clear bk10 br10 hLn10 hlw10 b10 rk10 hwt b910 hb510 HA HR HW HS
    have bTt:=(hO.at_ (W:=wt) hLt).blk
    have rTt:=bTt.cell
    unfold tabV at rTt
    obtain ⟨⟨l2,hm2,hok2,hgood2⟩,hL2⟩:=hLt
    refine Zyu [(0,0),(1,0),(2,0),(3,0),(4,0),(5,0),(6,2)] (fun _=>True) kr_ kr_ trivial ?_
    go_wp2_with (first
     | (with_reducible refine Zyp ?_)
     | (refine Za0 292 (.tmp 3) Zkg rfl rfl rfl bkt.drew rfl ?_)
     | (refine Za0 182 (.tmp 10) Za7 rfl rfl rfl b10t.drew (Za9 _) ?_)
     | (refine Zby kc_mt (.tmp 65) (.tmp 66) (.tmp 67) rfl (.inl rfl) rfl (n:=(set,(c.bs.length - 1),true)) rfl (v:=R) rfl hm2.drew hok2 hkx ?_;intro w12 ht12 hm12;refine Za2 ?_)
     | (refine o_ ?_;intro K hK)|(with_reducible first|refine Zyo ?_ ?_|refine Zyj ?_|refine Zyf bn_ (fun _=>?_)))
    exact Q1
   case neg =>
    have h0i:¬ (n:Int)=(c.bs.length:Int) - 1:=by omega
    obtain ⟨S,eS⟩:∃ S,toC (dC c) c.bs set (n+1) true=S:=⟨_,rfl⟩
    have hS:∀ i,i < 31→0≤S i∧S i≤65536:=by rw [← eS];exact Zs6 hL set (n+1) om_ true
    have eR2:Zhg (dC c) B tk S=R:=by
     rw [← ER.out,← EB.out,← ETK.out,← eS]
     exact (toC_bs _ _ _ _ om_).symm
    have HRi:Hid (∀ x:Int,x=(n:Int)+1→∀ W,Ln W0 mb c W→Calls prog 213 #[.pointer T,.agg #[.int .u64 (set:Int),.int .i64 x,.bool true]] W (Zcw W0 mb c (.agg (cs S)) W)):=fun x hx W hW=>by
     have:=HR.out (n+1) sp_ om_ W hW
     rw [eS] at this
     obtain rfl:x=((n+1:Nat):Int):=by omega
     exact this
    have HA2:=hd_ (HA.out S hS)
    rw [eR2] at HA2
    clear HA HR
    have r910:=b910.cell
    have hna : ∀ w, (nilAhead 551 287 (.agg (Zce D B tk)) "shearworks/classer.after").run prog w = .ok (some false) w := fun _ => by kernel_rfl
    have hm9 : ∀ w, (method 551 287 (.agg (Zce D B tk)) "shearworks/classer.after").run prog w = .ok (360, .agg (Zce D B tk)) w := fun _ => by kernel_rfl
    go_wp2_with fail
    refine Zyu [(0,1),(1,0),(2,0),(3,0),(4,0),(5,0),(6,0),(7,0),(8,0),(9,0),(10,0),(12,1),(13,1),(14,1),(11,2),(15,2),(16,2)] (fun _=>True) kr_ kr_ trivial ?_
    go_wp2_with (first
     | (with_reducible refine Zyp ?_)
     | ((with_reducible refine Zye ?_);first|( refine Zyt rfl (.func (.method "shearworks/classer.after") #[.iface 287 (.agg (Zce D B tk))] #[]) ?_ ?_; (focus (intro W _; simp [go_sem, Zyr, Zys]; done)); intro K hK)|( refine Zyt rfl (.func (.method "shearworks/classer.after") #[.iface 287 (.agg (Zce D B tk))] #[]) ?_ ?_; (focus (intro W _; unfold Zyr; simp [execOp, go_sem, hna W, Zys]; done)); intro K hK))
     | (go_at_call 213;refine (HRi.out _ om_ _ hLn10.drew).mono ?_;rintro e w14 ⟨rfl,hLn14,hl14⟩)
     | (go_at_call 360;refine (HA2.out _).mono ?_;rintro e w15 ⟨rfl,hb15⟩;refine Za2 ?_)
     | (refine o_ ?_;intro K hK)|(with_reducible first|refine Zyo ?_ ?_|refine Zyj ?_|refine Zyf bn_ (fun _=>?_)))
    unfold Stop
    have b1015:Blk w15 p10 (cs (ownC B tk)) 182:=(hl14.blk b10.drew om_).below hb15 (by have:=hl14.size;have:=b10.lt;show p10 < w14.heap.size;exact Nat.lt_of_lt_of_le this as_)
    have hl15:Lets (fun k _=>k=mb) w10 w15:=((Lets.refl _ w10).drew.trans hl14).trans (Lets.of_below hb15)
    have bk15:=hl15.blk bk10 om_
    have br15:=hl15.blk br10 om_
    have hLn15:=hLn14.below hb15 hmb
    go_wp2_with (first
     | (with_reducible refine Zyp ?_)
     | (refine Za1 182 (.tmp 10) (.tmp 61) Za7 rfl rfl rfl rfl b1015 (Za9 _) (Za9 _) (Zck _) ?_;intro wt h16)
     | (refine o_ ?_;intro K hK)|(with_reducible first|refine Zyo ?_ ?_|refine Zyj ?_|refine Zyf bn_ (fun _=>?_)))
    have hl16:Lets (fun k _=>k=p10) w15 wt:=(Lets.refl _ _).rowed h16 rfl
    have bkt:=hl16.blk bk15 om_
    have brt:=hl16.blk br15 om_
    have b10t:=h16.blk
    have hLt:Ln W0 mb c wt:=hLn15.lets hl16 hmb (fun k _ e=>om_)
    have hlwt:Lets (fun k _=>k=mb) w wt:=(hlw10.trans hl15).next hl16 (fun i hi _ e=>by have:=HN.out;omega)
    clear hl16 h16 b1015 hl15 bk15 br15 hLn15 hLn14 hl14 hb15 bk10 br10 hLn10 hlw10 b10 rk10 b910 r910 hb510 HRi HA2 HW HS hna hm9
    have bTt:=(hO.at_ (W:=wt) hLt).blk
    have rTt:=bTt.cell
    unfold tabV at rTt
    obtain ⟨⟨l2,hm2,hok2,hgood2⟩,hL2⟩:=hLt
    refine Zyu [(0,0),(1,0),(2,0),(3,0),(4,0),(5,0),(6,2)] (fun _=>True) kr_ kr_ trivial ?_
    go_wp2_with (first
     | (with_reducible refine Zyp ?_)
     | (refine Za0 292 (.tmp 3) Zkg rfl rfl rfl bkt.drew rfl ?_)
     | (refine Za0 182 (.tmp 10) Za7 rfl rfl rfl b10t.drew (Za9 _) ?_)
     | (refine Zby kc_mt (.tmp 65) (.tmp 66) (.tmp 67) rfl (.inl rfl) rfl (n:=(set,n,true)) rfl (v:=R) rfl hm2.drew hok2 hkx ?_;intro w12 ht12 hm12;refine Za2 ?_)
     | (refine o_ ?_;intro K hK)|(with_reducible first|refine Zyo ?_ ?_|refine Zyj ?_|refine Zyf bn_ (fun _=>?_)))
    exact Q1
end Go.Proofs.YtbapgefodmmikaaGreatDoor
