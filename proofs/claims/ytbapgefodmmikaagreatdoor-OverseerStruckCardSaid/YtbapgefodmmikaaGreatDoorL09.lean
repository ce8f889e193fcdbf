/- Parts of a proof. -/
import Derived.Test.YtbapgefodmmikaaGreatDoorLMin
import Derived.Test.YtbapgefodmmikaaGreatDoorL08
set_option linter.unusedVariables false
set_option linter.unusedSimpArgs false
set_option maxHeartbeats 40000000
set_option maxRecDepth 100000
namespace Go.Proofs.YtbapgefodmmikaaGreatDoor
open Go.RowKit Go.Proofs Go.Ord Tryz
attribute [local irreducible] Ord.walk
theorem Zxs (b:Bn) (ga:Option Addr) (gc:Nat) (pa:Option Addr) (pc:Nat) (F:FuncId) (cap:Array Value) (w:World)
  (hgl:b.gs.length≤9223372036854775807) (hpl:b.ps.length≤9223372036854775807) (hh:Ze0 b=false) :
  Calls prog 83 #[bv b ga gc pa pc,.func (.func F) #[] cap] w (Zy8 1 w):=by
 unfold bv
 rcases b with ⟨V,nd,lo,hi,gs,ps⟩
 have HH:=hd_ hh
 simp only at hgl hpl
 clear hh
 go_enter func83,ntmps83
 go_wp2_with (first
  | (go_at_call 190;refine (Zcf _ _ _ _).mono ?_;rintro e w' ⟨rfl,rfl⟩)
  | (go_at_call 189;refine (Zj5 _ _ _ _).mono ?_;rintro e w2 ⟨rfl,hb2⟩;obtain ⟨c2,f2,z2⟩:=after hb2 rfl)
  | (go_at_call 101;refine (Zid _ V _ _ ?_).mono ?_;(focus (simp [go_sem];done));rintro e w' ⟨rfl,rfl⟩)
  | (go_at_call 102;refine Za2 ?_))
 all_goals (unfold Stop)
 all_goals (try (rw [show decide ((ps.length:Int)≤4)=false from (by
  have:=HH.out
  simp [Ze0, *] at this
  simp;omega)]))
 all_goals (with_reducible refine (Zcg _ _).mono ?_)
 all_goals (rintro e w' ⟨rfl,rfl⟩)
 all_goals (refine ⟨rfl,rfl,?_⟩)
 all_goals exact bel_
def gkn (g:Int × Int × Int):Kn:=.g g.1.toNat g.2.1 g.2.2
def pkn (p:Int × Int × Bool):Kn:=.p p.1.toNat p.2.1.toNat p.2.2
def knOf (b:Bn):List Kn:=b.gs.map gkn ++ b.ps.map pkn
def Zc2 (b:Bn) (isB:Bool) (ga:Option Addr) (gc:Nat) (pa:Option Addr) (pc:Nat) (w:World) (e:Ending) (w':World):Prop :=
 if valid b=false then Zy8 1 w e w' else if isB=false then Zy8 2 w e w' else
  ∃ v ka kc,e=.returned (.pointer (some ⟨v,0,none⟩))∧Vt w' v b b.V.toNat (knOf b) ga gc pa pc ka kc∧w w'∧w.heap.size≤v
theorem Zvw {w:World}{base:Nat}{e:TypeId}{size:Nat}{v:Value}{n:Nat}{xs:List Value}(h:w.ownsRow base e size v n xs):∀ g,v.ownBlock=some g→base≤g:=by
 intro g hg
 obtain ⟨hl,⟨rfl,-⟩ | ⟨g',cap,cur,rfl,hg',hh,hn,hc,hs,ht⟩⟩:=h
 ·cases hg
 ·simp only [Value.ownBlock,Option.some.injEq] at hg
  omega
theorem Zoz {w:World}{base:Nat}{e:TypeId}{size:Nat}{v:Value}{n:Nat}{xs:List Value}(h:w.ownsRow base e size v n xs) (hn:0 < n):∃ g c,v=.slice (some ⟨g,0,none⟩) n c:=by
 obtain ⟨hl,⟨-,h0⟩ | ⟨g',cap,cur,rfl,hg',hh,hn,hc,hs,ht⟩⟩:=h
 ·omega
 ·exact ⟨_,_,rfl⟩
theorem Zsj {w w':World}{base:Nat}{e:TypeId}{size:Nat}{v:Value}{n:Nat}{xs:List Value}(h:w.ownsRow base e size v n xs) (hk:∀ g,base≤g→g < w.heap.size→w'.heap[g]? = w.heap[g]?):w'.ownsRow base e size v n xs:=Q1x
theorem own_kn {w:World}{base:Nat}{v:Value}{ks:List Kn}(h:w.ownsRow base 154 1 v ks.length (ks.map knV)):∃ ka kc,v=.slice ka ks.length kc∧KnAt w ka ks:=by
 obtain ⟨hl,⟨rfl,h0⟩ | ⟨g,cap,cur,rfl,hg,hh,hn,hc,hs,ht⟩⟩:=h
 ·refine ⟨none,0,by rw [h0],fun i hi=>om_⟩
 ·refine ⟨_,cap,rfl,fun i hi=>⟨g,0,rfl,?_⟩⟩
  rw [cell_of_row w g (0+i) cur _ (0,0) hh,Nat.zero_add]
  have h1:(ks.map knV)[i]? = some (knV ks[i]):=by simp [hi]
  rw [← ht,List.getElem?_take] at h1
  split at h1
  ·simpa using h1
  ·cases h1
theorem knOf_ok {b:Bn}(h:valid b=true):∀ x∈knOf b,knOk x:=by
 intro x hx
 rcases List.mem_append.1 hx with hx|hx
 ·obtain ⟨g,hg,rfl⟩:=List.mem_map.1 hx
  obtain ⟨i,hi,rfl⟩:=List.mem_iff_getElem.1 hg
  have:=Zv0 h hi
  show _ < 256
  omega
 ·obtain ⟨p,hp,rfl⟩:=List.mem_map.1 hx
  obtain ⟨i,hi,rfl⟩:=List.mem_iff_getElem.1 hp
  have:=Zuy h hi
  have hV:=Zb6 h
  exact ⟨by show _ < 8;omega,by show _ < 8;omega⟩
theorem knOf_gs (b:Bn):(knOf b).countP isG=b.gs.length:=by
 unfold knOf
 rw [List.countP_append,List.countP_map,List.countP_map]
 have h1:(isG ∘ gkn)=fun _=>true:=by funext g;rfl
 have h2:(isG ∘ pkn)=fun _=>false:=by funext g;rfl
 rw [h1,h2];simp
theorem Zj4 (b:Bn):(knOf b).length=b.gs.length+b.ps.length:=by simp [knOf]
structure Zyc (w0:World) (V nd lo hi:Int) (ga:Option Addr) (gl gc:Nat) (pa:Option Addr) (pl pc:Nat) (ks:List Kn) (w:World) (vs:Value):Prop where
 below:w0 w
 bb:Blk w w0.heap.size #[V,nd,lo,hi,.slice ga gl gc,.slice pa pl pc] 54
 bv:Blk w (w0.heap.size+1) #[V,nd,lo,hi,.slice ga gl gc,.slice pa pl pc,vs] 232
 own:w.ownsRow (w0.heap.size+2) 154 1 vs ks.length (ks.map knV)
 size:w0.heap.size+2≤w.heap.size
theorem _root_.Qg {p:Prop}(h:p:=by
 go_wp2_with (first
  | (go_at_call 89;refine (HVt.out _ _ rv3).mono ?_;rintro e w' ⟨rfl,rfl⟩)
  | (go_at_call 102;refine Za2 ?_))
 unfold Stop
 with_reducible refine (Zcg _ _).mono ?_
 rintro e w' ⟨rfl,rfl⟩
 refine ⟨rfl,?_⟩
 unfold Zc2
 rw [if_pos hv]
 exact ⟨rfl,hB3⟩):p:=h
theorem Zia (b:Bn) (ga:Option Addr) (gc:Nat) (pa:Option Addr) (pc:Nat) (F:FuncId) (cap:Array Value) (isB:Bool) (w:World) (hg:GsAt w ga b.gs) (hp:PsAt w pa b.ps) (hh:Ze0 b=true)
  (hcf:∀ (args:Array Value) (W:World),(callFunc F args).run prog W=.ok (.enter F args) W) (HIS0:∀ w' v,Below w.heap.size w w'→w'.cell? ⟨v,0,none⟩=some (.int .i64 b.V)→Calls prog F (#[.pointer (some ⟨v,0,none⟩)] ++ cap) w' (Same (.bool isB) w')) :
  Calls prog 83 #[bv b ga gc pa pc,.func (.func F) #[] cap] w (Zc2 b isB ga gc pa pc w):=by
 have HIS:=hd_ HIS0
 clear HIS0
 have HPOST:Hid (∀ e w',Zc2 b isB ga gc pa pc w e w'=Zc2 b isB ga gc pa pc w e w'):=fun _ _=>rfl
 unfold bv
 have GNO:Hid (∀ {k:Nat}(hk:k < b.gs.length),gOk b.V b.gs[k]=false→valid b=false):=hd_ gOk_no
 have PNO:Hid (∀ {k:Nat}(hk:k < b.ps.length),pOk b.V b.ps[k]=false→valid b=false):=hd_ pOk_no
 simp only [Ze0,Bool.and_eq_true,decide_eq_true_eq] at hh
 obtain ⟨⟨⟨⟨h1,h2⟩,h3⟩,h4⟩,h5⟩:=hh
 have h6:(b.gs.length:Int)≤4:=by omega
 have h7:(b.ps.length:Int)≤4:=by omega
 have hV:=Zds h1
 rcases b with ⟨V,nd,lo,hi,gs,ps⟩
 simp only at h1 h2 h3 h4 h5 h6 h7 hV hg hp
 obtain ⟨VN,rfl⟩:∃ VN:Nat,V=(VN:Int):=⟨V.toNat,om_⟩
 have HM:=hd_ Zib
 obtain ⟨i0,hi0,hz0,hz1,hz2⟩:=info_parts Zmf
 go_enter func83,ntmps83
 go_wp2_with (first
  | (go_at_call 190;refine (Zcf _ _ _ _).mono ?_;rintro e w' ⟨rfl,rfl⟩)
  | (go_at_call 189;refine (Zj5 _ _ _ _).mono ?_;rintro e w2 ⟨rfl,hb2⟩;obtain ⟨c2,f2,z2⟩:=after hb2 rfl)
  | (go_at_call 101;refine (Zid _ VN _ _ ?_).mono ?_;(focus (simp [go_sem];done));rintro e w' ⟨rfl,rfl⟩)
  | (go_at_call 102;refine Za2 ?_))
 unfold Stop
 refine (HM.out _ _).mono ?_
 rintro e w' ⟨rfl,rfl⟩
 have hbW:Below w.heap.size w w2:=by exact bel_
 have hs2:w.heap.size+2≤w2.heap.size:=by have:=hb2.size;simp at this;omega
 have bb2:Blk w2 w.heap.size #[VN,nd,lo,hi,.slice ga gs.length gc,.slice pa ps.length pc] 54:=((Blk.new _ _ _).alloc _).below hb2 ar_
 have bv2:Blk w2 (w.heap.size+1) #[VN,nd,lo,hi,.slice ga gs.length gc,.slice pa ps.length pc,.slice none 0 0] 232:=(Blk.new' _ _ _ _ sp_).below hb2 ar_
 have h0:Zyc w VN nd lo hi ga gs.length gc pa ps.length pc ((gs.take 0).map gkn) w2 (.slice none 0 0):=⟨hbW,bb2,bv2,⟨rfl,.inl ⟨rfl,rfl⟩⟩,hs2⟩
 have rb:=bb2.cell
 clear hb2 c2 f2 z2 hbW hs2 bv2
 go_wp2_with fail
 go_loopw [47] (fun i wr=>∃ (k:Nat) (vs:Value),k≤gs.length∧i=↑k∧(gs.take k).all (gOk VN)=true∧Zyc w VN nd lo hi ga gs.length gc pa ps.length pc ((gs.take k).map gkn) wr vs) (fun i _=>gs.length - (intOf i).toNat)
 case atStart=>exact ⟨0,_,Nat.zero_le _,rfl,sp_,h0⟩
 case round =>
  clear h0 rb bb2
  obtain ⟨k,vs,hk,rfl,hall,hAt⟩:=hrel
  have HA:=hd_ hall
  clear hall
  have rb:=hAt.bb.cell
  by_cases hlt:k < gs.length
  ·obtain ⟨gb,go,rfl,e1,e2,e3⟩:=hg k hlt
   have hgb:gb < w.heap.size:=bl_ w _ e1
   have i1:=Za4 hAt.below e1
   have i2:=Za4 hAt.below e2
   have i3:=Za4 hAt.below e3
   have HOK:=hd_ (GNO.out hlt)
   have hlt':(k:Int) < gs.length:=by omega
   have HTE:=hd_ (fun h1=>Zt4 gs (gOk VN) k hlt HA.out h1)
   have HTK:=hd_ (List.take_succ_eq_append_getElem hlt)
   generalize gs[k]=g at *
   rcases g with ⟨gv,gl,gh⟩
   simp only at i1 i2 i3
   clear e1 e2 e3
   go_wp2_with fail
   have hwp:=Zmp VN om_
   have hgk:gOk VN (gv,gl,gh)=(inB gv 0 (((2 ^ VN:Nat):Int) - 1) && Zon gl gh 8):=rfl
   have hPl:=Nat.pow_le_pow_right (n:=2) om_ (show VN≤8 by omega)
   have hPg:=Nat.two_pow_pos VN
   generalize hp2:2 ^ VN=P at hwp hgk hPl hPg
   replace hPl:P≤256:=hPl
   clear hp2
   obtain ⟨w3,hw3⟩:∃ w3,w3=wr.alloc (.cells #[gv,gl,gh] 133):=⟨_,rfl⟩
   have hbr:Below wr.heap.size wr w3:=by rw [hw3];exact br_.alloc nl_ _
   have b8:Blk w3 wr.heap.size #[gv,gl,gh] 133:=by rw [hw3];exact Blk.new _ _ _
   have hs3:w3.heap.size=wr.heap.size+1:=by rw [hw3];simp
   rw [← hw3]
   clear hw3
   have bb3:=hAt.bb.below hbr hAt.bb.lt
   have r8:=b8.cell
   have r9:=bb3.cell
   clear rb i1 i2 i3
   have hz:=hAt.size
   generalize hgk0:wr.heap.size=gk at *
   have HGK0:=hd_ hgk0
   clear hgk0
   cases hc1:inB gv 0 ((P:Int) - 1)
   ·have hv:=HOK.out (by rw [hgk,hc1];rfl)
    clear hgk HTE HOK
    refine Ord.wp_region [(0,0),(1,0),(2,0),(3,0),(4,0),(5,0),(6,0),(7,0),(8,0),(9,0),(10,0),(11,2),(12,0),(13,2)] (fun _=>True) kr_ kr_ (fun c a d v w h=>by cases d <;> exact h) trivial ?_
    go_wp2_with (first
     | (go_at_call 102;refine Za2 ?_)
     | (refine o_ ?_;intro K hK)|(with_reducible first|refine Zyo ?_ ?_|refine Zyj ?_|refine Zyf bn_ (fun _=>?_))
     | ((with_reducible refine Zyg ?_);refine Zyv rfl (fun W=>call190 _ W) (Zcf _ _ _ _) (fun K hK=>?_))|((with_reducible refine Zye ?_);refine Ord.wild_call rfl (fun W=>call190 _ W) (fun W hW=>Zcf _ _ _ _) (fun K hK=>?_)))
    unfold Stop
    with_reducible refine (Zcg _ _).mono ?_
    rintro e w' ⟨rfl,rfl⟩
    refine ⟨rfl,?_⟩
    unfold Zc2
    rw [if_pos hv]
    exact ⟨rfl,(hAt.below.trans (hbr.mono om_)).drew⟩
   ·cases hc2:Zon gl gh 8
    ·have hv:=HOK.out (by rw [hgk,hc1,hc2];rfl)
     clear hgk HTE HOK
     refine Ord.wp_region [(0,0),(1,0),(2,0),(3,0),(4,0),(5,0),(6,0),(7,0),(8,0),(9,0),(10,0),(11,2),(12,0),(13,2)] (fun _=>True) kr_ kr_ (fun c a d v w h=>by cases d <;> exact h) trivial ?_
     go_wp2_with (first
      | (go_at_call 102;refine Za2 ?_)
      | (go_at_call 189;refine (Zj5 _ _ _ _).mono ?_;rintro e w4 ⟨rfl,hb4⟩)
      | (refine o_ ?_;intro K hK)|(with_reducible first|refine Zyo ?_ ?_|refine Zyj ?_|refine Zyf bn_ (fun _=>?_))
      | ((with_reducible refine Zyg ?_);refine Zyv rfl (fun W=>call190 _ W) (Zcf _ _ _ _) (fun K hK=>?_))|((with_reducible refine Zye ?_);refine Ord.wild_call rfl (fun W=>call190 _ W) (fun W hW=>Zcf _ _ _ _) (fun K hK=>?_)))
     unfold Stop
     with_reducible refine (Zcg _ _).mono ?_
     rintro e w' ⟨rfl,rfl⟩
     refine ⟨rfl,?_⟩
     unfold Zc2
     rw [if_pos hv]
     exact ⟨rfl,((hAt.below.trans (hbr.mono om_)).drew).trans (hb4.mono (by show _≤w3.heap.size;omega))⟩
    ·have hte:=HTE.out (by rw [hgk,hc1,hc2];rfl)
     have HTE2:=hd_ hte
     have hgv:=Zds hc1
     clear hgk HTE HOK hte
     refine Ord.wp_region [(0,0),(1,0),(2,0),(3,0),(4,0),(5,0),(6,0),(7,0),(8,0),(9,0),(10,0),(11,2),(12,0),(13,2)] (fun _=>True) kr_ kr_ (fun c a d v w h=>by cases d <;> exact h) trivial ?_
     go_wp2_with (first
      | (go_at_call 102;refine (HM.out _ _).mono ?_;rintro e w' ⟨rfl,rfl⟩)
      | (go_at_call 189;refine (Zj5 _ _ _ _).mono ?_;rintro e w4 ⟨rfl,hb4⟩)
      | (refine o_ ?_;intro K hK)|(with_reducible first|refine Zyo ?_ ?_|refine Zyj ?_|refine Zyf bn_ (fun _=>?_))
      | ((with_reducible refine Zyg ?_);refine Zyv rfl (fun W=>call190 _ W) (Zcf _ _ _ _) (fun K hK=>?_))|((with_reducible refine Zye ?_);refine Ord.wild_call rfl (fun W=>call190 _ W) (fun W hW=>Zcf _ _ _ _) (fun K hK=>?_)))
     have hBw4:Below w.heap.size w w4:=((hAt.below.trans (hbr.mono om_)).drew).trans (hb4.mono (by show _≤w3.heap.size;omega))
     have bb4:=bb3.drew.below hb4 (by show _ < w3.heap.size;have:=bb3.lt;omega)
     have bv3:=hAt.bv.below hbr om_
     have bv4:=bv3.drew.below hb4 (by show _ < w3.heap.size;omega)
     have b84:=b8.drew.below hb4 (by show _ < w3.heap.size;omega)
     have hown4:w4.ownsRow (w.heap.size+2) 154 1 vs ((gs.take k).map gkn).length (((gs.take k).map gkn).map knV):=Ze9 (Ze9 hAt.own (by rw [HGK0.out];exact hbr)).drew hb4
     have hs4:gk+1≤w4.heap.size:=by have:=hb4.size;have h2:w3.drew.heap.size=w3.heap.size:=rfl;omega
     have c6:=bv4.cell 6
     have c84:=b84.cell
     have f6:=bv4.free
     obtain ⟨gn,rfl⟩:∃ gn:Nat,gv=(gn:Int):=⟨gv.toNat,om_⟩
     have hvb:w.heap.size+1 < w4.heap.size:=by omega
     clear hb4 hbr b8 r8 r9 bb3 hs3
     refine Ord.Two.wp_region [(0,1),(1,1),(2,1),(3,1),(4,1),(5,0),(6,0),(7,0),(8,0),(9,0),(10,0),(11,0),(12,2),(13,2)] [(14,0),(15,0),(16,2)] (fun W=>W.cell? ⟨w.heap.size+1,6,none⟩=some vs) kr_ kr_ (fun c a d v w h=>by cases d <;> exact h) c6 ?_
     go_wp2_with (first
      | (with_reducible refine Ord.Two.walk_next ?_)
      | (at_builtin;refine Za2 ?_)
      | ((with_reducible refine Zye ?_);refine Zyq (ad:=⟨w.heap.size+1,6,none⟩) vs rfl rfl ?_ ?_;(focus (intro W hW;simp [go_sem,hW];done));intro K hK)
      | ((with_reducible refine Zyh rfl ?_ (fun K hK=>?_));(focus (first|assumption|exact c6|(simp [c6];done)|(rw [World.cell?_alloc_ite,if_neg om_];exact c6))))
      | ((with_reducible refine Zyf ?_ (fun hOF=>?_));(focus (first|assumption|exact c6|(simp [c6];done)|(rw [World.cell?_alloc_ite,if_neg om_];exact c6))))
      | (refine o_ ?_;intro K hK)|(with_reducible first|refine Zyo ?_ ?_|refine Zyj ?_|refine Zyf bn_ (fun _=>?_)))
     unfold Stop
     have hlen:((gs.take k).map gkn).length=k:=by simp;omega
     have hvb4:=bv4.lt
     refine wpList_append_own _ rfl (.tmp 69) (.tmp 77) 230 rfl (w.heap.size+2) 154 i0 .nilIface 1 16 underlying230 hi0 hz0 hz1 hz2 rfl de_ vs ((gs.take k).map gkn).length (((gs.take k).map gkn).map knV) rfl (World.ownsRow.alloc hown4 _).drew ⟨w4.heap.size,0,none⟩ 1 1 [knV (gkn ((gn:Int),gl,gh))] rfl rfl (Zn7 (A:=#[knV (gkn ((gn:Int),gl,gh))]) (Blk.new _ _ _).drew) (by intro u hu;simp only [List.mem_singleton] at hu;subst hu;exact Zna _) (by rw [hlen];unfold maxLen;omega) (by rw [hlen];omega) (by show _≤(w4.alloc _).heap.size;simp;omega) ?_
     intro v5 w5 hown5 hgrow5 _
     have hO5:Off [] (w.heap.size+2) w4 w5:=(((Off.refl [] (w.heap.size+2) w4).alloc om_ _).drew).grown hgrow5 (by show _≤(w4.alloc _).heap.size;simp;omega) (fun g hg=>.inr (Zvw hown4 g hg))
     have bb5:=hO5.blk bb4 om_ sp_
     have bv5:=hO5.blk bv4 om_ sp_
     have hB5:Below w.heap.size w w5:=hBw4.trans (hO5.below om_ sp_)
     have hs5:=hgrow5.size
     have hs5':w4.heap.size+1≤w5.heap.size:=by
      have:(w4.alloc (.cells #[knV (gkn ((gn:Int),gl,gh))] 154)).drew.heap.size=w4.heap.size+1:=by simp
      have h2:=hs5;simp at h2;omega
     obtain ⟨g5,q5,rfl⟩:=Zoz hown5 om_
     have c6':=bv5.cell 6
     have f6':=bv5.free
     clear f6 c84 hgrow5 hs5
     go_wp2_with (first
      | (with_reducible refine Ord.Two.walk_next ?_)
      | ((with_reducible refine Zyh rfl ?_ (fun K hK=>?_));(focus trivial))
      | ((with_reducible refine Zyf ?_ (fun hOF=>?_));(focus (first|exact c6'|trivial)))
      | (refine o_ ?_;intro K hK)|(with_reducible first|refine Zyo ?_ ?_|refine Zyj ?_|refine Zyf bn_ (fun _=>?_)))
     rw [hlen] at hown5
     refine ⟨⟨k+1,.slice g5 (k+1) q5,om_,by go_num,HTE2.out,hB5.setCell (by show _≤_+1;omega) _,bb5.other (by show w.heap.size≠w.heap.size+1;omega) _,bv5.set 6 _,?_,by simp;omega⟩,by simp [intOf];omega⟩
     have h9:=Zsj (w':=w5.setCell ⟨w.heap.size+1,6,none⟩ (.slice g5 (k+1) q5)) hown5 (fun g h1 h2=>Below.heap_setCell w5 _ _ g (by show g≠w.heap.size+1;omega))
     rw [HTK.out,List.map_append,List.map_append,List.length_append,hlen]
     exact h9
  ·have hkl:k=gs.length:=by omega
   subst hkl
   rw [List.take_length] at hAt HA
   have rv0:=hAt.bv.cell
   go_wp2_with fail
   go_loopw [85] (fun i wx=>∃ (j:Nat) (vs:Value),j≤ps.length∧i=↑j∧(ps.take j).all (pOk VN)=true∧Zyc w VN nd lo hi ga gs.length gc pa ps.length pc (gs.map gkn ++ (ps.take j).map pkn) wx vs) (fun i _=>ps.length - (intOf i).toNat)
   case atStart=>exact ⟨0,vs,Nat.zero_le _,rfl,sp_,by simpa using hAt⟩
   case round =>
    clear hAt rb rv0
    obtain ⟨j,vs2,hj,rfl,hallp,hAt⟩:=hrel
    have HAP:=hd_ hallp
    clear hallp
    have rb:=hAt.bb.cell
    have rv:=hAt.bv.cell
    by_cases hjt:j < ps.length
    ·obtain ⟨pb,po,rfl,e1,e2,e3⟩:=hp j hjt
     have hpb:pb < w.heap.size:=bl_ w _ e1
     have i1:=Za4 hAt.below e1
     have i2:=Za4 hAt.below e2
     have i3:=Za4 hAt.below e3
     have HOK:=hd_ (PNO.out hjt)
     have hjt':(j:Int) < ps.length:=by omega
     have HTE:=hd_ (fun h1=>Zt4 ps (pOk VN) j hjt HAP.out h1)
     have HTK:=hd_ (List.take_succ_eq_append_getElem hjt)
     generalize ps[j]=p at *
     rcases p with ⟨pA,pB,pS⟩
     simp only at i1 i2 i3
     clear e1 e2 e3
     go_wp2_with (first
      | (go_at_call 89;refine Za2 ?_))
     unfold Stop
     have HVt:Hid (∀ n W,W.cell? ⟨w.heap.size+1,0,none⟩=some (.int .i64 VN)→Calls prog 89 #[.pointer (some ⟨w.heap.size+1,0,none⟩),.int .i64 n] W (Same (.bool (inB n 0 ((VN:Int) - 1))) W)):=by
      intro n W hW
      have:=Zq1 (w.heap.size+1) VN n W hW
      have hw1:wrap64 ((VN:Int) - 1)=VN - 1:=by unfold wrap64;omega
      rwa [hw1] at this
     have hpk:pOk VN (pA,pB,pS)=(inB pA 0 ((VN:Int) - 1) && inB pB 0 ((VN:Int) - 1) && !(pA == pB)):=rfl
     obtain ⟨w3,hw3⟩:∃ w3,w3=wr.alloc (.cells #[pA,pB,.bool pS] 135):=⟨_,rfl⟩
     have hbr:Below wr.heap.size wr w3:=by rw [hw3];exact br_.alloc nl_ _
     have b8:Blk w3 wr.heap.size #[pA,pB,.bool pS] 135:=by rw [hw3];exact Blk.new _ _ _
     have hs3:w3.heap.size=wr.heap.size+1:=by rw [hw3];simp
     rw [← hw3]
     clear hw3
     have bb3:=hAt.bb.below hbr hAt.bb.lt
     have bv3:=hAt.bv.below hbr hAt.bv.lt
     have hown3:=Ze9 hAt.own hbr
     have r8:=b8.cell
     have rv3:w3.cell? ⟨w.heap.size+1,0,none⟩=some (.int .i64 VN):=bv3.cell 0
     have hz:=hAt.size
     have hB3:Below w.heap.size w w3:=hAt.below.trans (hbr.mono om_)
     clear rb rv i1 i2 i3
     generalize hgk0:wr.heap.size=gk at *
     have HS3:=hd_ hs3
     clear hgk0 hs3
     cases hc1:inB pA 0 ((VN:Int) - 1)
     ·have hv:=HOK.out (by rw [hpk,hc1];rfl)
      clear hpk HTE HOK
      exact Qg
     ·cases hc2:inB pB 0 ((VN:Int) - 1)
      ·have hv:=HOK.out (by rw [hpk,hc1,hc2];rfl)
       clear hpk HTE HOK
       exact Qg
      ·cases hc3:(pA == pB)
       ·have hte:=HTE.out (by rw [hpk,hc1,hc2,hc3];rfl)
        have HTE2:=hd_ hte
        have hne:(pA != pB)=true:=by simp [bne,hc3]
        have hgA:=Zds hc1
        have hgB:=Zds hc2
        clear hpk HTE HOK hte hc3
        go_wp2_with (first
         | (go_at_call 89;refine (HVt.out _ _ rv3).mono ?_;rintro e w' ⟨rfl,rfl⟩)
         | (go_at_call 102;refine (HM.out _ _).mono ?_;rintro e w' ⟨rfl,rfl⟩))
        have hs3:=HS3.out
        obtain ⟨nA,rfl⟩:∃ nA:Nat,pA=(nA:Int):=⟨pA.toNat,om_⟩
        obtain ⟨nB,rfl⟩:∃ nB:Nat,pB=(nB:Int):=⟨pB.toNat,om_⟩
        have hlen:(gs.map gkn ++ (ps.take j).map pkn).length=gs.length+j:=by simp;omega
        have c6:=bv3.cell 6
        have f6:=bv3.free
        have hvb:w.heap.size+1 < w3.heap.size:=by omega
        clear hs3
        refine Ord.Two.wp_region [(0,1),(1,1),(2,1),(3,1),(4,1),(5,0),(6,0),(7,0),(8,0),(9,2),(10,2)] [(11,0),(12,0),(13,2)] (fun W=>W.cell? ⟨w.heap.size+1,6,none⟩=some vs2) kr_ kr_ (fun c a d v w h=>by cases d <;> exact h) c6 ?_
        go_wp2_with (first
         | (with_reducible refine Ord.Two.walk_next ?_)
         | (at_builtin;refine Za2 ?_)
         | ((with_reducible refine Zye ?_);refine Zyq (ad:=⟨w.heap.size+1,6,none⟩) vs2 rfl rfl ?_ ?_;(focus (intro W hW;simp [go_sem,hW];done));intro K hK)
         | ((with_reducible refine Zyh rfl ?_ (fun K hK=>?_));(focus (first|assumption|exact c6|(simp [c6];done)|(rw [World.cell?_alloc_ite,if_neg om_];exact c6))))
         | ((with_reducible refine Zyf ?_ (fun hOF=>?_));(focus (first|assumption|exact c6|(simp [c6];done)|(rw [World.cell?_alloc_ite,if_neg om_];exact c6))))
         | (refine o_ ?_;intro K hK)|(with_reducible first|refine Zyo ?_ ?_|refine Zyj ?_|refine Zyf bn_ (fun _=>?_)))
        unfold Stop
        have hs3:=HS3.out
        refine wpList_append_own _ rfl (.tmp 111) (.tmp 116) 230 rfl (w.heap.size+2) 154 i0 .nilIface 1 16 underlying230 hi0 hz0 hz1 hz2 rfl de_ vs2 (gs.map gkn ++ (ps.take j).map pkn).length ((gs.map gkn ++ (ps.take j).map pkn).map knV) rfl (World.ownsRow.alloc hown3 _).drew ⟨w3.heap.size,0,none⟩ 1 1 [knV (pkn ((nA:Int),(nB:Int),pS))] rfl rfl (Zn7 (A:=#[knV (pkn ((nA:Int),(nB:Int),pS))]) (Blk.new _ _ _).drew) (by intro u hu;simp only [List.mem_singleton] at hu;subst hu;exact Zna _) (by rw [hlen];unfold maxLen;omega) (by rw [hlen];omega) (by show _≤(w3.alloc _).heap.size;simp;omega) ?_
        intro v5 w5 hown5 hgrow5 _
        have hO5:Off [] (w.heap.size+2) w3 w5:=(((Off.refl [] (w.heap.size+2) w3).alloc om_ _).drew).grown hgrow5 (by show _≤(w3.alloc _).heap.size;simp;omega) (fun g hg=>.inr (Zvw hown3 g hg))
        have bb5:=hO5.blk bb3 om_ sp_
        have bv5:=hO5.blk bv3 om_ sp_
        have hB5:Below w.heap.size w w5:=hB3.trans (hO5.below om_ sp_)
        have hs5:=hgrow5.size
        have hs5':w3.heap.size+1≤w5.heap.size:=by have h2:=hs5;simp at h2;omega
        obtain ⟨g5,q5,rfl⟩:=Zoz hown5 om_
        have c6':=bv5.cell 6
        have f6':=bv5.free
        clear f6 hgrow5 hs5 hs3
        rw [hlen] at hown5
        go_wp2_with (first
         | (with_reducible refine Ord.Two.walk_next ?_)
         | ((with_reducible refine Zyh rfl ?_ (fun K hK=>?_));(focus trivial))
         | ((with_reducible refine Zyf ?_ (fun hOF=>?_));(focus (first|exact c6'|trivial)))
         | (refine o_ ?_;intro K hK)|(with_reducible first|refine Zyo ?_ ?_|refine Zyj ?_|refine Zyf bn_ (fun _=>?_)))
        have hs3:=HS3.out
        have h9:=Zsj (w':=w5.setCell ⟨w.heap.size+1,6,none⟩ (.slice g5 (gs.length+j+1) q5)) hown5 (fun g h1 h2=>Below.heap_setCell w5 _ _ g (by show g≠w.heap.size+1;omega))
        refine ⟨⟨j+1,.slice g5 (gs.length+j+1) q5,om_,by go_num,HTE2.out,hB5.setCell (by show _≤_+1;omega) _,bb5.other (by show w.heap.size≠w.heap.size+1;omega) _,bv5.set 6 _,?_,by simp;omega⟩,by simp [intOf];omega⟩
        rw [HTK.out,List.map_append,← List.append_assoc,List.map_append,List.length_append,hlen]
        exact h9
       ·have hv:=HOK.out (by rw [hpk,hc1,hc2,hc3];rfl)
        have hne:(pA != pB)=false:=by simp [bne,hc3]
        clear hpk HTE HOK hc3
        exact Qg
    ·have hjl:j=ps.length:=by omega
     subst hjl
     rw [List.take_length] at hAt HAP
     have hval:valid ⟨VN,nd,lo,hi,gs,ps⟩=true:=by simp only [valid,Ze0,Bool.and_eq_true,decide_eq_true_eq];exact ⟨⟨⟨⟨⟨⟨h1,h2⟩,h3⟩,h4⟩,h5⟩,HA.out⟩,HAP.out⟩
     have HVAL:=hd_ hval
     clear hval
     have hcall:=hd_ (HIS.out wr (w.heap.size+1) hAt.below (hAt.bv.cell 0))
     cases isB
     ·go_wp2_with fail
      refine hcall.out.mono ?_
      rintro e w' ⟨rfl,rfl⟩
      go_wp2_with (go_at_call 102;refine Za2 ?_)
      unfold Stop
      refine (Zcg _ _).mono ?_
      rintro e w' ⟨rfl,rfl⟩
      refine ⟨rfl,?_⟩
      unfold Zc2
      rw [if_neg (by rw [HVAL.out];simp),if_pos rfl]
      exact ⟨rfl,hAt.below⟩
     ·go_wp2_with fail
      refine hcall.out.mono ?_
      rintro e w' ⟨rfl,rfl⟩
      go_wp2_with (go_at_call 102;refine (HM.out _ _).mono ?_;rintro e w' ⟨rfl,rfl⟩)
      go_ret
      unfold Zc2
      rw [if_neg (by rw [HVAL.out];simp),if_neg sp_]
      have hown:=hAt.own
      obtain ⟨ka,kc,rfl,hkn⟩:=own_kn hown
      have hlen:=Zj4 ⟨VN,nd,lo,hi,gs,ps⟩
      have rc:=hAt.bv.cell
      refine ⟨w.heap.size+1,ka,kc,rfl,⟨⟨rc 0,rc 1,rc 2,rc 3,rc 4,rc 5,rc 6⟩,hkn,sp_,by show 1≤VN;omega,by show VN≤8;omega,?_,?_,by rw [hlen];show gs.length+ps.length≤8;omega,knOf_ok HVAL.out,by rw [knOf_gs];exact h4⟩,hAt.below,om_⟩
      ·exact (Zrx HVAL.out).1
      ·have:=Zrx HVAL.out;show hi≤8;simp only at this;omega
end Go.Proofs.YtbapgefodmmikaaGreatDoor
namespace Go.Proofs.YtbapgefodmmikaaGreatDoor
open Go.RowKit Go.Proofs Go.Ord Tryz
theorem sz_lt (x:Nat):sz x≤62:=szN_le _ _
theorem Zpn {b:Bn}{vb:Bool}(h:chkE b vb=0):valid b=true∧vb=true:=by
 unfold chkE at h
 cases hv:valid b <;> cases vb <;> simp [hv] at h ⊢
def Zoc (b:Bn) (n:Int):Bool:=inB n 0 (wrap64 (b.V - 1))
theorem Zux {b:Bn}(hv:valid b=true) (n:Int):Zoc b n=inB n 0 (b.V - 1):=by
 have:=Zb6 hv
 unfold Zoc;rw [IntWalk.wrap64_in _ om_]
def passN (l:List Nat) (nd:Int):Nat:=l.countP (fun x=>decide (nd≤(sz x:Int)))
def loL (l:List Nat):Nat:=l.foldl (fun m x=>min m (sz x)) (sz (l.headD 0))
def hiL (l:List Nat):Nat:=l.foldl (fun m x=>max m (sz x)) (sz (l.headD 0))
theorem Zxl (x y k:Nat):Zt1 x y k=(List.range k).countP fun i=>hasB x i && hasB y i:=by
 induction k with
 | zero=>rfl
 | succ k ih =>
  rw [List.range_succ,List.countP_append,List.countP_singleton,← ih,Zt1]
  cases (hasB x k && hasB y k) <;> rfl
theorem right_eq {b:Bn}(hv:valid b=true) (k w:Nat) (hk:k < (knOf b).length):Zvf b k w=Zdq (hasB w) (knOf b)[k]:=by
 have hlen:=Zj4 b
 unfold Zvf
 by_cases h:k < b.gs.length
 ·rw [dif_pos h]
  have:(knOf b)[k]=gkn b.gs[k]:=by
   simp only [knOf];rw [List.getElem_append_left (by simpa using h)];simp
  rw [this]
  simp only [gkn,Zdq,cntG]
  rw [Zxl]
 ·have h2:k - b.gs.length < b.ps.length:=by omega
  rw [dif_neg h,dif_pos h2]
  have:(knOf b)[k]=pkn b.ps[k - b.gs.length]:=by
   simp only [knOf];rw [List.getElem_append_right (by simpa using h)];simp
  rw [this]
  simp only [pkn,Zdq]
theorem Zvz {b:Bn}(hv:valid b=true) (set w:Nat):∀ k,k≤(knOf b).length→okTo b set w k=(inB (sz w:Nat) b.lo b.hi && (Ze7 (knOf b) set k).all (Zdq (hasB w)))
 | 0,_=>by simp [okTo,Ze7]
 | k+1,h=>by
  rw [okTo,Zvz hv set w k om_,Zd8 _ _ _ om_,List.all_append,right_eq hv k w om_]
  cases hasB set k <;> simp [Bool.and_assoc]
theorem Zoo (ks:List Kn) (set:Nat):∀ k,k≤ks.length→(Ze7 ks set k).Sublist (ks.take k)
 | 0,_=>by simp [Ze7]
 | k+1,h=>by
  rw [Zd8 _ _ _ om_,List.take_succ_eq_append_getElem om_]
  refine (Zoo ks set k om_).append ?_
  split
  ·exact List.Sublist.refl _
  ·exact List.nil_sublist _
theorem knOf_in {b:Bn}(hv:valid b=true):∀ x∈knOf b,knIn b.V.toNat x:=by
 intro x hx
 simp only [knOf,List.mem_append,List.mem_map] at hx
 rcases hx with ⟨g,hg,rfl⟩ | ⟨p,hp,rfl⟩
 ·obtain ⟨i,hi,rfl⟩:=List.getElem_of_mem hg
  have:=Zv0 hv hi
  show _ < 256
  omega
 ·obtain ⟨i,hi,rfl⟩:=List.getElem_of_mem hp
  have:=Zuy hv hi
  exact ⟨om_,om_⟩
theorem knOf_gr (b:Bn):((knOf b).filterMap Zhz).length=b.gs.length:=by
 have h1:∀ l:List (Int × Int × Int),((l.map gkn).filterMap Zhz).length=l.length:=by
  intro l;induction l with
  | nil=>rfl
  | cons g l ih=>simp [gkn,Zhz]
 have h2:∀ l:List (Int × Int × Bool),((l.map pkn).filterMap Zhz).length=0:=by
  intro l;induction l with
  | nil=>rfl
  | cons g l ih=>rw [List.map_cons,List.filterMap_cons];exact ih
 unfold knOf
 rw [List.filterMap_append,List.length_append,h1,h2];rfl
theorem Zi5 {b:Bn}(hv:valid b=true) (ws:List Kn) (hw:∀ x∈ws,knIn b.V.toNat x) (hwl:ws.length≤2) (set n:Nat) :
  Za6 b.V.toNat b.lo b.hi (sel (knOf b) set ws) n=(Zes b set).countP fun w=>ws.all (Zdq (hasB w)) && (sz w == n):=by
 have hV:=Zb6 hv
 have hsub:=Zoo (knOf b) set (knOf b).length nl_
 rw [List.take_length] at hsub
 rw [Zx9 om_]
 ·unfold Zes
  rw [List.countP_filter]
  apply List.countP_congr
  intro w _
  unfold okB sel
  have e:b.kn=(knOf b).length:=(Zj4 b).symm
  rw [e,Zvz hv set w _ nl_,List.all_append]
  generalize inB (sz w:Nat) b.lo b.hi=x
  generalize List.all (Ze7 (knOf b) set (knOf b).length) (Zdq (hasB w))=y
  generalize ws.all (Zdq (hasB w))=z
  cases x <;> cases y <;> cases z <;> simp
 ·intro x hx
  rcases List.mem_append.1 hx with hx|hx
  ·exact knOf_in hv x (hsub.subset hx)
  ·exact hw x hx
 ·unfold sel
  rw [List.filterMap_append,List.length_append]
  have h1:=(hsub.filterMap Zhz).length_le
  rw [knOf_gr] at h1
  have h2:=List.length_filterMap_le Zhz ws
  have h3:=(Zuz hv).1
  omega
theorem sz_le {w:Nat}(h:w < 256):sz w≤8:=by
 rw [sz_eq w h];have:=List.countP_le_length (p:=hasB w) (l:=List.range 8);simpa using this
theorem Zu7 (l:List Nat) (q:Nat→Bool) (hl:∀ w∈l,sz w≤8):csum (fun n=>l.countP fun w=>q w && (sz w == n))=l.countP q:=by
 induction l with
 | nil=>rfl
 | cons w l ih =>
  have ih:=ih fun x hx=>hl x (List.mem_cons_of_mem _ hx)
  have h8:=hl w (List.mem_cons_self ..)
  unfold csum at *
  simp only [List.countP_cons]
  rw [← ih]
  cases hq:q w
  ·simp
  ·rcases (show sz w=0∨sz w=1∨sz w=2∨sz w=3∨sz w=4∨sz w=5∨sz w=6∨sz w=7∨sz w=8 by omega) with h|h|h|h|h|h|h|h|h <;> rw [h] <;> simp <;> omega
theorem Zkw {b:Bn}(hv:valid b=true) {set w:Nat}(h:w∈Zes b set):w < 256:=by
 have hV:=Zb6 hv
 simp only [Zes,List.mem_filter,List.mem_range] at h
 have h8:(2:Nat) ^ b.V.toNat≤2 ^ 8:=Nat.pow_le_pow_right om_ om_
 omega
theorem Zsu {b:Bn}(hv:valid b=true) (ws:List Kn) (hw:∀ x∈ws,knIn b.V.toNat x) (hwl:ws.length≤2) (set:Nat) :
  csum (Za6 b.V.toNat b.lo b.hi (sel (knOf b) set ws))=(Zes b set).countP fun w=>ws.all (Zdq (hasB w)):=by
 rw [← Zu7 (Zes b set) _ fun w h=>sz_le (Zkw hv h)]
 congr 1
 funext n
 exact Zi5 hv ws hw hwl set n
theorem Zmx (b:Bn) (ws:List Kn):sel (knOf b) (2 ^ b.kn - 1) ws=knOf b ++ ws:=by
 have:b.kn=(knOf b).length:=(Zj4 b).symm
 rw [this,Zgw]
theorem csum_set {b:Bn}(hv:valid b=true) (set:Nat):csum (Za6 b.V.toNat b.lo b.hi (sel (knOf b) set []))=(Zes b set).length:=by
 rw [Zsu hv [] sp_ sp_]
 simp
theorem Zi4 {b:Bn}(hv:valid b=true):csum (Za6 b.V.toNat b.lo b.hi (knOf b))=(TL b).length:=by
 have:=csum_set hv (2 ^ b.kn - 1)
 rwa [Zmx,List.append_nil] at this
theorem Zk4 {b:Bn}(hv:valid b=true) (n:Nat):Za6 b.V.toNat b.lo b.hi (knOf b) n=(TL b).countP fun w=>sz w == n:=by
 have:=Zi5 hv [] sp_ sp_ (2 ^ b.kn - 1) n
 rw [Zmx,List.append_nil] at this
 rw [this];simp;rfl
theorem bit_pow:∀ i,i < 8→∀ j,j < 8→hasB (2 ^ i) j=(j == i):=by decide
theorem Zov (c:Nat→Bool) (i:Nat) (h:i < 8):Zdq c (.g (2 ^ i) 1 1)=c i:=by
 have hb:=bit_pow i h
 simp only [Zdq,cntG]
 have:((List.range 8).countP fun j=>hasB (2 ^ i) j && c j)=(c i).toNat:=by
  have e:((List.range 8).countP fun j=>hasB (2 ^ i) j && c j)=(List.range 8).countP fun j=>(j == i) && c j:=by
   apply List.countP_congr
   intro j hj
   rw [hb j (List.mem_range.1 hj)]
  rw [e]
  rcases (show i=0∨i=1∨i=2∨i=3∨i=4∨i=5∨i=6∨i=7 by omega) with rfl|rfl|rfl|rfl|rfl|rfl|rfl|rfl <;> simp [List.range_succ,List.countP_cons] <;> cases c _ <;> rfl
 rw [this]
 cases c i <;> rfl
theorem Znb {V i:Nat}(h:i < 8):knIn V (.g (2 ^ i) 1 1):=by
 show 2 ^ i < 256
 have:=Nat.pow_le_pow_right (show 0 < 2 by omega) (show i≤7 by omega)
 have e:(2:Nat) ^ 7=128:=rfl
 omega
theorem Zsv {b:Bn}(hv:valid b=true) (i:Nat) (h:i < 8):csum (cOne b.V.toNat b.lo b.hi (knOf b) i)=cntH (TL b) i:=by
 have:=Zsu hv [.g (2 ^ i) 1 1] (by intro x hx;simp only [List.mem_singleton] at hx;subst hx;exact Znb h) sp_ (2 ^ b.kn - 1)
 rw [Zmx] at this
 unfold cOne cntH TL
 rw [this]
 apply List.countP_congr
 intro w _
 simp only [List.all_cons,List.all_nil,Bool.and_true]
 rw [Zov _ _ h]
theorem one_with {b:Bn}(hv:valid b=true) (i n:Nat) (h:i < 8):cOne b.V.toNat b.lo b.hi (knOf b) i n=cntH (Zhj (TL b) n) i:=by
 have:=Zi5 hv [.g (2 ^ i) 1 1] (by intro x hx;simp only [List.mem_singleton] at hx;subst hx;exact Znb h) sp_ (2 ^ b.kn - 1) n
 rw [Zmx] at this
 unfold cOne cntH Zhj TL
 rw [this,List.countP_filter]
 apply List.countP_congr
 intro w _
 simp only [List.all_cons,List.all_nil,Bool.and_true]
 rw [Zov _ _ h]
 simp only [Bool.and_eq_true,beq_iff_eq,decide_eq_true_eq]
 constructor <;> (intro h;exact ⟨by first|exact h.1|exact h.2,by have:=h.1;have:=h.2;omega⟩)
theorem Zmq {b:Bn}(hv:valid b=true) (n:Nat):Za6 b.V.toNat b.lo b.hi (knOf b) n=(Zhj (TL b) n).length:=by
 rw [Zk4 hv,Zhj,← List.countP_eq_length_filter]
 apply List.countP_congr
 intro w _
 simp only [beq_iff_eq,decide_eq_true_eq]
 omega
theorem Zjc (m:(Nat→Nat)→Nat) (V:Nat) (lo hi:Int) (ks:List Kn) (l:List Nat) (hl:m (Za6 V lo hi ks)=l.length) (h:∀ i,i < V→m (cOne V lo hi ks i)=cntH l i) (hp:0 < l.length) :
  ∀ k,k≤V→Zay m V lo hi ks k=(Zkv l k,Zmj l k)
 | 0,_=>rfl
 | k+1,hk=>by
  rw [Zay,Zjc m V lo hi ks l hl h hp k om_,h k om_,hl]
  simp only [Zkv,Zmj,Zik]
  by_cases h1:cntH l k=l.length
  ·rw [if_pos h1]
   have h2:(cntH l k == l.length)=true:=by simpa using h1
   have h3:(cntH l k == 0)=false:=by simp;omega
   simp only [h2,h3,if_true,if_false,Bool.false_eq_true,Nat.add_zero]
  ·rw [if_neg h1]
   have h2:(cntH l k == l.length)=false:=by simpa using h1
   simp only [h2,Bool.false_eq_true,if_false,Nat.add_zero]
   by_cases h0:cntH l k=0
   ·rw [if_pos h0]
    have h3:(cntH l k == 0)=true:=by simpa using h0
    simp only [h3,if_true,if_false,Bool.false_eq_true,Nat.add_zero]
   ·rw [if_neg h0]
    have h3:(cntH l k == 0)=false:=by simpa using h0
    simp only [h3,if_true,if_false,Bool.false_eq_true,Nat.add_zero]
theorem sure_all {b:Bn}(hv:valid b=true) (hp:0 < (TL b).length):Zay csum b.V.toNat b.lo b.hi (knOf b) b.V.toNat=(Zkv (TL b) b.V.toNat,Zmj (TL b) b.V.toNat) :=
 Zjc csum _ _ _ _ (TL b) (Zi4 hv) (fun i hi=>Zsv hv i (by have:=Zb6 hv;omega)) hp _ nl_
theorem sure_at {b:Bn}(hv:valid b=true) (n:Nat) (hp:0 < (Zhj (TL b) n).length):Zay (atN n) b.V.toNat b.lo b.hi (knOf b) b.V.toNat=(Zkv (Zhj (TL b) n) b.V.toNat,Zmj (Zhj (TL b) n) b.V.toNat) :=
 Zjc (atN n) _ _ _ _ (Zhj (TL b) n) (Zmq hv n) (fun i hi=>one_with hv i n (by have:=Zb6 hv;omega)) hp _ nl_
end Go.Proofs.YtbapgefodmmikaaGreatDoor
