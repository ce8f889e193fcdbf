/- Parts of a proof. -/
import Derived.Test.YtbapgefodmmikaaGreatDoorKMin
import Derived.Test.YtbapgefodmmikaaGreatDoorK09
set_option linter.unusedVariables false
set_option linter.unusedSimpArgs false
set_option maxHeartbeats 40000000
set_option maxRecDepth 100000
namespace Go.Proofs.YtbapgefodmmikaaGreatDoor
open Go.RowKit Go.Proofs Go.Ord Tryz
theorem sz_lt (x:Nat):sz x≤62:=szN_le _ _
theorem Zp0 {b:Bn}{vb:Bool}(h:chkE b vb=0):valid b=true∧vb=true:=by
 unfold chkE at h
 cases hv:valid b <;> cases vb <;> simp [hv] at h ⊢
def Znu (b:Bn) (n:Int):Bool:=inB n 0 (wrap64 (b.V - 1))
theorem Zu4 {b:Bn}(hv:valid b=true) (n:Int):Znu b n=inB n 0 (b.V - 1):=by
 have:=Zb4 hv
 unfold Znu;rw [IntWalk.wrap64_in _ om_]
def passN (l:List Nat) (nd:Int):Nat:=l.countP (fun x=>decide (nd≤(sz x:Int)))
def loL (l:List Nat):Nat:=l.foldl (fun m x=>min m (sz x)) (sz (l.headD 0))
def hiL (l:List Nat):Nat:=l.foldl (fun m x=>max m (sz x)) (sz (l.headD 0))
theorem Zwp (x y k:Nat):Zsb x y k=(List.range k).countP fun i=>hasB x i && hasB y i:=by
 induction k with
 | zero=>rfl
 | succ k ih =>
  rw [List.range_succ,List.countP_append,List.countP_singleton,← ih,Zsb]
  cases (hasB x k && hasB y k) <;> rfl
theorem right_eq {b:Bn}(hv:valid b=true) (k w:Nat) (hk:k < (knOf b).length):Zul b k w=Zdm (hasB w) (knOf b)[k]:=by
 have hlen:=Zis b
 unfold Zul
 by_cases h:k < b.gs.length
 ·rw [dif_pos h]
  have:(knOf b)[k]=gkn b.gs[k]:=by
   simp only [knOf];rw [List.getElem_append_left (by simpa using h)];simp
  rw [this]
  simp only [gkn,Zdm,cntG]
  rw [Zwp]
 ·have h2:k - b.gs.length < b.ps.length:=by omega
  rw [dif_neg h,dif_pos h2]
  have:(knOf b)[k]=pkn b.ps[k - b.gs.length]:=by
   simp only [knOf];rw [List.getElem_append_right (by simpa using h)];simp
  rw [this]
  simp only [pkn,Zdm]
theorem Zv3 {b:Bn}(hv:valid b=true) (set w:Nat):∀ k,k≤(knOf b).length→okTo b set w k=(inB (sz w:Nat) b.lo b.hi && (Ze5 (knOf b) set k).all (Zdm (hasB w)))
 | 0,_=>by simp [okTo,Ze5]
 | k+1,h=>by
  rw [okTo,Zv3 hv set w k om_,Zd3 _ _ _ om_,List.all_append,right_eq hv k w om_]
  cases hasB set k <;> simp [Bool.and_assoc]
theorem Zo3 (ks:List Kn) (set:Nat):∀ k,k≤ks.length→(Ze5 ks set k).Sublist (ks.take k)
 | 0,_=>by simp [Ze5]
 | k+1,h=>by
  rw [Zd3 _ _ _ om_,List.take_succ_eq_append_getElem om_]
  refine (Zo3 ks set k om_).append ?_
  split
  ·exact List.Sublist.refl _
  ·exact List.nil_sublist _
theorem knOf_in {b:Bn}(hv:valid b=true):∀ x∈knOf b,knIn b.V.toNat x:=by
 intro x hx
 simp only [knOf,List.mem_append,List.mem_map] at hx
 rcases hx with ⟨g,hg,rfl⟩ | ⟨p,hp,rfl⟩
 ·obtain ⟨i,hi,rfl⟩:=List.getElem_of_mem hg
  have:=Zu7 hv hi
  show _ < 256
  omega
 ·obtain ⟨i,hi,rfl⟩:=List.getElem_of_mem hp
  have:=Zu5 hv hi
  exact ⟨om_,om_⟩
theorem knOf_gr (b:Bn):((knOf b).filterMap Zho).length=b.gs.length:=by
 have h1:∀ l:List (Int × Int × Int),((l.map gkn).filterMap Zho).length=l.length:=by
  intro l;induction l with
  | nil=>rfl
  | cons g l ih=>simp [gkn,Zho]
 have h2:∀ l:List (Int × Int × Bool),((l.map pkn).filterMap Zho).length=0:=by
  intro l;induction l with
  | nil=>rfl
  | cons g l ih=>rw [List.map_cons,List.filterMap_cons];exact ih
 unfold knOf
 rw [List.filterMap_append,List.length_append,h1,h2];rfl
theorem Zhu {b:Bn}(hv:valid b=true) (ws:List Kn) (hw:∀ x∈ws,knIn b.V.toNat x) (hwl:ws.length≤2) (set n:Nat) :
  Za6 b.V.toNat b.lo b.hi (sel (knOf b) set ws) n=(Zeo b set).countP fun w=>ws.all (Zdm (hasB w)) && (sz w == n):=by
 have hV:=Zb4 hv
 have hsub:=Zo3 (knOf b) set (knOf b).length nl_
 rw [List.take_length] at hsub
 rw [Zwd om_]
 ·unfold Zeo
  rw [List.countP_filter]
  apply List.countP_congr
  intro w _
  unfold okB sel
  have e:b.kn=(knOf b).length:=(Zis b).symm
  rw [e,Zv3 hv set w _ nl_,List.all_append]
  generalize inB (sz w:Nat) b.lo b.hi=x
  generalize List.all (Ze5 (knOf b) set (knOf b).length) (Zdm (hasB w))=y
  generalize ws.all (Zdm (hasB w))=z
  cases x <;> cases y <;> cases z <;> simp
 ·intro x hx
  rcases List.mem_append.1 hx with hx|hx
  ·exact knOf_in hv x (hsub.subset hx)
  ·exact hw x hx
 ·unfold sel
  rw [List.filterMap_append,List.length_append]
  have h1:=(hsub.filterMap Zho).length_le
  rw [knOf_gr] at h1
  have h2:=List.length_filterMap_le Zho ws
  have h3:=(Zu6 hv).1
  omega
theorem sz_le {w:Nat}(h:w < 256):sz w≤8:=by
 rw [sz_eq w h];have:=List.countP_le_length (p:=hasB w) (l:=List.range 8);simpa using this
theorem Ztf (l:List Nat) (q:Nat→Bool) (hl:∀ w∈l,sz w≤8):csum (fun n=>l.countP fun w=>q w && (sz w == n))=l.countP q:=by
 induction l with
 | nil=>rfl
 | cons w l ih =>
  have ih:=ih fun x hx=>hl x (List.mem_cons_of_mem _ hx)
  have h8:=hl w (List.mem_cons_self ..)
  unfold csum at *
  simp only [List.countP_cons]
  rw [← ih]
  cases hq:q w
  ·simp
  ·rcases (show sz w=0∨sz w=1∨sz w=2∨sz w=3∨sz w=4∨sz w=5∨sz w=6∨sz w=7∨sz w=8 by omega) with h|h|h|h|h|h|h|h|h <;> rw [h] <;> simp <;> omega
theorem Zki {b:Bn}(hv:valid b=true) {set w:Nat}(h:w∈Zeo b set):w < 256:=by
 have hV:=Zb4 hv
 simp only [Zeo,List.mem_filter,List.mem_range] at h
 have h8:(2:Nat) ^ b.V.toNat≤2 ^ 8:=Nat.pow_le_pow_right om_ om_
 omega
theorem Zs4 {b:Bn}(hv:valid b=true) (ws:List Kn) (hw:∀ x∈ws,knIn b.V.toNat x) (hwl:ws.length≤2) (set:Nat) :
  csum (Za6 b.V.toNat b.lo b.hi (sel (knOf b) set ws))=(Zeo b set).countP fun w=>ws.all (Zdm (hasB w)):=by
 rw [← Ztf (Zeo b set) _ fun w h=>sz_le (Zki hv h)]
 congr 1
 funext n
 exact Zhu hv ws hw hwl set n
theorem Zmg (b:Bn) (ws:List Kn):sel (knOf b) (2 ^ b.kn - 1) ws=knOf b ++ ws:=by
 have:b.kn=(knOf b).length:=(Zis b).symm
 rw [this,Zgo]
theorem csum_set {b:Bn}(hv:valid b=true) (set:Nat):csum (Za6 b.V.toNat b.lo b.hi (sel (knOf b) set []))=(Zeo b set).length:=by
 rw [Zs4 hv [] sp_ sp_]
 simp
theorem Zht {b:Bn}(hv:valid b=true):csum (Za6 b.V.toNat b.lo b.hi (knOf b))=(TL b).length:=by
 have:=csum_set hv (2 ^ b.kn - 1)
 rwa [Zmg,List.append_nil] at this
theorem Zjp {b:Bn}(hv:valid b=true) (n:Nat):Za6 b.V.toNat b.lo b.hi (knOf b) n=(TL b).countP fun w=>sz w == n:=by
 have:=Zhu hv [] sp_ sp_ (2 ^ b.kn - 1) n
 rw [Zmg,List.append_nil] at this
 rw [this];simp;rfl
theorem bit_pow:∀ i,i < 8→∀ j,j < 8→hasB (2 ^ i) j=(j == i):=by decide
theorem Zo9 (c:Nat→Bool) (i:Nat) (h:i < 8):Zdm c (.g (2 ^ i) 1 1)=c i:=by
 have hb:=bit_pow i h
 simp only [Zdm,cntG]
 have:((List.range 8).countP fun j=>hasB (2 ^ i) j && c j)=(c i).toNat:=by
  have e:((List.range 8).countP fun j=>hasB (2 ^ i) j && c j)=(List.range 8).countP fun j=>(j == i) && c j:=by
   apply List.countP_congr
   intro j hj
   rw [hb j (List.mem_range.1 hj)]
  rw [e]
  rcases (show i=0∨i=1∨i=2∨i=3∨i=4∨i=5∨i=6∨i=7 by omega) with rfl|rfl|rfl|rfl|rfl|rfl|rfl|rfl <;> simp [List.range_succ,List.countP_cons] <;> cases c _ <;> rfl
 rw [this]
 cases c i <;> rfl
theorem Zmu {V i:Nat}(h:i < 8):knIn V (.g (2 ^ i) 1 1):=by
 show 2 ^ i < 256
 have:=Nat.pow_le_pow_right (show 0 < 2 by omega) (show i≤7 by omega)
 have e:(2:Nat) ^ 7=128:=rfl
 omega
theorem Zs5 {b:Bn}(hv:valid b=true) (i:Nat) (h:i < 8):csum (cOne b.V.toNat b.lo b.hi (knOf b) i)=cntH (TL b) i:=by
 have:=Zs4 hv [.g (2 ^ i) 1 1] (by intro x hx;simp only [List.mem_singleton] at hx;subst hx;exact Zmu h) sp_ (2 ^ b.kn - 1)
 rw [Zmg] at this
 unfold cOne cntH TL
 rw [this]
 apply List.countP_congr
 intro w _
 simp only [List.all_cons,List.all_nil,Bool.and_true]
 rw [Zo9 _ _ h]
theorem one_with {b:Bn}(hv:valid b=true) (i n:Nat) (h:i < 8):cOne b.V.toNat b.lo b.hi (knOf b) i n=cntH (Zh8 (TL b) n) i:=by
 have:=Zhu hv [.g (2 ^ i) 1 1] (by intro x hx;simp only [List.mem_singleton] at hx;subst hx;exact Zmu h) sp_ (2 ^ b.kn - 1) n
 rw [Zmg] at this
 unfold cOne cntH Zh8 TL
 rw [this,List.countP_filter]
 apply List.countP_congr
 intro w _
 simp only [List.all_cons,List.all_nil,Bool.and_true]
 rw [Zo9 _ _ h]
 simp only [Bool.and_eq_true,beq_iff_eq,decide_eq_true_eq]
 constructor <;> (intro h;exact ⟨by first|exact h.1|exact h.2,by have:=h.1;have:=h.2;omega⟩)
theorem Zma {b:Bn}(hv:valid b=true) (n:Nat):Za6 b.V.toNat b.lo b.hi (knOf b) n=(Zh8 (TL b) n).length:=by
 rw [Zjp hv,Zh8,← List.countP_eq_length_filter]
 apply List.countP_congr
 intro w _
 simp only [beq_iff_eq,decide_eq_true_eq]
 omega
theorem Zj1 (m:(Nat→Nat)→Nat) (V:Nat) (lo hi:Int) (ks:List Kn) (l:List Nat) (hl:m (Za6 V lo hi ks)=l.length) (h:∀ i,i < V→m (cOne V lo hi ks i)=cntH l i) (hp:0 < l.length) :
  ∀ k,k≤V→Zau m V lo hi ks k=(Zkh l k,Zm4 l k)
 | 0,_=>rfl
 | k+1,hk=>by
  rw [Zau,Zj1 m V lo hi ks l hl h hp k om_,h k om_,hl]
  simp only [Zkh,Zm4,Zia]
  by_cases h1:cntH l k=l.length
  ·rw [if_pos h1]
   have h2:(cntH l k == l.length)=true:=by simpa using h1
   have h3:(cntH l k == 0)=false:=by simp;omega
   simp only [h2,h3,if_true,if_false,Bool.false_eq_true,Nat.add_zero]
  ·rw [if_neg h1]
   have h2:(cntH l k == l.length)=false:=by simpa using h1
   simp only [h2,Bool.false_eq_true,if_false,Nat.add_zero]
   by_cases h0:cntH l k=0
   ·rw [if_pos h0]
    have h3:(cntH l k == 0)=true:=by simpa using h0
    simp only [h3,if_true,if_false,Bool.false_eq_true,Nat.add_zero]
   ·rw [if_neg h0]
    have h3:(cntH l k == 0)=false:=by simpa using h0
    simp only [h3,if_true,if_false,Bool.false_eq_true,Nat.add_zero]
theorem sure_all {b:Bn}(hv:valid b=true) (hp:0 < (TL b).length):Zau csum b.V.toNat b.lo b.hi (knOf b) b.V.toNat=(Zkh (TL b) b.V.toNat,Zm4 (TL b) b.V.toNat) :=
 Zj1 csum _ _ _ _ (TL b) (Zht hv) (fun i hi=>Zs5 hv i (by have:=Zb4 hv;omega)) hp _ nl_
theorem sure_at {b:Bn}(hv:valid b=true) (n:Nat) (hp:0 < (Zh8 (TL b) n).length):Zau (atN n) b.V.toNat b.lo b.hi (knOf b) b.V.toNat=(Zkh (Zh8 (TL b) n) b.V.toNat,Zm4 (Zh8 (TL b) n) b.V.toNat) :=
 Zj1 (atN n) _ _ _ _ (Zh8 (TL b) n) (Zma hv n) (fun i hi=>one_with hv i n (by have:=Zb4 hv;omega)) hp _ nl_
end Go.Proofs.YtbapgefodmmikaaGreatDoor
namespace Go.Proofs.YtbapgefodmmikaaGreatDoor
open Go.RowKit Go.Proofs Go.Ord Tryz
attribute [local irreducible] Ord.walk
theorem Zfb {w:World}{v:Nat}{b:Bn}{V:Nat}{ks:List Kn}{ga:Option Addr}{gc:Nat}{pa:Option Addr}{pc:Nat}{ka:Option Addr}{kc:Nat}(h:Vt w v b V ks ga gc pa pc ka kc) (hs:csum (Za6 V b.lo b.hi ks)=0) :
  Calls prog 85 #[.pointer v] w (Zx9 10 w):=by
 have hle:=Zb7 V h.hV8 b.lo b.hi ks
 have HE:=hd_ (fun w' (hb:Below w.heap.size w w')=>(h.below hb).every)
 have HC:=hd_ (fun w' (hb:Below w.heap.size w w')=>(h.below hb).all)
 have HA:=hd_ (Zr2 (Za6 V b.lo b.hi ks) om_)
 have HM:=hd_ Zcc
 have q1:=Zf1 (Za6 V b.lo b.hi ks)
 have q2:=Zf2 (Za6 V b.lo b.hi ks)
 rw [hs] at HA
 have hcv:Hid (cv (Za6 V b.lo b.hi ks)=.agg (Zay (Za6 V b.lo b.hi ks))):=rfl
 clear hs hle
 generalize cv (Za6 V b.lo b.hi ks)=CV at *
 generalize Zay (Za6 V b.lo b.hi ks)=OC at *
 obtain rfl:=hcv.out
 go_enter func85,ntmps85
 go_wp2_with (first
  | (go_at_call 93;refine (HE.out _ bel_).mono ?_;rintro e w' ⟨rfl,rfl⟩)
  | (go_at_call 92;refine (HC.out _ bel_).mono ?_;rintro e w1 ⟨rfl,hb1⟩)
  | (go_at_call 90;refine (HA.out _).mono ?_;rintro e w3 ⟨rfl,hb3⟩;have b3:=h2.blk.below hb3 h2.blk.lt;have b2:=h2.other (((Blk.new w (Zay fun _=>0) 142).below hb1 sp_).alloc _) (by have:=hb1.size;simp at this;omega);have b0:=b2.below hb3 b2.lt)
  | (go_at_call 102;refine Za2 ?_)
  | (refine Za1 142 (.tmp 3) (.tmp 7) Zan rfl rfl rfl rfl (Blk.new _ _ _) rfl q1 q2 ?_;intro w2 h2)
  | (refine Za0 142 (.tmp 3) Zan rfl rfl rfl b3 q1 ?_)
  | (refine Za0 142 (.tmp 3) Zan rfl rfl rfl h2.blk q1 ?_))
 unfold Stop
 refine (HM.out _ _).mono ?_
 rintro e w' ⟨rfl,rfl⟩
 refine ⟨rfl,rfl,?_⟩
 have hb4:w w2:=h2.below (((br_.alloc nl_ _).trans (hb1.mono sp_)).alloc (by have:=hb1.size;simp at this;omega) _) (by have:=hb1.size;simp at this;omega)
 exact hb4.trans (hb3.mono hb4.size)
def Opened (b:Bn) (ga:Option Addr) (gc:Nat) (pa:Option Addr) (pc:Nat) (w:World) (e:Ending) (w':World):Prop :=
 ∃ v ka kc,e=.returned (.pointer (some ⟨v,0,none⟩))∧Vt w' v b b.V.toNat (knOf b) ga gc pa pc ka kc∧w w'∧w.heap.size≤v
theorem opened {b:Bn}{ga:Option Addr}{gc:Nat}{pa:Option Addr}{pc:Nat}{w:World}(hv:valid b=true) {e:Ending}{w':World}(h:Zbv b true ga gc pa pc w e w'):Opened b ga gc pa pc w e w':=by
 unfold Zbv at h
 rw [if_neg (by rw [hv];simp),if_neg sp_] at h
 exact h
theorem Zr7 (b:Bn) (ga:Option Addr) (gc:Nat) (pa:Option Addr) (pc:Nat) (w:World) (hg:GsAt w ga b.gs) (hp:PsAt w pa b.ps) (hv:valid b=true) :
  Calls prog 368 #[bv b ga gc pa pc] w (Zat (.int .i64 (csum (Za6 b.V.toNat b.lo b.hi (knOf b)):Nat)) ↑() w):=by
 have hmf:=hmf_ prog
 have HO:=hd_ (fun w' (hb:Below w.heap.size w w')=>Zhz b ga gc pa pc 84 #[] true w' (hg.below hb) (hp.below hb) (Zd1 hv) (fun args W=>call84 args W) (fun w2 v _ _=>Zcd _ _) |>.mono fun _ _ h=>opened hv h)
 have HC:=hd_ Zjr
 have HA:=hd_ Zr2
 unfold bv at *
 go_enter_defers func368,ntmps368
 go_wp2_with (first
  | (go_at_call 83;refine (HO.out _ bel_).mono ?_;rintro e w1 ⟨v,ka,kc,rfl,hvt,hb1,hle⟩;have HE:=hd_ hvt.every;have HT:=hd_ hvt.all;have b3:Blk w1 (w.heap.size+1) #[()] 31:=(Blk.new' _ _ _ _ sp_).below hb1 ar_)
  | (go_at_call 93;refine HE.out.mono ?_;rintro e w' ⟨rfl,rfl⟩)
  | (go_at_call 92;refine HT.out.mono ?_;rintro e w2 ⟨rfl,hb2⟩)
  | (go_at_call 90;refine (HA.out _ (by have:=Zb7 b.V.toNat hvt.hV8 b.lo b.hi (knOf b);omega) _).mono ?_;rintro e w3 ⟨rfl,hb3⟩;have b4:=(b3.below hb2 b3.lt).below hb3 (b3.below hb2 b3.lt).lt;have r4:=b4.cell;have f4:=b4.free))
 refine leaves_cons (f:=369) (args:=#[.pointer ↑(w.heap.size+1)]) sp_ (by simp [go_sem]) ?_
 refine ((HC.out).2 (w.heap.size+1) _).mono ?_
 rintro e u' w4 ⟨rfl,rfl,rfl⟩
 have b5:=b4.set 0 ↑()
 have r5:=b5.cell
 have hB:w w3:=(((br_.alloc nl_ _).alloc ar_ _).trans (hb1.mono ar_)).trans ((hb2.mono (by have:=hb1.size;simp at this;omega)).trans (hb3.mono (by have:=hb1.size;have:=hb2.size;simp at *;omega)))
 simp only [settle,Leaves]
 simp [Leaves,settle,results,results368,go_sem,r5]
 exact ⟨rfl,hB.setCell sp_ _⟩
theorem Zck (b:Bn) (ga:Option Addr) (gc:Nat) (pa:Option Addr) (pc:Nat) (F:FuncId) (cap:Array Value) (isB:Bool) (w:World) (hg:GsAt w ga b.gs) (hp:PsAt w pa b.ps)
  (hgl:b.gs.length≤9223372036854775807) (hpl:b.ps.length≤9223372036854775807) (hE:chkE b isB≠0)
  (hcf:∀ (args:Array Value) (W:World),(callFunc F args).run prog W=.ok (.enter F args) W) (HIS0:∀ w' v,Below w.heap.size w w'→w'.cell? ⟨v,0,none⟩=some (.int .i64 b.V)→Calls prog F (#[.pointer (some ⟨v,0,none⟩)] ++ cap) w' (Same (.bool isB) w')) :
  Calls prog 83 #[bv b ga gc pa pc,.func (.func F) #[] cap] w (Zx9 (chkE b isB) w):=by
 cases hh:Zdy b
 ·have hv:valid b=false:=Zvt hh
  have:chkE b isB=1:=by unfold chkE;rw [if_pos hv]
  rw [this]
  exact Zww b ga gc pa pc F cap w hgl hpl hh
 ·refine (Zhz b ga gc pa pc F cap isB w hg hp hh hcf HIS0).mono fun e w' h=>?_
  unfold Zbv at h
  unfold chkE at *
  by_cases hv:valid b=false
  ·rw [if_pos hv] at h ⊢;exact h
  ·rw [if_neg hv] at h hE ⊢
   by_cases hb:isB=false
   ·rw [if_pos hb] at h ⊢;exact h
   ·rw [if_neg hb] at hE;exact absurd rfl hE
theorem Zbo (b:Bn) (ga:Option Addr) (gc:Nat) (pa:Option Addr) (pc:Nat) (F:FuncId) (cap:Array Value) (w:World) (hg:GsAt w ga b.gs) (hp:PsAt w pa b.ps) (hv:valid b=true)
  (hcf:∀ (args:Array Value) (W:World),(callFunc F args).run prog W=.ok (.enter F args) W) (HIS0:∀ w' v,Below w.heap.size w w'→w'.cell? ⟨v,0,none⟩=some (.int .i64 b.V)→Calls prog F (#[.pointer (some ⟨v,0,none⟩)] ++ cap) w' (Same (.bool true) w')) :
  Calls prog 83 #[bv b ga gc pa pc,.func (.func F) #[] cap] w (Opened b ga gc pa pc w) :=
 (Zhz b ga gc pa pc F cap true w hg hp (Zd1 hv) hcf HIS0).mono fun e w' h=>opened hv h
theorem Zi1 (v p:Nat) (V n:Int) (w:World) (h:w.cell? ⟨v,0,none⟩=some (.int .i64 V)) (hp:w.cell? ⟨p,0,none⟩=some (.int .i64 n)) :
  Calls prog 88 #[.pointer v,.pointer p] w (Same (.bool (inB n 0 (wrap64 (V - 1)))) w):=by
 have HV:=hd_ (Zpe v V n w h)
 go_enter func88,ntmps88
 go_wp2_with (go_at_call 89;refine HV.out.mono ?_;rintro e w' ⟨rfl,rfl⟩)
 go_ret
 exact ⟨rfl,rfl⟩
theorem Zh4 (v p:Nat) (V n:Int) (w:World) (h:w.cell? ⟨v,0,none⟩=some (.int .i64 V)) (hp:w.cell? ⟨p,0,none⟩=some (.int .i64 n)) :
  Calls prog 100 #[.pointer v,.pointer p] w (Same (.bool (inB n 0 V)) w):=by
 have HV:=hd_ (Zi2 v V n w h)
 go_enter func100,ntmps100
 go_wp2_with (go_at_call 101;refine HV.out.mono ?_;rintro e w' ⟨rfl,rfl⟩)
 go_ret
 exact ⟨rfl,rfl⟩
theorem Zpi (b:Bn) (ga:Option Addr) (gc:Nat) (pa:Option Addr) (pc:Nat) (w:World) (hg:GsAt w ga b.gs) (hp:PsAt w pa b.ps) (hgl:b.gs.length≤9223372036854775807) (hpl:b.ps.length≤9223372036854775807) (hE:chkE b true≠0) :
  Calls prog 368 #[bv b ga gc pa pc] w fun e w'=>e=.returned (.tuple #[(),(chkE b true)])∧Below w.heap.size w w':=by
 have hmf:=hmf_ prog
 have HO:=hd_ (fun w' (hb:Below w.heap.size w w')=>Zck b ga gc pa pc 84 #[] true w' (hg.below hb) (hp.below hb) hgl hpl hE (fun args W=>call84 args W) (fun w2 v _ _=>Zcd _ _))
 generalize chkE b true=E at *
 have HC:=hd_ Zjr
 unfold bv at *
 go_enter_defers func368,ntmps368
 go_wp2_with (first
  | (go_at_call 83;refine (HO.out _ bel_).mono ?_;rintro e w1 ⟨rfl,hb1⟩;refine Za2 ?_))
 unfold Stop
 have b3:Blk w1 (w.heap.size+1) #[()] 31:=(Blk.new' _ _ _ _ sp_).below hb1 ar_
 have hB:w w1:=by exact bel_
 refine leaves_cons (f:=369) (args:=#[.pointer ↑(w.heap.size+1)]) sp_ (by simp [go_sem]) ?_
 refine ((HC.out).1 E (w.heap.size+1) _ b3).mono ?_
 rintro e u' w2 ⟨rfl,rfl,ho,hb⟩
 have hB2:Below w.heap.size w w2:=hB.trans (ho.below hB.size sp_)
 have r2:=hb.cell
 simp only [settle,Leaves]
 simp [Leaves,settle,results,results368,go_sem,r2]
 exact hB2
theorem _root_.Q2w {p:Prop}(h:p:=by
 have r2:=hb.cell
 simp only [settle,Leaves]
 simp [Leaves,settle,results,results34,go_sem,r2]
 exact hB2):p:=h
theorem Znl (b:Bn) (ga:Option Addr) (gc:Nat) (pa:Option Addr) (pc:Nat) (w:World) (hg:GsAt w ga b.gs) (hp:PsAt w pa b.ps) (hgl:b.gs.length≤9223372036854775807) (hpl:b.ps.length≤9223372036854775807) (hE:chkE b true≠0) :
  Calls prog 34 #[bv b ga gc pa pc] w fun e w'=>e=.returned (.tuple #[(),(chkE b true)])∧Below w.heap.size w w':=by
 have hmf:=hmf_ prog
 have HO:=hd_ (fun w' (hb:Below w.heap.size w w')=>Zck b ga gc pa pc 84 #[] true w' (hg.below hb) (hp.below hb) hgl hpl hE (fun args W=>call84 args W) (fun w2 v _ _=>Zcd _ _))
 generalize chkE b true=E at *
 have HC:=hd_ Zf8
 unfold bv at *
 go_enter_defers func34,ntmps34
 go_wp2_with (first
  | (go_at_call 83;refine (HO.out _ bel_).mono ?_;rintro e w1 ⟨rfl,hb1⟩;refine Za2 ?_))
 unfold Stop
 have b3:Blk w1 (w.heap.size+1) #[()] 31:=(Blk.new' _ _ _ _ sp_).below hb1 ar_
 have hB:w w1:=by exact bel_
 refine leaves_cons (f:=97) (args:=#[.pointer ↑(w.heap.size+1)]) sp_ (by simp [go_sem]) ?_
 refine ((HC.out).1 E (w.heap.size+1) _ b3).mono ?_
 rintro e u' w2 ⟨rfl,rfl,ho,hb⟩
 have hB2:Below w.heap.size w w2:=hB.trans (ho.below hB.size sp_)
 exact Q2w
theorem _root_.Q2x {p:Prop}(h:p:=by
 have r2:=hb.cell
 simp only [settle,Leaves]
 simp [Leaves,settle,results,results33,go_sem,r2]
 exact hB2):p:=h
theorem Zph (b:Bn) (ga:Option Addr) (gc:Nat) (pa:Option Addr) (pc:Nat) (w:World) (hg:GsAt w ga b.gs) (hp:PsAt w pa b.ps) (hgl:b.gs.length≤9223372036854775807) (hpl:b.ps.length≤9223372036854775807) (hE:chkE b true≠0) :
  Calls prog 33 #[bv b ga gc pa pc] w fun e w'=>e=.returned (.tuple #[(),(),(chkE b true)])∧Below w.heap.size w w':=by
 have hmf:=hmf_ prog
 have HO:=hd_ (fun w' (hb:Below w.heap.size w w')=>Zck b ga gc pa pc 84 #[] true w' (hg.below hb) (hp.below hb) hgl hpl hE (fun args W=>call84 args W) (fun w2 v _ _=>Zcd _ _))
 generalize chkE b true=E at *
 have HC:=hd_ Zgj
 unfold bv at *
 go_enter_defers func33,ntmps33
 go_wp2_with (first
  | (go_at_call 83;refine (HO.out _ bel_).mono ?_;rintro e w1 ⟨rfl,hb1⟩;refine Za2 ?_))
 unfold Stop
 have b3:Blk w1 (w.heap.size+1) #[()] 31:=(Blk.new' _ _ _ _ sp_).below hb1 ar_
 have hB:w w1:=by exact bel_
 refine leaves_cons (f:=95) (args:=#[.pointer ↑(w.heap.size+1)]) sp_ (by simp [go_sem]) ?_
 refine ((HC.out).1 E (w.heap.size+1) _ b3).mono ?_
 rintro e u' w2 ⟨rfl,rfl,ho,hb⟩
 have hB2:Below w.heap.size w w2:=hB.trans (ho.below hB.size sp_)
 exact Q2x
theorem Znj (b:Bn) (ga:Option Addr) (gc:Nat) (pa:Option Addr) (pc:Nat) (w:World) (hg:GsAt w ga b.gs) (hp:PsAt w pa b.ps) (hgl:b.gs.length≤9223372036854775807) (hpl:b.ps.length≤9223372036854775807) (hE:chkE b true≠0) :
  Calls prog 31 #[bv b ga gc pa pc] w fun e w'=>e=.returned (.tuple #[.agg #[(),()],(chkE b true)])∧Below w.heap.size w w':=by
 have hmf:=hmf_ prog
 have HO:=hd_ (fun w' (hb:Below w.heap.size w w')=>Zck b ga gc pa pc 84 #[] true w' (hg.below hb) (hp.below hb) hgl hpl hE (fun args W=>call84 args W) (fun w2 v _ _=>Zcd _ _))
 generalize chkE b true=E at *
 have HC:=hd_ Zf4
 unfold bv at *
 go_enter_defers func31,ntmps31
 go_wp2_with (first
  | (go_at_call 83;refine (HO.out _ bel_).mono ?_;rintro e w1 ⟨rfl,hb1⟩;refine Za2 ?_))
 unfold Stop
 have b3:Blk w1 (w.heap.size+2) #[()] 31:=(Blk.new' _ _ _ _ sp_).below hb1 ar_
 have hB:w w1:=by exact bel_
 refine leaves_cons (f:=81) (args:=#[.pointer ↑(w.heap.size+2)]) sp_ (by simp [go_sem]) ?_
 refine ((HC.out).1 E (w.heap.size+2) _ b3).mono ?_
 rintro e u' w2 ⟨rfl,rfl,ho,hb⟩
 have hB2:Below w.heap.size w w2:=hB.trans (ho.below hB.size sp_)
 have r2:=hb.cell
 have b1:Blk w1 (w.heap.size+1) #[(),()] 23:=((Blk.new' _ _ _ _ sp_).alloc _).below hb1 ar_
 have r3:=(ho.blk b1 b1.lt sp_).cell
 simp only [settle,Leaves]
 simp [Leaves,settle,results,results31,go_sem,r2,r3]
 exact hB2
theorem _root_.Q2y {p:Prop}(h:p:=by
 have r2:=hb.cell
 simp only [settle,Leaves]
 simp [Leaves,settle,results,results32,go_sem,r2]
 exact hB2):p:=h
theorem Zpf (b:Bn) (ga:Option Addr) (gc:Nat) (pa:Option Addr) (pc:Nat) (n:Int) (w:World) (hg:GsAt w ga b.gs) (hp:PsAt w pa b.ps) (hgl:b.gs.length≤9223372036854775807) (hpl:b.ps.length≤9223372036854775807) (hE:chkE b (inB n 0 (wrap64 (b.V - 1)))≠0) :
  Calls prog 32 #[bv b ga gc pa pc,n] w fun e w'=>e=.returned (.tuple #[(),.int .i64 (chkE b (inB n 0 (wrap64 (b.V - 1))))])∧Below w.heap.size w w':=by
 have hmf:=hmf_ prog
 have HO:=hd_ (fun w' (hb:Below w.heap.size w w') (hc0:w'.cell? ⟨w.heap.size+1,0,none⟩=some (.int .i64 n))=>Zck b ga gc pa pc 88 #[.pointer ↑(w.heap.size+1)] (inB n 0 (wrap64 (b.V - 1))) w' (hg.below hb) (hp.below hb) hgl hpl hE (fun args W=>call88 args W) (fun w2 v hb2 h0=>Zi1 v _ b.V n w2 h0 (Za4 hb2 hc0)))
 generalize chkE b (inB n 0 (wrap64 (b.V - 1)))=E at *
 have HC:=hd_ Zgi
 unfold bv at *
 go_enter_defers func32,ntmps32
 go_wp2_with (first
  | (go_at_call 83;refine (HO.out _ bel_ (by simp [go_sem];done)).mono ?_;rintro e w1 ⟨rfl,hb1⟩;refine Za2 ?_))
 unfold Stop
 have b3:Blk w1 (w.heap.size+2) #[()] 31:=(Blk.new' _ _ _ _ sp_).below hb1 ar_
 have hB:w w1:=by exact bel_
 refine leaves_cons (f:=87) (args:=#[.pointer ↑(w.heap.size+2)]) sp_ (by simp [go_sem]) ?_
 refine ((HC.out).1 E (w.heap.size+2) _ b3).mono ?_
 rintro e u' w2 ⟨rfl,rfl,ho,hb⟩
 have hB2:Below w.heap.size w w2:=hB.trans (ho.below hB.size sp_)
 exact Q2y
theorem Zr4 (b:Bn) (ga:Option Addr) (gc:Nat) (pa:Option Addr) (pc:Nat) (n:Int) (w:World) (hg:GsAt w ga b.gs) (hp:PsAt w pa b.ps) (hgl:b.gs.length≤9223372036854775807) (hpl:b.ps.length≤9223372036854775807) (hE:chkE b (inB n 0 b.V)≠0) :
  Calls prog 35 #[bv b ga gc pa pc,n] w fun e w'=>e=.returned (.tuple #[(),(),.int .i64 (chkE b (inB n 0 b.V))])∧Below w.heap.size w w':=by
 have hmf:=hmf_ prog
 have HO:=hd_ (fun w' (hb:Below w.heap.size w w') (hc0:w'.cell? ⟨w.heap.size+1,0,none⟩=some (.int .i64 n))=>Zck b ga gc pa pc 100 #[.pointer ↑(w.heap.size+1)] (inB n 0 b.V) w' (hg.below hb) (hp.below hb) hgl hpl hE (fun args W=>call100 args W) (fun w2 v hb2 h0=>Zh4 v _ b.V n w2 h0 (Za4 hb2 hc0)))
 generalize chkE b (inB n 0 b.V)=E at *
 have HC:=hd_ Zfn
 unfold bv at *
 go_enter_defers func35,ntmps35
 go_wp2_with (first
  | (go_at_call 83;refine (HO.out _ bel_ (by simp [go_sem];done)).mono ?_;rintro e w1 ⟨rfl,hb1⟩;refine Za2 ?_))
 unfold Stop
 have b3:Blk w1 (w.heap.size+2) #[()] 31:=(Blk.new' _ _ _ _ sp_).below hb1 ar_
 have hB:w w1:=by exact bel_
 refine leaves_cons (f:=99) (args:=#[.pointer ↑(w.heap.size+2)]) sp_ (by simp [go_sem]) ?_
 refine ((HC.out).1 E (w.heap.size+2) _ b3).mono ?_
 rintro e u' w2 ⟨rfl,rfl,ho,hb⟩
 have hB2:Below w.heap.size w w2:=hB.trans (ho.below hB.size sp_)
 have r2:=hb.cell
 simp only [settle,Leaves]
 simp [Leaves,settle,results,results35,go_sem,r2]
 exact hB2
def Zpl (n:Nat) (w1:World) (e:Exit) (a:Act) (w:World):Prop :=
 e=.panic [{ v:=Zfr 10,recovered:=false }]∧a.defers=[{ target:=Target.fn (Fn.func 99) #[Value.pointer (some { block:=n+1+1,off:=0 })],args:=#[] }] ∧
 a.tmps.getD 4 undef=↑()∧a.tmps.getD 5 undef=↑()∧a.tmps.getD 6 undef=.pointer ↑(n+1+1)∧w1 w
theorem Zkc (b:Bn) (ga:Option Addr) (gc:Nat) (pa:Option Addr) (pc:Nat) (w:World) (hg:GsAt w ga b.gs) (hp:PsAt w pa b.ps) (hv:valid b=true) (hs:csum (Za6 b.V.toNat b.lo b.hi (knOf b))=0) :
  Calls prog 34 #[bv b ga gc pa pc] w fun e w'=>e=.returned (.tuple #[(),.int .i64 10])∧Below w.heap.size w w':=by
 have hmf:=hmf_ prog
 have HO:=hd_ (fun w' (hb:Below w.heap.size w w')=>Zbo b ga gc pa pc 84 #[] w' (hg.below hb) (hp.below hb) hv (fun args W=>call84 args W) (fun w2 v _ _=>Zcd _ _))
 have HC:=hd_ Zf8
 have HS:=hd_ hs
 clear hs
 unfold bv at *
 go_enter_defers func34,ntmps34
 go_wp2_with (first
  | (go_at_call 83;refine (HO.out _ bel_ ).mono ?_;rintro e w1 ⟨v,ka,kc,rfl,hvt,hb1,hle⟩)
  | (go_at_call 85;refine Za2 ?_))
 unfold Stop
 refine (Zfb hvt HS.out).mono ?_
 rintro e w3 ⟨rfl,hb3⟩
 have b2:Blk w1 (w.heap.size+1) #[()] 31:=(Blk.new' _ _ _ _ sp_).below hb1 ar_
 have b3:=b2.below hb3 b2.lt
 have hB1:w w1:=by exact bel_
 have hB:w w3:=hB1.trans (hb3.mono hB1.size)
 refine leaves_cons (f:=97) (args:=#[.pointer ↑(w.heap.size+1)]) sp_ (by simp [go_sem]) ?_
 refine ((HC.out).1 10 (w.heap.size+1) _ b3).mono ?_
 rintro e u' w4 ⟨rfl,rfl,ho,hb⟩
 have hB2:w w4:=hB.trans (ho.below hB.size sp_)
 exact Q2w
theorem Znm (b:Bn) (ga:Option Addr) (gc:Nat) (pa:Option Addr) (pc:Nat) (w:World) (hg:GsAt w ga b.gs) (hp:PsAt w pa b.ps) (hv:valid b=true) (hs:csum (Za6 b.V.toNat b.lo b.hi (knOf b))=0) :
  Calls prog 33 #[bv b ga gc pa pc] w fun e w'=>e=.returned (.tuple #[(),(),.int .i64 10])∧Below w.heap.size w w':=by
 have hmf:=hmf_ prog
 have HO:=hd_ (fun w' (hb:Below w.heap.size w w')=>Zbo b ga gc pa pc 84 #[] w' (hg.below hb) (hp.below hb) hv (fun args W=>call84 args W) (fun w2 v _ _=>Zcd _ _))
 have HC:=hd_ Zgj
 have HS:=hd_ hs
 clear hs
 unfold bv at *
 go_enter_defers func33,ntmps33
 go_wp2_with (first
  | (go_at_call 83;refine (HO.out _ bel_ ).mono ?_;rintro e w1 ⟨v,ka,kc,rfl,hvt,hb1,hle⟩)
  | (go_at_call 85;refine Za2 ?_))
 unfold Stop
 refine (Zfb hvt HS.out).mono ?_
 rintro e w3 ⟨rfl,hb3⟩
 have b2:Blk w1 (w.heap.size+1) #[()] 31:=(Blk.new' _ _ _ _ sp_).below hb1 ar_
 have b3:=b2.below hb3 b2.lt
 have hB1:w w1:=by exact bel_
 have hB:w w3:=hB1.trans (hb3.mono hB1.size)
 refine leaves_cons (f:=95) (args:=#[.pointer ↑(w.heap.size+1)]) sp_ (by simp [go_sem]) ?_
 refine ((HC.out).1 10 (w.heap.size+1) _ b3).mono ?_
 rintro e u' w4 ⟨rfl,rfl,ho,hb⟩
 have hB2:w w4:=hB.trans (ho.below hB.size sp_)
 exact Q2x
theorem Zkb (b:Bn) (ga:Option Addr) (gc:Nat) (pa:Option Addr) (pc:Nat) (w:World) (hg:GsAt w ga b.gs) (hp:PsAt w pa b.ps) (hv:valid b=true) (hs:csum (Za6 b.V.toNat b.lo b.hi (knOf b))=0) :
  Calls prog 31 #[bv b ga gc pa pc] w fun e w'=>e=.returned (.tuple #[.agg #[(),()],.int .i64 10])∧Below w.heap.size w w':=by
 have hmf:=hmf_ prog
 have HO:=hd_ (fun w' (hb:Below w.heap.size w w')=>Zbo b ga gc pa pc 84 #[] w' (hg.below hb) (hp.below hb) hv (fun args W=>call84 args W) (fun w2 v _ _=>Zcd _ _))
 have HC:=hd_ Zf4
 have HS:=hd_ hs
 clear hs
 unfold bv at *
 go_enter_defers func31,ntmps31
 go_wp2_with (first
  | (go_at_call 83;refine (HO.out _ bel_ ).mono ?_;rintro e w1 ⟨v,ka,kc,rfl,hvt,hb1,hle⟩)
  | (go_at_call 85;refine Za2 ?_))
 unfold Stop
 refine (Zfb hvt HS.out).mono ?_
 rintro e w3 ⟨rfl,hb3⟩
 have b2:Blk w1 (w.heap.size+2) #[()] 31:=(Blk.new' _ _ _ _ sp_).below hb1 ar_
 have b3:=b2.below hb3 b2.lt
 have hB1:w w1:=by exact bel_
 have hB:w w3:=hB1.trans (hb3.mono hB1.size)
 refine leaves_cons (f:=81) (args:=#[.pointer ↑(w.heap.size+2)]) sp_ (by simp [go_sem]) ?_
 refine ((HC.out).1 10 (w.heap.size+2) _ b3).mono ?_
 rintro e u' w4 ⟨rfl,rfl,ho,hb⟩
 have hB2:w w4:=hB.trans (ho.below hB.size sp_)
 have r2:=hb.cell
 have b1:Blk w1 (w.heap.size+1) #[(),()] 23:=((Blk.new' _ _ _ _ sp_).alloc _).below hb1 ar_
 have r3:=(ho.blk (b1.below hb3 b1.lt) (b1.below hb3 b1.lt).lt sp_).cell
 simp only [settle,Leaves]
 simp [Leaves,settle,results,results31,go_sem,r2,r3]
 exact hB2
theorem Znk (b:Bn) (ga:Option Addr) (gc:Nat) (pa:Option Addr) (pc:Nat) (n:Int) (w:World) (hg:GsAt w ga b.gs) (hp:PsAt w pa b.ps) (hv:valid b=true) (hi:(inB n 0 (wrap64 (b.V - 1)))=true) (hs:csum (Za6 b.V.toNat b.lo b.hi (knOf b))=0) :
  Calls prog 32 #[bv b ga gc pa pc,n] w fun e w'=>e=.returned (.tuple #[(),.int .i64 10])∧Below w.heap.size w w':=by
 have hmf:=hmf_ prog
 have HO:=hd_ (fun w' (hb:Below w.heap.size w w') (hc0:w'.cell? ⟨w.heap.size+1,0,none⟩=some (.int .i64 n))=>Zbo b ga gc pa pc 88 #[.pointer ↑(w.heap.size+1)] w' (hg.below hb) (hp.below hb) hv (fun args W=>call88 args W) (fun w2 v hb2 h0=>by have:=Zi1 v _ b.V n w2 h0 (Za4 hb2 hc0);rwa [hi] at this))
 have HC:=hd_ Zgi
 have HS:=hd_ hs
 clear hs
 unfold bv at *
 go_enter_defers func32,ntmps32
 go_wp2_with (first
  | (go_at_call 83;refine (HO.out _ bel_ (by simp [go_sem];done)).mono ?_;rintro e w1 ⟨v,ka,kc,rfl,hvt,hb1,hle⟩)
  | (go_at_call 85;refine Za2 ?_))
 unfold Stop
 refine (Zfb hvt HS.out).mono ?_
 rintro e w3 ⟨rfl,hb3⟩
 have b2:Blk w1 (w.heap.size+2) #[()] 31:=(Blk.new' _ _ _ _ sp_).below hb1 ar_
 have b3:=b2.below hb3 b2.lt
 have hB1:w w1:=by exact bel_
 have hB:w w3:=hB1.trans (hb3.mono hB1.size)
 refine leaves_cons (f:=87) (args:=#[.pointer ↑(w.heap.size+2)]) sp_ (by simp [go_sem]) ?_
 refine ((HC.out).1 10 (w.heap.size+2) _ b3).mono ?_
 rintro e u' w4 ⟨rfl,rfl,ho,hb⟩
 have hB2:w w4:=hB.trans (ho.below hB.size sp_)
 exact Q2y
theorem _root_.Q2i {p:Prop}(h:p:=by
 simp only [List.mem_toArray,List.mem_cons,List.not_mem_nil,or_false] at ho
 rcases ho with rfl|rfl|rfl|rfl|rfl <;> simp):p:=h
theorem Zpg (b:Bn) (ga:Option Addr) (gc:Nat) (pa:Option Addr) (pc:Nat) (n:Int) (w:World) (hg:GsAt w ga b.gs) (hp:PsAt w pa b.ps) (hv:valid b=true) (hi:(inB n 0 b.V)=true) (hs:csum (Za6 b.V.toNat b.lo b.hi (knOf b))=0) :
  Calls prog 35 #[bv b ga gc pa pc,n] w fun e w'=>e=.returned (.tuple #[(),(),.int .i64 10])∧Below w.heap.size w w':=by
 have hmf:=hmf_ prog
 have HO:=hd_ (fun w' (hb:Below w.heap.size w w') (hc0:w'.cell? ⟨w.heap.size+1,0,none⟩=some (.int .i64 n))=>Zbo b ga gc pa pc 100 #[.pointer ↑(w.heap.size+1)] w' (hg.below hb) (hp.below hb) hv (fun args W=>call100 args W) (fun w2 v hb2 h0=>by have:=Zh4 v _ b.V n w2 h0 (Za4 hb2 hc0);rwa [hi] at this))
 have HC:=hd_ Zfn
 have HS:=hd_ hs
 clear hs
 unfold bv at *
 go_enter_defers func35,ntmps35
 go_wp2_with (first
  | (go_at_call 83;refine (HO.out _ bel_ (by simp [go_sem];done)).mono ?_;rintro e w1 ⟨v,ka,kc,rfl,hvt,hb1,hle⟩)
  | (go_at_call 85;refine Za2 ?_))
 have HTo:=hd_ (fun w2 (hb:Below w1.heap.size w1 w2)=>Zfb (hvt.below hb) HS.out)
 refine wp_mono (Q:=Zpl w.heap.size w1) ?_ ?_
 ·have ht3:w1.cell? ⟨w.heap.size+1,0,none⟩=some (.int .i64 n):=by rw [hb1.cell (p:=⟨w.heap.size+1,0,none⟩) ar_];simp [go_sem]
  have hz1:w.heap.size+3≤w1.heap.size:=by have:=hb1.size;simpa using this
  refine Zxw [(0,0),(2,1),(1,2),(3,2),(4,2)] (fun W=>Below w1.heap.size w1 W) kr_ kr_ ?_ br_.drew ?_
  ·rintro c ⟨tm,ds⟩ d v u ⟨o,ho,rfl⟩ h
   have hd:o.dst=some 13∨o.dst=some 14∨o.dst=some 15∨o.dst=some 16∨o.dst=some 17:=Q2i
   unfold Zpl at *
   rcases hd with e|e|e|e|e <;> rw [e] at h <;> simpa [Act.put,Array.getD_eq_getD_getElem?] using h
  ·go_wp2_with (first
    | (go_at_call 85;refine (HTo.out _ bel_).mono ?_;rintro e w3 ⟨rfl,hb3⟩;refine Za2 ?_)
    | ((with_reducible refine Zxd ?_);refine Zxp (ad:=⟨w.heap.size+1,0,none⟩) ↑n rfl rfl ?_ ?_;(focus (intro W hW;obtain ⟨cW,_,zW⟩:=Zba hW rfl;simp [go_sem,cW,↓IntWalk.iteOmega,ht3];done));intro K hK)
    | (refine o_ ?_;intro K hK)|(with_reducible first|refine Zxn ?_ ?_|refine Zxi ?_|refine Zxe bn_ (fun _=>?_)))
   unfold Stop
   refine ⟨rfl,rfl,rfl,rfl,rfl,?_⟩
   exact bel_
 rintro e ⟨tm,ds⟩ w3 ⟨rfl,rfl,h4,h5,h6,hb3⟩
 simp only [Array.getD_eq_getD_getElem?] at h4 h5 h6
 have b2:Blk w1 (w.heap.size+2) #[()] 31:=(Blk.new' _ _ _ _ sp_).below hb1 ar_
 have b3:=b2.below hb3 b2.lt
 have hB1:w w1:=by exact bel_
 have hB:w w3:=hB1.trans (hb3.mono hB1.size)
 refine leaves_cons (f:=99) (args:=#[.pointer ↑(w.heap.size+2)]) sp_ (by simp [go_sem]) ?_
 refine ((HC.out).1 10 (w.heap.size+2) _ b3).mono ?_
 rintro e u' w4 ⟨rfl,rfl,ho,hb⟩
 have hB2:w w4:=hB.trans (ho.below hB.size sp_)
 have r2:=hb.cell
 simp only [settle,Leaves]
 simp [Leaves,settle,results,results35,go_sem,r2,h4,h5,h6]
 exact hB2
end Go.Proofs.YtbapgefodmmikaaGreatDoor
