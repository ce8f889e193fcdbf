/- Parts of a proof. -/
import Derived.Test.YtbapgefodmmikaaGreatDoorLMin
import Derived.Test.YtbapgefodmmikaaGreatDoorL01
import Derived.Maps.AppendAt
import Derived.Laws.ResultCell
import Derived.Laws.Tables
import Derived.Laws.Rows
import Derived.Deep.CutRange
import Derived.Test.YtbapgefodmmikaaGreatDoorL01
set_option linter.unusedVariables false
set_option linter.unusedSimpArgs false
set_option maxHeartbeats 40000000
set_option maxRecDepth 100000
namespace Go.Proofs.YtbapgefodmmikaaGreatDoor
open Go.RowKit Go.Proofs Go.Ord Tryz
def gOk (V:Int) (g:Int × Int × Int):Bool:=inB g.1 0 ((2 ^ V.toNat:Nat) - 1) && Zon g.2.1 g.2.2 8
def pOk (V:Int) (p:Int × Int × Bool):Bool:=inB p.1 0 (V - 1) && inB p.2.1 0 (V - 1) && !(p.1 == p.2.1)
def Ze0 (b:Bn):Bool:=inB b.V 1 8 && inB b.nd 0 b.V && Zon b.lo b.hi b.V && decide (b.gs.length≤4) && decide (b.ps.length≤4)
def valid (b:Bn):Bool:=Ze0 b && b.gs.all (gOk b.V) && b.ps.all (pOk b.V)
def Zt1 (x y:Nat):Nat→Nat
 | 0=>0
 | k+1=>Zt1 x y k+(hasB x k && hasB y k).toNat
theorem Zds {n lo hi:Int}(h:inB n lo hi=true):lo≤n∧n≤hi:=by simpa [inB] using h
theorem Zwp {b:Bn}(h:Ze0 b=false):valid b=false:=by simp [valid,h]
theorem gOk_no {b:Bn}{k:Nat}(hk:k < b.gs.length) (h:gOk b.V b.gs[k]=false):valid b=false:=by
 have:b.gs.all (gOk b.V)=false:=by
  cases hx:b.gs.all (gOk b.V)
  ·rfl
  ·have:=List.all_eq_true.1 hx _ (List.getElem_mem hk);rw [h] at this;cases this
 simp [valid,this]
theorem pOk_no {b:Bn}{k:Nat}(hk:k < b.ps.length) (h:pOk b.V b.ps[k]=false):valid b=false:=by
 have:b.ps.all (pOk b.V)=false:=by
  cases hx:b.ps.all (pOk b.V)
  ·rfl
  ·have:=List.all_eq_true.1 hx _ (List.getElem_mem hk);rw [h] at this;cases this
 simp [valid,this]
theorem Zt4 {α:Type}(l:List α) (f:α→Bool) (k:Nat) (hk:k < l.length) (h:(l.take k).all f=true) (h1:f l[k]=true):(l.take (k+1)).all f=true:=by
 rw [List.take_succ_eq_append_getElem hk,List.all_append,h]
 simp [h1]
def Zvf (b:Bn) (i wh:Nat):Bool :=
 if h:i < b.gs.length then inB (Zt1 b.gs[i].1.toNat wh 8:Nat) b.gs[i].2.1 b.gs[i].2.2
 else if h:i - b.gs.length < b.ps.length then (hasB wh b.ps[i - b.gs.length].1.toNat == hasB wh b.ps[i - b.gs.length].2.1.toNat) == b.ps[i - b.gs.length].2.2
 else true
abbrev Bn.kn (b:Bn):Nat:=b.gs.length+b.ps.length
theorem Zd6 {b:Bn}(h:valid b=true):Ze0 b=true:=by simp only [valid,Bool.and_eq_true] at h;exact h.1.1
theorem Zb6 {b:Bn}(h:valid b=true):1≤b.V∧b.V≤8:=by
 have:=Zd6 h;simp only [Ze0,Bool.and_eq_true] at this;exact Zds this.1.1.1.1
theorem Zry {b:Bn}(h:valid b=true):0≤b.nd∧b.nd≤b.V:=by
 have:=Zd6 h;simp only [Ze0,Bool.and_eq_true] at this;exact Zds this.1.1.1.2
theorem Zrx {b:Bn}(h:valid b=true):0≤b.lo∧b.lo≤b.hi∧b.hi≤b.V:=by
 have:=Zd6 h;simp only [Ze0,Bool.and_eq_true] at this;simpa [Zon] using this.1.1.2
theorem Zuz {b:Bn}(h:valid b=true):b.gs.length≤4∧b.ps.length≤4:=by
 have:=Zd6 h;simp only [Ze0,Bool.and_eq_true,decide_eq_true_eq] at this;exact ⟨this.1.2,this.2⟩
theorem Zv0 {b:Bn}(h:valid b=true) {i:Nat}(hi:i < b.gs.length):0≤b.gs[i].1∧b.gs[i].1 < 2 ^ b.V.toNat∧b.gs[i].1 < 256∧0≤b.gs[i].2.1∧b.gs[i].2.1≤b.gs[i].2.2∧b.gs[i].2.2≤8:=by
 have hV:=Zb6 h
 simp only [valid,Bool.and_eq_true] at h
 have h1:=List.all_eq_true.1 h.1.2 _ (List.getElem_mem hi)
 simp only [gOk,Bool.and_eq_true] at h1
 have h2:=Zds h1.1
 have h3:0≤b.gs[i].2.1∧b.gs[i].2.1≤b.gs[i].2.2∧b.gs[i].2.2≤8:=by simpa [Zon] using h1.2
 have h4:2 ^ b.V.toNat≤2 ^ 8:=Nat.pow_le_pow_right om_ om_
 have h5:((2 ^ b.V.toNat:Nat):Int)≤256:=by have:(2:Nat) ^ 8=256:=rfl;omega
 refine ⟨h2.1,?_,om_,h3⟩
 have:((2:Int) ^ b.V.toNat)=((2 ^ b.V.toNat:Nat):Int):=by simp
 omega
theorem Zuy {b:Bn}(h:valid b=true) {i:Nat}(hi:i < b.ps.length):0≤b.ps[i].1∧b.ps[i].1 < b.V∧0≤b.ps[i].2.1∧b.ps[i].2.1 < b.V∧b.ps[i].1≠b.ps[i].2.1:=by
 simp only [valid,Bool.and_eq_true] at h
 have h1:=List.all_eq_true.1 h.2 _ (List.getElem_mem hi)
 simp only [pOk,Bool.and_eq_true] at h1
 have h2:=Zds h1.1.1
 have h3:=Zds h1.1.2
 have h4:b.ps[i].1≠b.ps[i].2.1:=by simpa using h1.2
 exact ⟨h2.1,om_,h3.1,om_,h4⟩
theorem Ze9 {W w':World}{base:Nat}{e:TypeId}{size:Nat}{v:Value}{n:Nat}{xs:List Value}(h:W.ownsRow base e size v n xs) (hb:W w'):w'.ownsRow base e size v n xs:=by
 obtain ⟨h1,h2⟩:=h
 refine ⟨h1,h2.imp id ?_⟩
 rintro ⟨g,cap,cur,hv,hg,hh,r⟩
 exact ⟨g,cap,cur,hv,hg,(hb.block g (Array.getElem?_eq_some_iff.1 hh).1).trans hh,r⟩
def Zmn (w:World) (a:Option Addr) (l:List Nat):Prop :=
 ∀ i,(h:i < l.length)→∃ b o,a=some ⟨b,o,none⟩∧w.cell? ⟨b,o+i,none⟩=some (.int .i64 (l[i]:Nat))
def okTo (b:Bn) (set wh:Nat):Nat→Bool
 | 0=>inB (sz wh:Nat) b.lo b.hi
 | k+1=>okTo b set wh k && (!hasB set k || Zvf b k wh)
def okB (b:Bn) (set wh:Nat):Bool:=okTo b set wh b.kn
def Zes (b:Bn) (set:Nat):List Nat:=(List.range (2 ^ b.V.toNat)).filter (okB b set)
def TL (b:Bn):List Nat:=Zes b (2 ^ b.kn - 1)
def chkE (b:Bn) (vb:Bool):Int:=if valid b=false then 1 else if vb=false then 2 else 0
def Zdm (b:Bn) (vb:Bool):Int:=if valid b=false then 1 else if vb=false then 2 else if TL b=[] then 10 else 0
def cntH (l:List Nat) (v:Nat):Nat:=l.countP (fun x=>hasB x v)
def Zhy (n all:Nat):Int:=if n=all then 2 else if n=0 then 0 else 1
def Zik (f:Nat→Bool):Nat→Nat
 | 0=>0
 | k+1=>Zik f k+if f k then 2 ^ k else 0
theorem Zwb (f:Nat→Bool) (k:Nat):Zik f k < 2 ^ k:=by
 induction k with
 | zero=>simp [Zik]
 | succ k ih=>simp only [Zik];rw [Nat.pow_succ];split <;> omega
def Zkv (l:List Nat) (V:Nat):Nat:=Zik (fun v=>cntH l v == l.length) V
def Zmj (l:List Nat) (V:Nat):Nat:=Zik (fun v=>cntH l v == 0) V
def Zhj (l:List Nat) (m:Int):List Nat:=l.filter (fun x=>decide ((sz x:Int)=m))
def Zat (a b:Value) (w:World) (e:Ending) (w':World):Prop:=e=.returned (.tuple #[a,b])∧w w'
def Zfm (a b c:Value) (w:World) (e:Ending) (w':World):Prop:=e=.returned (.tuple #[a,b,c])∧w w'
theorem Zvg {a b:Value}(h:a=b):Ending.returned a=.returned b:=by rw [h]
theorem b_sum (l:List Nat) (a:Option Addr) (c:Nat) (hl:l.length≤1000000) (hs:l.sum < 2 ^ 62) (w:World) (hI:Zmn w a l) :
  Calls prog 98 #[.slice a l.length c] w (Same (.int .i64 (l.sum:Nat)) w):=by
 have hs':l.sum < 4611686018427387904:=hs
 have HS:Hid (∀ k,(h:k < l.length)→(l.take (k+1)).sum=(l.take k).sum+l[k]):=by
  intro k h;rw [List.take_succ_eq_append_getElem h,List.sum_append];simp
 have HL:Hid (∀ k,(l.take k).sum≤l.sum):=by
  intro k
  have:=congrArg List.sum (List.take_append_drop k l)
  rw [List.sum_append] at this;omega
 have HE:Hid ((l.take l.length).sum=l.sum):=by show _=_;rw [List.take_length]
 generalize l.sum=S at *
 clear hs
 go_enter func98,ntmps98
 go_wp2
 go_loop [2,7] (fun n i=>∃ k q:Nat,k≤l.length∧Hid (q=(l.take k).sum)∧i=.int .i64 k∧n=↑q) (fun _ i=>l.length - (intOf i).toNat)
 case atStart=>exact ⟨0,0,om_,rfl,rfl,rfl⟩
 case round =>
  obtain ⟨k,q,hk,hq,rfl,rfl⟩:=hrel
  by_cases hlt:k < l.length
  ·obtain ⟨b,o,rfl,e1⟩:=hI k hlt
   have hlt':(k:Int) < l.length:=by omega
   have h1:=HS.out k hlt
   have h2:=HL.out (k+1)
   rw [h1,← hq.out] at h2
   have H1:=hd_ h1
   clear h1 hI HS HL
   generalize l[k]=x at *
   go_wp2
   refine ⟨⟨k+1,q+x,om_,?_,by go_num,by go_num⟩,by simp [intOf];omega⟩
   show _=_;rw [H1.out,← hq.out]
  ·have:k=l.length:=by omega
   subst this
   go_wp2
   go_ret
   refine ⟨Zdv ?_,rfl⟩
   rw [← HE.out,hq.out]
abbrev cv (c:Nat→Nat):Value:=.agg #[(c 0),(c 1),(c 2),(c 3),(c 4),(c 5),(c 6),(c 7),(c 8)]
def cl (c:Nat→Nat):List Nat:=[c 0,c 1,c 2,c 3,c 4,c 5,c 6,c 7,c 8]
def csum (c:Nat→Nat):Nat:=c 0+c 1+c 2+c 3+c 4+c 5+c 6+c 7+c 8
theorem Zxc (c:Nat→Nat):(cl c).sum=csum c:=by simp [cl,csum];omega
theorem _root_.Q2n {p:Prop}(h:p:=by
 rcases (show i=0∨i=1∨i=2∨i=3∨i=4∨i=5∨i=6∨i=7∨i=8 by omega) with rfl|rfl|rfl|rfl|rfl|rfl|rfl|rfl|rfl <;> rfl):p:=h
theorem cl_get (c:Nat→Nat) (i:Nat) (h:i < 9):(cl c)[i]? = some (c i):=Q2n
theorem Zpo (c:Nat→Nat) (i:Nat) (h:i < 9):(#[(c 0),(c 1),(c 2),(c 3),(c 4),(c 5),(c 6),(c 7),(c 8)]:Array Value)[i]? = some (.int .i64 (c i)):=Q2n
theorem cl_at (c:Nat→Nat) (w:World) (t:TypeId):Zmn (w.alloc (.cells #[(c 0),(c 1),(c 2),(c 3),(c 4),(c 5),(c 6),(c 7),(c 8)] t)) w.heap.size (cl c):=by
 intro i hi
 refine ⟨_,_,rfl,?_⟩
 have h9:i < 9:=hi
 rw [World.cell?_alloc_ite,if_pos rfl,Nat.zero_add,Zpo c i h9]
 have:=cl_get c i h9
 rw [List.getElem?_eq_getElem hi] at this
 simp only [Option.some.injEq] at this
 rw [this]
theorem Zrr (c:Nat→Nat) (hs:csum c < 2 ^ 62) (w:World) :
  Calls prog 90 #[cv c] w (Zak (.int .i64 (csum c:Nat)) w):=by
 have HX:=hd_ (fun w' a cc hI=>b_sum (cl c) a cc (by simp [cl]) (by rw [Zxc];exact hs) w' hI)
 have HA:=hd_ (cl_at c w 142)
 rw [Zxc] at HX
 generalize csum c=S at *
 unfold cv
 go_enter func90,ntmps90
 go_wp2_with (go_at_call 98;refine (HX.out _ _ _ HA.out).mono ?_;rintro e w' ⟨rfl,rfl⟩)
 go_ret
 exact ⟨rfl,br_.alloc nl_ _⟩
theorem Zxq (c:Nat→Nat) (x:Int) (n:Nat) (hx:x=n) (hn:n < 9) (w:World) :
  Calls prog 86 #[cv c,x] w (Zak (.bool (decide (0 < c n))) w):=by
 subst hx
 have hc:=Zpo c n hn
 generalize hv:(#[(c 0),(c 1),(c 2),(c 3),(c 4),(c 5),(c 6),(c 7),(c 8)]:Array Value)=A at *
 have hsz:A.size=9:=by rw [← hv];rfl
 have hg:A[n]'om_=.int .i64 (c n):=by rw [Array.getElem?_eq_getElem om_] at hc;simpa using hc
 unfold cv
 rw [hv]
 clear hv
 go_enter func86,ntmps86
 go_wp2
 go_ret
 refine ⟨Zd3 ?_,br_.alloc nl_ _⟩
 simp
abbrev gv (vo:Nat) (lo hi:Int):Value:=.iface 234 (.agg #[.int .u64 vo,lo,hi])
abbrev pv (a b:Int) (s:Bool):Value:=.iface 236 (.agg #[.int .u64 0,(),(),a,b,.bool s])
theorem Zus (n:Nat) (hn:n < 9):IntKind.u64.wrap (2 ^ n)=((2 ^ n:Nat):Int):=by
 rcases (show n=0∨n=1∨n=2∨n=3∨n=4∨n=5∨n=6∨n=7∨n=8 by omega) with rfl|rfl|rfl|rfl|rfl|rfl|rfl|rfl|rfl <;> rfl
theorem b_one (x:Int) (n:Nat) (hx:x=n) (hn:n < 9) (white:Bool) (w:World) :
  Calls prog 94 #[x,.bool white] w (Zak (gv (2 ^ n) (if white then 1 else 0) (if white then 1 else 0)) w):=by
 subst hx
 have HP:=hd_ (Zus n hn)
 cases white
 ·go_enter func94,ntmps94
  go_wp2
  go_ret
  refine ⟨Zvg (by simp [HP.out]),by exact bel_⟩
 ·go_enter func94,ntmps94
  go_wp2
  go_ret
  refine ⟨Zvg (by simp [HP.out]),by exact bel_⟩
end Go.Proofs.YtbapgefodmmikaaGreatDoor
namespace Go.Ord
section
variable {P:Program}{H:World→Prop}{Q:Exit→Act→World→Prop}{k:Nat}{l:List (Nat × Nat)}{a:Act}{w:World}{lo:List Oper}
variable {d:Option Tmp}{ty t:TypeId}{pos:String}{af:Array Edge}{g:Option (Nat × Bool)}{x y i:Operand}
theorem Zyw (v:Value) (ho:lo[k]? = some ⟨d,.indexAddr t x i,ty,pos,af,g⟩) (hv:∀ W,H W→Zyr P ⟨d,.indexAddr t x i,ty,pos,af,g⟩ a W v)
  (h:∀ K:Act→World→Prop,(∀ a,walk P lo.toArray H Q l a w→K a w)→wpList P lo.toArray (Exit.then K (fun _ _ _=>False)) [⟨d,.move (.const v),ty,pos,af,g⟩] a w):walk P lo.toArray H Q ((k,1) :: l) a w :=
 Zyt ho v hv h
theorem wild_build (v:Value) {fs:Array (Nat × Operand)}(ho:lo[k]? = some ⟨d,.build t fs,ty,pos,af,g⟩) (hv:∀ W,H W→Zyr P ⟨d,.build t fs,ty,pos,af,g⟩ a W v)
  (h:∀ K:Act→World→Prop,(∀ a,walk P lo.toArray H Q l a w→K a w)→wpList P lo.toArray (Exit.then K (fun _ _ _=>False)) [⟨d,.move (.const v),ty,pos,af,g⟩] a w):walk P lo.toArray H Q ((k,1) :: l) a w :=
 Zyt ho v hv h
end
end Go.Ord
namespace Go.Ord
section
variable {P:Program}{ops:Array Oper}{H:World→Prop}{Q:Exit→Act→World→Prop}{eff:Nat→Bool}
def Qn (Q:Exit→Act→World→Prop) (R:Act→World→Prop):Exit→Act→World→Prop
 | .normal,a,w=>R a w
 | e,a,w=>Q e a w
def pre (ops:Array Oper) (eff:Nat→Bool):List (Nat × Nat)→Array Bool→Option (Array Bool)
 | [],listed=>some listed
 | (k,c) :: l,listed =>
  if !eff k && decide (c < 2) && (Region.ready .any ops listed).contains k && Region.free .any ops listed k && (c == 1 || calm ops eff k listed) then pre ops eff l (listed.setIfInBounds k true) else none
theorem _root_.Q16 {p:Prop}(h:p:=by
 exact any_calm ho he (Region.noSelect_spec hs) (fun c a w=>hQ c a _ _ w) (l.length+m) listed a hL (Region.free_spec ho hf) hr' (.inl ⟨hwt,fun w' e=>by subst e;exact h1⟩) (ih _ _ hw h2)):p:=h
theorem _root_.Q18 {p:Prop}(h:p:=by
 have hwt':Region.wanted o (yielded ops a.tmps)=false:=by simpa using hwt
 simp only [hwt',Bool.false_eq_true,if_false] at h
 exact any_first ho he (Region.noSelect_spec hs) (fun c a w=>hQ c a _ _ w) (l.length+m) listed a w hw (Region.free_spec ho hf) hr' (.inr ⟨hwt',rfl⟩) (ih _ _ hw h)):p:=h
theorem _root_.Q1o {p:Prop}(h:p:=by
 obtain ⟨v,h1,h2⟩:=h
 exact any_first ho he (Region.noSelect_spec hs) (fun c a w=>hQ c a _ _ w) (l.length+m) listed a w hw (Region.free_spec ho hf) hr' (.inl ⟨hwt,h1⟩) (ih _ _ hw h2)):p:=h
theorem Zml {R:Act→World→Prop}{m:Nat}{L:Array Bool}(hs:Region.noSelect ops=true) (hQ:∀ c a d v w,Q (.panic c) (a.put d v) w→Q (.panic c) a w)
  (hR:∀ a w,H w→R a w→any P ops eff H Q m L a w) :
  ∀ (l:List (Nat × Nat)) (listed:Array Bool) (a:Act) (w:World),listed.size=ops.size→H w →
  pre ops eff l listed=some L→walk P ops H (Qn Q R) l a w→any P ops eff H Q (l.length+m) listed a w
 | [],listed,a,w,_,hw,hB,h=>by
  simp only [pre,Option.some.injEq] at hB
  subst hB
  simp only [List.length_nil,Nat.zero_add]
  exact hR a w hw h
 | (k,c) :: l,listed,a,w,hsz,hw,hB,h=>by
  rw [pre] at hB
  split at hB
  ·rename_i hb
   simp only [Bool.and_eq_true,Bool.or_eq_true,beq_iff_eq,decide_eq_true_eq,Bool.not_eq_true'] at hb
   obtain ⟨⟨⟨⟨he,hc2⟩,hr⟩,hf⟩,hcc⟩:=hb
   rw [walk] at h
   cases ho:ops[k]? with
   | none=>simp only [ho] at h
   | some o =>
    simp only [ho] at h
    have hsz':(listed.setIfInBounds k true).size=ops.size:=by simp [hsz]
    have ih:∀ a w,H w→walk P ops H (Qn Q R) l a w→any P ops eff H Q (l.length+m) (listed.setIfInBounds k true) a w:=fun a w h1 h2=>Zml hs hQ hR l _ a w hsz' h1 hB h2
    have hr':k∈Region.ready .any ops listed:=by simpa using hr
    have hlen:((k,c) :: l).length+m=l.length+m+1:=by simp;omega
    rw [hlen]
    by_cases hwt:Region.wanted o (yielded ops a.tmps)=true
    ·simp only [hwt,if_true] at h
     match c,hc2,h with
     | 0,_,h =>
      obtain ⟨v,h1,h2⟩:=h
      have hcalm:calm ops eff k listed=true:=hcc.resolve_left sp_
      obtain ⟨L',hL⟩:=Zdj hsz hcalm
      exact Q16
     | 1,_,h =>exact Q1o
     | (n+2),hc2,_=>exact absurd hc2 om_
    ·exact Q18
  ·cases hB
theorem Zm6 {l:List (Nat × Nat)}{listed:Array Bool}{k:Nat}{a:Act}{w:World}(hs:Region.noSelect ops=true) (hQ:∀ c a d v w,Q (.panic c) (a.put d v) w→Q (.panic c) a w)
  (hsz:listed.size=ops.size) (hw:H w) (he:eff k=true) (hB:plan ops eff l (listed.setIfInBounds k true)=true) (h:walk P ops H Q ((k,2) :: l) a w) :
  op P ops eff H Q k (any P ops eff H Q l.length (listed.setIfInBounds k true)) a w:=by
 rw [walk] at h
 cases ho:ops[k]? with
 | none=>simp only [ho] at h
 | some o =>
  simp only [ho] at h
  have hsz':(listed.setIfInBounds k true).size=ops.size:=by simp [hsz]
  have ih:∀ a w,H w→walk P ops H Q l a w→any P ops eff H Q l.length (listed.setIfInBounds k true) a w:=fun a w h1 h2=>any_of_walk hs hQ l _ a w hsz' h1 hB h2
  exact Q3g
def forkOk (ops:Array Oper) (l0:List (Nat × Nat)) (k1:Nat) (l1:List (Nat × Nat)) (k2:Nat) (l2:List (Nat × Nat)):Bool :=
 let eff:=fun i=>i == k1 || l1.any fun (k,c)=>k == i && c == 2
 Region.noSelect ops && l0.length+l1.length+1 == ops.size && l1.length == l2.length && eff k2 &&
 match pre ops eff l0 (Array.replicate ops.size false) with
 | none=>false
 | some L=>decide (L.size=ops.size) && decide (Region.ready .any ops L=[k1,k2]) && plan ops eff l1 (L.setIfInBounds k1 true) && plan ops eff l2 (L.setIfInBounds k2 true)
def Fork (P:Program) (ops:Array Oper) (H:World→Prop) (Q:Exit→Act→World→Prop) (k1:Nat) (l1:List (Nat × Nat)) (k2:Nat) (l2:List (Nat × Nat)) (a:Act) (w:World):Prop :=
 walk P ops H Q ((k1,2) :: l1) a w∧walk P ops H Q ((k2,2) :: l2) a w
theorem wp_fork {id:Nat}{a:Act}{w:World}{lo:List Oper}(l0:List (Nat × Nat)) (k1:Nat) (l1:List (Nat × Nat)) (k2:Nat) (l2:List (Nat × Nat)) (H:World→Prop) (hm:P.follows .mixedOrders=true)
  (hp:forkOk lo.toArray l0 k1 l1 k2 l2=true)
  (hQ:∀ c a d v w,Q (.panic c) (a.put d v) w→Q (.panic c) a w) (hH:H w.drew)
  (h:walk P lo.toArray H (Qn Q (Fork P lo.toArray H Q k1 l1 k2 l2)) l0 a w.drew):(Code.region id lo.toArray true).wp P Q a w:=by
 simp only [forkOk,Bool.and_eq_true,beq_iff_eq] at hp
 obtain ⟨⟨⟨⟨hs,hl⟩,hl2⟩,he2⟩,hp⟩:=hp
 cases hpre:pre lo.toArray (fun i=>i == k1 || l1.any fun (k,c)=>k == i && c == 2) l0 (Array.replicate lo.toArray.size false) with
 | none=>simp only [hpre] at hp;cases hp
 | some L =>
  simp only [hpre,Bool.and_eq_true,decide_eq_true_eq] at hp
  obtain ⟨⟨⟨hsz,hr⟩,hp1⟩,hp2⟩:=hp
  have he1:(fun i=>i == k1 || l1.any fun (k,c)=>k == i && c == 2) k1=true:=by simp
  refine wp_region_any hm (wpAny_of_any (H:=H) (eff:=fun i=>i == k1 || l1.any fun (k,c)=>k == i && c == 2) _ _ _ _ ?_)
  have h2:=Zml (m:=l1.length+1) (R:=Fork P lo.toArray H Q k1 l1 k2 l2) (L:=L) (H:=H) (P:=P) hs hQ (fun a w hw hf=>?_) l0 (Array.replicate lo.toArray.size false) a w.drew sp_ hH hpre h
  ·have e1:l0.length+(l1.length+1)=lo.toArray.size:=by omega
   rw [e1] at h2
   exact h2
  ·refine ⟨fun h0=>(by rw [h0] at hr;cases hr),fun j hj=>?_⟩
   rw [hr] at hj
   rcases List.mem_cons.1 hj with rfl|hj
   ·exact Zm6 hs hQ hsz hw he1 hp1 hf.1
   ·have hj2:j=k2:=by simpa using hj
    subst hj2
    have:=Zm6 (l:=l2) hs hQ hsz hw he2 hp2 hf.2
    rw [← hl2] at this
    exact this
end
section
variable {P:Program}{H:World→Prop}{Q:Exit→Act→World→Prop}{a:Act}{w:World}{lo:List Oper}{k1 k2:Nat}{l1 l2:List (Nat × Nat)}
theorem Zyo (h1:walk P lo.toArray H Q ((k1,2) :: l1) a w) (h2:walk P lo.toArray H Q ((k2,2) :: l2) a w):walk P lo.toArray H (Qn Q (Fork P lo.toArray H Q k1 l1 k2 l2)) [] a w:=⟨h1,h2⟩
end
end Go.Ord
namespace Go.Proofs.YtbapgefodmmikaaGreatDoor
open Go.RowKit Go.Proofs Go.Ord Tryz
abbrev Ti:=Nat→Nat × Bool
def Zaj (t:Ti):Array Value:=#[.int .i64 (t 0).1,.bool (t 0).2,.int .i64 (t 1).1,.bool (t 1).2,.int .i64 (t 2).1,.bool (t 2).2,.int .i64 (t 3).1,.bool (t 3).2,
 .int .i64 (t 4).1,.bool (t 4).2,.int .i64 (t 5).1,.bool (t 5).2,.int .i64 (t 6).1,.bool (t 6).2,.int .i64 (t 7).1,.bool (t 7).2]
def tupd (t:Ti) (i:Nat) (x:Nat × Bool):Ti:=fun j=>if j=i then x else t j
theorem Zbk (t:Ti):(Zaj t).size=16:=rfl
theorem _root_.Q2u {p:Prop}(h:p:=by
 rcases (show i=0∨i=1∨i=2∨i=3∨i=4∨i=5∨i=6∨i=7 by omega) with rfl|rfl|rfl|rfl|rfl|rfl|rfl|rfl <;> rfl):p:=h
theorem Zdc (t:Ti) (i:Nat) (h:i < 8):(Zaj t)[i * 2]? = some (.int .i64 (t i).1):=Q2u
theorem Zcl (t:Ti) (i:Nat) (h:i < 8):(Zaj t)[i * 2+1]? = some (.bool (t i).2):=Q2u
theorem Zkx (t:Ti) (i:Nat) (h:i < 8) (x:Nat) (s:Bool):((Zaj t).setIfInBounds (i * 2) ↑x).setIfInBounds (i * 2+1) (.bool s)=Zaj (tupd t i (x,s)):=by
 rcases (show i=0∨i=1∨i=2∨i=3∨i=4∨i=5∨i=6∨i=7 by omega) with rfl|rfl|rfl|rfl|rfl|rfl|rfl|rfl <;> simp [Zaj,tupd]
def Zi0:Ti:=fun i=>(i,true)
def Zcj (k:Nat):Ti:=fun i=>if i < k then (i,true) else (0,false)
theorem Zpd:Zaj (Zcj 8)=Zaj Zi0:=by simp [Zaj,Zcj,Zi0]
theorem Zeb:Zaj (Zcj 0)=#[.int .i64 0,.bool false,.int .i64 0,.bool false,.int .i64 0,.bool false,.int .i64 0,.bool false,.int .i64 0,.bool false,.int .i64 0,.bool false,.int .i64 0,.bool false,.int .i64 0,.bool false]:=by simp [Zaj,Zcj]
theorem Zrb (k:Nat) (h:k < 8):Zaj (tupd (Zcj k) k (k,true))=Zaj (Zcj (k+1)):=by
 congr 1
 funext j
 simp only [tupd,Zcj]
 by_cases h1:j=k
 ·subst h1;simp
 ·by_cases h2:j < k
  ·rw [if_neg h1,if_pos h2,if_pos om_]
  ·rw [if_neg h1,if_neg h2,if_neg om_]
theorem b_free (w:World):Calls prog 191 #[] w (Zak (.agg (Zaj Zi0)) w):=by
 go_enter func191,ntmps191
 go_wp2
 go_loopw [2] (fun i wr=>∃ k:Nat,k≤8∧i=↑k∧wr=w.alloc (.cells (Zaj (Zcj k)) 240)) (fun i _=>8 - (intOf i).toNat)
 case atStart=>exact ⟨0,om_,rfl,by rw [Zeb]⟩
 case round =>
  obtain ⟨k,hk,rfl,rfl⟩:=hrel
  by_cases hlt:k < 8
  ·have HS:=hd_ (Zkx (Zcj k) k hlt k true)
   have hsz:=Zbk (Zcj k)
   have hc1:=Zdc (Zcj k) k hlt
   have hc2:=Zcl (Zcj k) k hlt
   generalize Value.int .i64 ((Zcj k k).1:Nat)=x1 at *
   generalize Value.bool (Zcj k k).2=x2 at *
   generalize Zaj (Zcj k)=A at *
   go_wp2
   refine ⟨⟨k+1,om_,by go_num,?_⟩,by simp [intOf];omega⟩
   rw [HS.out,Zrb k hlt]
  ·have:k=8:=by omega
   subst this
   rw [Zpd]
   generalize hA:Zi0=t at *
   clear hA
   unfold Zaj
   go_wp2
   (try simp only [Exit.inBlock,Exit.then])
   refine bodyPost_ret (v:=.agg (Zaj t)) (by simp [results,results191,go_sem,Zaj];done) rfl ⟨rfl,?_⟩
   exact bel_
end Go.Proofs.YtbapgefodmmikaaGreatDoor
namespace Go
open Go.RowKit
def Blk (w:World) (b:Nat) (A:Array Value) (t:TypeId):Prop:=w.heap[b]? = some (.cells A t (0,0))
namespace Blk
variable {w w':World}{b:Nat}{A:Array Value}{t:TypeId}
theorem lt (h:Blk w b A t):b < w.heap.size:=lt_of_block h
theorem cell (h:Blk w b A t):∀ i,w.cell? ⟨b,i,none⟩=A[i]?:=fun i=>cell_of_row w b i A t (0,0) h
theorem free (h:Blk w b A t):∀ i,w.frozen? ⟨b,i,none⟩=false:=fun i=>frozen_of_row w b i A t h
theorem new (w:World) (A:Array Value) (t:TypeId):Blk (w.alloc (.cells A t)) w.heap.size A t:=by
 show (w.heap.push _)[w.heap.size]? = _
 simp
theorem new' (w:World) (A:Array Value) (t:TypeId) (n:Nat) (hn:w.heap.size=n):Blk (w.alloc (.cells A t)) n A t:=by subst hn;exact new w A t
theorem alloc (h:Blk w b A t) (o:Obj):Blk (w.alloc o) b A t:=(Below.heap_alloc w o b h.lt).trans h
theorem drew (h:Blk w b A t):Blk w.drew b A t:=h
theorem set (h:Blk w b A t) (i:Nat) (v:Value):Blk (w.setCell ⟨b,i,none⟩ v) b (A.setIfInBounds i v) t:=heap_setCell_same w b i A t v h
theorem other (h:Blk w b A t) {p:Addr}(hp:b≠p.block) (v:Value):Blk (w.setCell p v) b A t:=(Below.heap_setCell w p v b hp).trans h
theorem below {n:Nat}(h:Blk w b A t) (hb:Below n w w') (hn:b < n):Blk w' b A t:=(hb.block b hn).trans h
theorem setRow (h:Blk w b A t) (B:Array Value):Blk (w.setRow b B) b B t:=setRow_heap w b A B t (0,0) h
theorem setRow_other (h:Blk w b A t) (g:Nat) (hg:b≠g) (B:Array Value):Blk (w.setRow g B) b A t:=(Go.setRow_other w g b B hg).trans h
end Blk
def Zdw (P:Program) (ty:TypeId) (n:Nat):Prop:=∃ d,P.underlying ty=some d∧(match d with | .struct _ | .array _ _=>true|_=>false)=true∧(P.info? ty).map (·.size)=some n
structure Rowed (w:World) (b:Nat) (B:Array Value) (t:TypeId) (w':World):Prop where
 blk:Blk w' b B t
 size:w'.heap.size=w.heap.size
 heap:∀ k,k≠b→w'.heap[k]? = w.heap[k]?
 cell:∀ c i,w'.cell? ⟨c,i,none⟩=if c=b then B[i]? else w.cell? ⟨c,i,none⟩
 free:∀ c i,w'.frozen? ⟨c,i,none⟩=if c=b then false else w.frozen? ⟨c,i,none⟩
 other:∀ {c:Nat}{A:Array Value}{u:TypeId},Blk w c A u→c≠b→Blk w' c A u
 below:∀ {n:Nat}{W:World},Below n W w→n≤b→Below n W w'
theorem Rowed.of {w:World}{b:Nat}{A B:Array Value}{t:TypeId}(h:Blk w b A t):Rowed w b B t (w.setRow b B) where
 blk:=h.setRow B
 size:=by simp
 heap k hk:=Go.setRow_other w b k B hk
 cell c i:=by
  by_cases hc:c=b
  ·subst hc;rw [if_pos rfl];exact (h.setRow B).cell i
  ·rw [if_neg hc];exact cell_setRow_other w b B ⟨c,i,none⟩ hc
 free c i:=by
  by_cases hc:c=b
  ·subst hc;rw [if_pos rfl];exact (h.setRow B).free i
  ·rw [if_neg hc];simp [World.frozen?,Go.setRow_other w b c B hc]
 other h' hc:=h'.setRow_other b hc B
 below hb hn:=hb.trans ⟨rfl,rfl,rfl,sp_,fun k hk=>Go.setRow_other w b k B om_⟩
section
variable {P:Program}{ops:Array Oper}{rest:List Oper}{o:Oper}{a:Act}{w:World}{Q:Exit→Act→World→Prop}
theorem Za0 (ty:TypeId) (x:Operand) {n:Nat}(hk:Zdw P ty n) (hgd:o.guard=none) (ho:o.op=.load ty x) {b:Nat}(hx:a.eval x=.pointer b) {A:Array Value}{t:TypeId}(hb:Blk w b A t) (hs:A.size=n)
  (h:wpList P ops Q rest (a.put o.dst (.agg A)) w):wpList P ops Q (o :: rest) a w:=by
 obtain ⟨d,hu,hd,hi⟩:=hk
 subst hs
 exact wpList_load_row hgd ty x ho b hx t A (0,0) d hb hu (by cases d <;> simp at hd ⊢) hi h
theorem Za1 (ty:TypeId) (x y:Operand) {n:Nat}(hk:Zdw P ty n) (hgd:o.guard=none) (ho:o.op=.store ty x y) {b:Nat}(hx:a.eval x=.pointer b) {B:Array Value}(hy:a.eval y=.agg B) {A:Array Value}{t:TypeId}(hb:Blk w b A t) (hA:A.size=n) (hB:B.size=n)
  (h1:B.all (·.oneCell')=true) (h:∀ w',Rowed w b B t w'→wpList P ops Q rest (a.put o.dst undef) w'):wpList P ops Q (o :: rest) a w:=by
 obtain ⟨d,hu,hd,hi⟩:=hk
 subst hB
 exact wpList_store_row hgd ty x y ho b B hx hy t A hb hi hA h1 (h _ (Rowed.of hb))
theorem Zbo {ty:TypeId}{n:Nat}(hk:Zdw P ty n) {b:Nat}{A:Array Value}{t:TypeId}(hb:Blk w b A t) (hs:A.size=n):(loadVar ty ⟨b,0,none⟩).run P w=.ok (.agg A) w:=by
 obtain ⟨d,hu,hd,hi⟩:=hk
 subst hs
 exact run_loadVar_row w b t ty A (0,0) d hb hu (by cases d <;> simp at hd ⊢) hi
theorem Za5 {fn:Func}{p:Tmp}{ty:TypeId}(h:fn.results=#[.cell p ty]) (tmps:Array Value) {n:Nat}(hk:Zdw P ty n) {b:Nat}(hp:tmps.getD p undef=.pointer b) {A:Array Value}{t:TypeId}(hb:Blk w b A t) (hs:A.size=n) :
  (results fn tmps).run P w=.ok (.agg A) w:=by
 have hp':tmps[p]?.getD undef=.pointer b:=by simpa using hp
 simp [results,h,hp',asAddr,Zbo hk hb hs]
end
end Go
namespace Go.Proofs.YtbapgefodmmikaaGreatDoor
open Go.RowKit Go.Proofs Go.Ord Tryz
def Zg0 (t:Ti) (A B:Nat) (s:Bool):Bool:=((t A).2 == (t B).2) == s
def frT (t:Ti) (A B:Nat):Nat:=max (t A).1 (t B).1
def toT (t:Ti) (A B:Nat):Nat:=min (t A).1 (t B).1
def Zbd (t:Ti) (fr too:Nat) (same:Bool) (k:Nat):Ti:=fun i=>if i < k then (if (t i).1=fr then (too,(t i).2 == same) else t i) else t i
def Zd1 (t:Ti) (A B:Nat) (s:Bool):Ti:=if (t A).1=(t B).1 then t else Zbd t (frT t A B) (toT t A B) (Zg0 t A B s) 8
def Zek (t:Ti) (A B:Nat) (s:Bool):Bool:=if (t A).1=(t B).1 then Zg0 t A B s else true
theorem Zb5:Zdw prog 240 16:=⟨_,underlying240,rfl,by kernel_rfl⟩
theorem Zde (t:Ti):(Zaj t).all (·.oneCell')=true:=by simp [Zaj,Value.oneCell']
theorem Zhx (t:Ti) (k:Nat) (h:k < 8) (w:World):(Instr.index 240 (.agg (Zaj t)) ↑k).run prog w=.ok (.agg #[.int .i64 (t k).1,.bool (t k).2]) w:=by
 rcases (show k=0∨k=1∨k=2∨k=3∨k=4∨k=5∨k=6∨k=7 by omega) with rfl|rfl|rfl|rfl|rfl|rfl|rfl|rfl <;> simp [Instr.index,go_sem,Zaj,part,underlying240]
theorem Ztw (t:Ti) (fr too:Nat) (sm:Bool) (k:Nat):Zbd t fr too sm (k+1)=if (t k).1=fr then tupd (Zbd t fr too sm k) k (too,(t k).2 == sm) else Zbd t fr too sm k:=by
 by_cases h:(t k).1=fr
 ·rw [if_pos h];funext i;simp only [Zbd,tupd]
  by_cases h1:i=k
  ·subst h1;rw [if_pos rfl,if_pos (Nat.lt_succ_self _),if_pos h]
  ·rw [if_neg h1]
   by_cases h2:i < k
   ·rw [if_pos h2,if_pos om_]
   ·rw [if_neg h2,if_neg om_]
 ·rw [if_neg h];funext i;simp only [Zbd]
  by_cases h1:i=k
  ·subst h1;rw [if_pos (Nat.lt_succ_self _),if_neg h,if_neg (Nat.lt_irrefl _)]
  ·by_cases h2:i < k
   ·rw [if_pos h2,if_pos om_]
   ·rw [if_neg h2,if_neg om_]
theorem b_tied (t:Ti) (x y:Int) (A B:Nat) (hx:x=A) (hy:y=B) (hA:A < 8) (hB:B < 8) (ht:∀ i,i < 8→(t i).1 < 8) (s:Bool) (w:World) :
  Calls prog 358 #[.agg (Zaj t),.agg #[x,y,.bool s]] w (Zat (.agg (Zaj (Zd1 t A B s))) (.bool (Zek t A B s)) w):=by
 subst hx hy
 have hcA:=Zdc t A hA
 have hsA:=Zcl t A hA
 have hcB:=Zdc t B hB
 have hsB:=Zcl t B hB
 have hsz:=Zbk t
 have HT:Hid (Zaj t=Zaj t):=rfl
 have hAi:(A:Int) < 8:=by omega
 have hBi:(B:Int) < 8:=by omega
 generalize hTC:Zaj t=TC at *
 have HTC:=hd_ hTC
 clear hTC
 go_enter func358,ntmps358
 obtain ⟨W3,hW3⟩:∃ W3,W3=((w.alloc (.cells TC 240)).alloc (.cells #[A,B,.bool s] 135)).alloc (.cells (Zaj (Zcj 0)) 240):=⟨_,rfl⟩
 rw [Zeb] at hW3
 have HW3:=hd_ hW3
 go_upto_region 1 with fail
 rw [← hW3]
 clear hW3
 have b0:Blk W3 w.heap.size TC 240:=by rw [HW3.out];exact ((Blk.new _ _ _).alloc _).alloc _
 have b1:Blk W3 (w.heap.size+1) #[A,B,.bool s] 135:=by rw [HW3.out];exact (Blk.new' _ _ _ _ sp_).alloc _
 have b2:Blk W3 (w.heap.size+1+1) #[(),.bool false,(),.bool false,(),.bool false,(),.bool false,(),.bool false,(),.bool false,(),.bool false,(),.bool false] 240:=by rw [HW3.out];exact Blk.new' _ _ _ _ sp_
 have hsz3:W3.heap.size=w.heap.size+3:=by rw [HW3.out];simp
 have hb3:Below w.heap.size w W3:=by rw [HW3.out];exact bel_
 generalize hn:w.heap.size=n at *
 have k0:=b0.cell
 have k1:=b1.cell
 have k2:=b0.free
 have k3:=b1.free
 go_cut [6,7] from 13 to 20 (fun p q wx=>∃ ba bb:Nat,p=.pointer ba∧q=.pointer bb∧n+3≤ba∧n+3≤bb∧n+5≤wx.heap.size∧Below (n+3) W3 wx∧Blk wx ba #[.int .i64 (t A).1,.bool (t A).2] 238∧Blk wx bb #[.int .i64 (t B).1,.bool (t B).2] 238)
 case first =>
  refine Ord.wp_fork [(0,1),(1,1),(2,1),(3,1),(4,1),(5,1),(6,1),(7,1)] 8 [(9,2),(10,2),(11,2)] 9 [(8,2),(10,2),(11,2)] (fun W=>Below (n+3) W3 W) kr_ kr_ (fun c a d v w h=>by cases d <;> exact h) br_.drew ?_
  go_wp2_with (first
   | ((with_reducible refine Zyg ?_);refine Zyk rfl rfl (fun K hK=>?_))|with_reducible refine Zyi rfl rfl (fun K hK=>?_)|((with_reducible refine Zye ?_);first|refine Zyl rfl rfl (fun W=>by simp [go_sem];rfl) (fun K hK=>?_)|refine Zym rfl rfl (fun K hK=>?_)|refine Zyn rfl rfl (fun K hK=>?_))|with_reducible refine Zyh rfl (by first|(simp;done)|assumption|(go_simp;done)|exact bel_) (fun K hK=>?_)|with_reducible refine Zyo ?_ ?_|with_reducible refine Zyj ?_|(with_reducible refine Zyf (by first|(simp;done)|(go_simp;done)|exact bel_) (fun _=>?_))
   | ((with_reducible refine Zye ?_);first|(refine Zyq (ad:=⟨n+1,0,none⟩) ↑A rfl rfl ?_ ?_;(focus (intro W hW;obtain ⟨cW,_,zW⟩:=Zbe hW rfl;simp [go_sem,cW,↓IntWalk.iteOmega,k1];done));intro K hK)|(refine Zyq (ad:=⟨n+1,1,none⟩) ↑B rfl rfl ?_ ?_;(focus (intro W hW;obtain ⟨cW,_,zW⟩:=Zbe hW rfl;simp [go_sem,cW,↓IntWalk.iteOmega,k1];done));intro K hK)|(refine Zyq (ad:=⟨n,A * 2,none⟩) (.agg #[.int .i64 (t A).1,.bool (t A).2]) rfl rfl ?_ ?_;(focus (intro W hW;obtain ⟨cW,_,zW⟩:=Zbe hW rfl;simp [go_sem,cW,↓IntWalk.iteOmega,k0,hcA,hsA];done));intro K hK)|(refine Zyq (ad:=⟨n,B * 2,none⟩) (.agg #[.int .i64 (t B).1,.bool (t B).2]) rfl rfl ?_ ?_;(focus (intro W hW;obtain ⟨cW,_,zW⟩:=Zbe hW rfl;simp [go_sem,cW,↓IntWalk.iteOmega,k0,hcB,hsB];done));intro K hK)|(refine Zyw (.pointer (some ⟨n,A * 2,none⟩)) rfl ?_ ?_;(focus (intro W hW;simp [go_sem,hAi];done));intro K hK))
   | ((with_reducible refine Zye ?_);refine Zyw (.pointer (some ⟨n,B * 2,none⟩)) rfl ?_ ?_;(focus (intro W hW;simp [go_sem,hBi];done));intro K hK))
  all_goals go_meet
  all_goals (first
   | exact ⟨n+3,n+3+1,rfl,rfl,om_,om_,by simp [hsz3],by exact bel_,((Blk.new' _ _ _ _ hsz3).alloc _).drew,(Blk.new' _ _ _ _ (by simp [hsz3])).drew⟩
   | exact ⟨n+3+1,n+3,rfl,rfl,om_,om_,by simp [hsz3],by exact bel_,(Blk.new' _ _ _ _ (by simp [hsz3])).drew,((Blk.new' _ _ _ _ hsz3).alloc _).drew⟩)
 case rest =>
  obtain ⟨ba,bb,rfl,rfl,hba,hbb,hwc,hB,ca,cb⟩:=hcut
  replace b0:=b0.below hB om_
  replace b1:=b1.below hB om_
  replace b2:=b2.below hB om_
  have hb0:Below n w wc:=hb3.trans (hB.mono om_)
  clear HW3 k0 k1 k2 k3 hB hb3 hsz3
  have r0:=b0.cell
  have r1:=b1.cell
  have r2:=b2.cell
  have r3:=b2.free
  have r4:=ca.cell
  have r5:=cb.cell
  have h16:=HTC.out.symm
  have hones:TC.all (·.oneCell')=true:=by rw [← HTC.out];exact Zde t
  by_cases hE:(t A).1=(t B).1
  ·have h1:Hid (Zd1 t A B s=t):=by show _=_;simp [Zd1,hE]
   have h2:Hid (Zek t A B s=Zg0 t A B s):=by show _=_;simp [Zek,hE]
   have hEi:(((t A).1:Int) == (t B).1)=true:=by simp [hE]
   have H16:=hd_ h16
   clear h16 r0 r2 r3
   go_wp2_with (first
    | (refine Za0 240 (.tmp 2) Zb5 rfl rfl rfl b0 hsz ?_)
    | (refine Za1 240 (.tmp 4) (.tmp 34) Zb5 rfl rfl rfl rfl b2 rfl hsz hones ?_;intro w5 h5))
   (try simp only [Exit.inBlock,Exit.then])
   rw [h1.out,h2.out,← H16.out]
   refine bodyPost_ret (v:=.tuple #[.agg TC,.bool (Zg0 t A B s)]) ((results_cell_tmp rfl _ _ _).trans (by simp [asAddr,Zbo Zb5 h5.blk hsz,Zg0];done)) rfl ⟨rfl,?_⟩
   rw [hn]
   exact h5.below hb0 om_
  ·have h1:Hid (Zd1 t A B s=Zbd t (frT t A B) (toT t A B) (Zg0 t A B s) 8):=by show _=_;simp [Zd1,hE]
   have h2:Hid (Zek t A B s=true):=by show _=_;simp [Zek,hE]
   have hEi:(((t A).1:Int) == (t B).1)=false:=by simp;omega
   have hm0:Blk wc n (Zaj (Zbd t (frT t A B) (toT t A B) (Zg0 t A B s) 0)) 240:=by
    have:Zbd t (frT t A B) (toT t A B) (Zg0 t A B s) 0=t:=by funext i;simp [Zbd]
    rw [this,← h16];exact b0
   have hS:(((t A).2 == (t B).2) == s)=Zg0 t A B s:=rfl
   have hTA:=ht A hA
   have hTB:=ht B hB
   have hfr:frT t A B < 8:=by unfold frT;omega
   have hto:toT t A B < 8:=by unfold toT;omega
   have H16:=hd_ h16
   clear h16 r0 r2 r3
   go_upto_region 5 with fail
   go_cut [9,10] from 36 to 45 (fun p q wx=>p=↑(frT t A B)∧q=↑(toT t A B)∧wx=wc.drew)
   case first =>
    refine Ord.wp_region [(0,0),(1,0),(2,0),(3,0),(4,0),(5,0),(6,0),(7,0),(8,0),(9,0),(10,0),(11,0)] (fun _=>True) kr_ kr_ (fun c a d v w h=>by cases d <;> exact h) trivial ?_
    go_wp2_with (first
     | ((with_reducible refine Zyg ?_);refine Zyk rfl rfl (fun K hK=>?_))|with_reducible refine Zyi rfl rfl (fun K hK=>?_)|((with_reducible refine Zye ?_);first|refine Zyl rfl rfl (fun W=>by simp [go_sem];rfl) (fun K hK=>?_)|refine Zym rfl rfl (fun K hK=>?_)|refine Zyn rfl rfl (fun K hK=>?_))|with_reducible refine Zyh rfl (by first|(simp;done)|assumption|(go_simp;done)|exact bel_) (fun K hK=>?_)|with_reducible refine Zyo ?_ ?_|with_reducible refine Zyj ?_|(with_reducible refine Zyf (by first|(simp;done)|(go_simp;done)|exact bel_) (fun _=>?_)))
    all_goals go_meet
    all_goals exact ⟨by simp [frT];omega,by simp [toT];omega,rfl⟩
   case rest =>
    obtain ⟨rfl,rfl,rfl⟩:=hcut
    generalize frT t A B=fr at *
    generalize toT t A B=too at *
    generalize Zg0 t A B s=sm at *
    go_wp2_with (first
     | (refine Za0 240 (.tmp 2) Zb5 rfl rfl rfl b0.drew hsz ?_))
    go_loopw [47] (fun i wr=>∃ k:Nat,k≤8∧i=↑k∧Below n w wr∧n+5≤wr.heap.size∧Blk wr n (Zaj (Zbd t fr too sm k)) 240 ∧
     Blk wr (n+1+1) #[(),.bool false,(),.bool false,(),.bool false,(),.bool false,(),.bool false,(),.bool false,(),.bool false,(),.bool false] 240) (fun i _=>8 - (intOf i).toNat)
    case atStart=>exact ⟨0,om_,rfl,hb0.drew,hwc,hm0,b2⟩
    case round =>
     clear b0 b1 b2 ca cb r1 r4 r5 hm0 hb0
     obtain ⟨k,hk,rfl,hb0,hwc2,b0,b2⟩:=hrel
     by_cases hlt:k < 8
     ·have hlti:(k:Int) < 8:=by omega
      have hc1:=Zdc t k hlt
      have hc2:=Zcl t k hlt
      have hd1:=Zdc (Zbd t fr too sm k) k hlt
      have hd2:=Zcl (Zbd t fr too sm k) k hlt
      have hs:=hd_ (Zkx (Zbd t fr too sm k) k hlt too ((t k).2 == sm))
      have hstep:=hd_ (Ztw t fr too sm k)
      have hix:=Zhx t k hlt
      rw [HTC.out] at hc1 hc2 hix
      generalize (t k).2=ts at *
      generalize (t k).1=tn at *
      generalize hMC:Zaj (Zbd t fr too sm k)=MC at *
      have HMC:=hd_ hMC
      clear hMC
      have r0:=b0.cell
      have r1:=b0.free
      by_cases hf:tn=fr
      ·have hst2:=hstep.out
       rw [if_pos hf] at hst2
       have HST:=hd_ hst2
       clear hst2 hstep
       go_wp2
       refine ⟨⟨k+1,om_,by go_num,by exact bel_,by simp;omega,?_,((b2.alloc _).other (by show n+1+1≠n;omega) _).other (by show n+1+1≠n;omega) _⟩,by simp [intOf];omega⟩
       rw [HST.out,← hs.out]
       exact ((b0.alloc _).set _ _).set _ _
      ·have hst2:=hstep.out
       rw [if_neg hf] at hst2
       have HST:=hd_ hst2
       clear hst2 hstep
       go_wp2
       refine ⟨⟨k+1,om_,by go_num,by exact bel_,by simp;omega,?_,b2.alloc _⟩,by simp [intOf];omega⟩
       rw [HST.out,HMC.out]
       exact b0.alloc _
     ·have hk8:k=8:=by omega
      subst hk8
      generalize hMC:Zaj (Zbd t fr too sm 8)=MC at *
      have hsz8:MC.size=16:=by rw [← hMC];exact Zbk _
      have hones8:MC.all (·.oneCell')=true:=by rw [← hMC];exact Zde _
      have HMC:=hd_ hMC
      clear hMC
      go_wp2_with (first
       | (refine Za0 240 (.tmp 2) Zb5 rfl rfl rfl b0 hsz8 ?_)
       | (refine Za1 240 (.tmp 4) (.tmp 64) Zb5 rfl rfl rfl rfl b2 rfl hsz8 hones8 ?_;intro w5 h5))
      (try simp only [Exit.inBlock,Exit.then])
      rw [h1.out,h2.out,HMC.out]
      refine bodyPost_ret (v:=.tuple #[.agg MC,.bool true]) ((results_cell_tmp rfl _ _ _).trans (by simp [asAddr,Zbo Zb5 h5.blk hsz8];done)) rfl ⟨rfl,?_⟩
      rw [hn]
      exact h5.below hb0 om_
end Go.Proofs.YtbapgefodmmikaaGreatDoor
