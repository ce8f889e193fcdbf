/- Parts of a proof. -/
import Derived.Test.YtbapgefodmmikaaGreatDoorLMin
import Derived.Test.YtbapgefodmmikaaGreatDoorL03
import Derived.RangeFuncIn
import Derived.RangeFuncCalls
import Derived.TacticsIn
import Derived.OrdersIn
import Derived.Laws.MakeOwn
import Derived.OwnWalk
import Derived.RangeFuncRecord
import Derived.LoopIn
import Derived.BigFrameIn
set_option linter.unusedVariables false
set_option linter.unusedSimpArgs false
set_option maxHeartbeats 40000000
set_option maxRecDepth 100000
namespace Go.Proofs.YtbapgefodmmikaaGreatDoor
open Go.RowKit Go.Proofs Go.Ord Tryz
def Sat (t:Ti) (c:Nat→Bool):Prop:=∀ i,i < 8→c i=(c (t i).1 == (t i).2)
structure TInv (V:Nat) (t:Ti):Prop where
 le:∀ i,i < 8→(t i).1≤i
 rep:∀ i,i < 8→t (t i).1=((t i).1,true)
 far:∀ i,V≤i→i < 8→t i=(i,true)
theorem TInv.free (V:Nat):TInv V Zi0:=⟨fun i _=>Nat.le_refl i,fun i _=>rfl,fun i _ _=>rfl⟩
theorem Sat.free (c:Nat→Bool):Sat Zi0 c:=fun i _=>by simp [Zi0]
theorem TInv.lt {V:Nat}{t:Ti}(h:TInv V t) {i:Nat}(hi:i < 8) (hv:i < V):(t i).1 < V:=by have:=h.le i hi;omega
theorem TInv.tied {V:Nat}{t:Ti}(h:TInv V t) {A B:Nat}(hA:A < 8) (hB:B < 8) (hAV:A < V) (hBV:B < V) (s:Bool):TInv V (Zd1 t A B s):=by
 unfold Zd1
 split
 ·exact h
 ·rename_i hne
  have h1:=h.le A hA
  have h2:=h.le B hB
  have h3:=h.rep A hA
  have h4:=h.rep B hB
  have hm:toT t A B < frT t A B:=by unfold toT frT;omega
  have hto:t (toT t A B)=(toT t A B,true):=by
   unfold toT;rcases Nat.le_total (t A).1 (t B).1 with q|q
   ·rw [Nat.min_eq_left q];exact h3
   ·rw [Nat.min_eq_right q];exact h4
  have hf8:frT t A B < 8:=by unfold frT;omega
  have hfV:frT t A B < V:=by unfold frT;omega
  generalize frT t A B=fr at *
  generalize toT t A B=too at *
  generalize Zg0 t A B s=sm at *
  have hval:∀ i,i < 8→Zbd t fr too sm 8 i=if (t i).1=fr then (too,(t i).2 == sm) else t i:=fun i hi=>by simp [Zbd,hi]
  have hi1:=h.le
  refine ⟨fun i hi=>?_,fun i hi=>?_,fun i hv hi=>?_⟩
  ·rw [hval i hi]
   have:=h.le i hi
   split
   ·simp only;omega
   ·exact this
  ·rw [hval i hi]
   split
   ·rename_i hr
    simp only
    rw [hval too om_,hto]
    simp only
    rw [if_neg om_]
   ·rename_i hr
    have:=h.rep i hi
    have h8:=h.le i hi
    rw [hval _ om_,this]
    simp only
    rw [if_neg hr]
  ·rw [hval i hi,h.far i hv hi]
   simp only
   rw [if_neg om_]
theorem _root_.Q1v {p:Prop}(h:p:=by
 generalize c (t B).1=x
 generalize c (t A).1=x'
 generalize (t A).2=y
 generalize (t B).2=z
 cases x <;> cases x' <;> cases y <;> cases z <;> cases s <;> decide):p:=h
theorem _root_.Q2r {p:Prop}(h:p:=by
 simp only
 generalize c too=x
 generalize (t i).2=y
 cases x <;> cases y <;> cases sm <;> rfl):p:=h
theorem tied_sat {V:Nat}{t:Ti}(h:TInv V t) {A B:Nat}(hA:A < 8) (hB:B < 8) (s:Bool) (c:Nat→Bool) :
  (Sat t c∧((c A == c B) == s)=true)↔(Zek t A B s=true∧Sat (Zd1 t A B s) c):=by
 unfold Zd1 Zek
 split
 ·rename_i he
  have:Sat t c→(((c A == c B) == s)=Zg0 t A B s):=by
   intro hs
   have a1:=hs A hA
   have b1:=hs B hB
   rw [he] at a1
   unfold Zg0
   rw [a1,b1]
   generalize c (t B).1=x
   generalize (t A).2=y
   generalize (t B).2=z
   cases x <;> cases y <;> cases z <;> cases s <;> rfl
  constructor
  ·intro ⟨h1,h2⟩;exact ⟨(this h1).symm.trans h2,h1⟩
  ·intro ⟨h1,h2⟩;exact ⟨h2,(this h2).trans h1⟩
 ·rename_i hne
  have h1:=h.le A hA
  have h2:=h.le B hB
  have h3:=h.rep A hA
  have h4:=h.rep B hB
  have key:Sat t c→((((c A == c B) == s)=true)↔c (frT t A B)=(c (toT t A B) == Zg0 t A B s)):=by
   intro hs
   have a1:=hs A hA
   have b1:=hs B hB
   unfold Zg0 frT toT
   rw [a1,b1]
   rcases Nat.le_total (t A).1 (t B).1 with q|q
   ·rw [Nat.min_eq_left q,Nat.max_eq_right q]
    exact Q1v
   ·rw [Nat.min_eq_right q,Nat.max_eq_left q]
    exact Q1v
  have hm:toT t A B < frT t A B:=by unfold toT frT;omega
  have hfr:t (frT t A B)=(frT t A B,true):=by
   unfold frT;rcases Nat.le_total (t A).1 (t B).1 with q|q
   ·rw [Nat.max_eq_right q];exact h4
   ·rw [Nat.max_eq_left q];exact h3
  have hf8:frT t A B < 8:=by unfold frT;omega
  generalize frT t A B=fr at *
  generalize toT t A B=too at *
  generalize Zg0 t A B s=sm at *
  have hval:∀ i,i < 8→Zbd t fr too sm 8 i=if (t i).1=fr then (too,(t i).2 == sm) else t i:=fun i hi=>by simp [Zbd,hi]
  constructor
  ·intro ⟨hs,hp⟩
   have hk:=(key hs).1 hp
   refine ⟨rfl,fun i hi=>?_⟩
   rw [hval i hi]
   split
   ·rename_i hr
    rw [hs i hi,hr,hk]
    exact Q2r
   ·exact hs i hi
  ·intro ⟨_,hs⟩
   have hk:c fr=(c too == sm):=by
    have:=hs fr hf8
    rw [hval fr hf8,hfr] at this
    simpa using this
   have hs2:Sat t c:=by
    intro i hi
    by_cases hr:(t i).1=fr
    ·have:=hs i hi
     rw [hval i hi,if_pos hr] at this
     rw [this,hr,hk]
     exact Q2r
    ·have:=hs i hi
     rwa [hval i hi,if_neg hr] at this
   exact ⟨hs2,(key hs2).2 hk⟩
def cntG (vo:Nat) (c:Nat→Bool):Nat:=(List.range 8).countP fun i=>hasB vo i && c i
def Zdq (c:Nat→Bool):Kn→Bool
 | .g vo lo hi=>inB (cntG vo c:Nat) lo hi
 | .p a b s=>(c a == c b) == s
def Zgk (c:Nat→Bool):Kn→Bool
 | .g ..=>true
 | .p a b s=>(c a == c b) == s
def Zhz:Kn→Option Gr
 | .g vo lo hi=>some (vo,lo,hi)
 | .p ..=>none
def grR (c:Nat→Bool) (g:Gr):Bool:=inB (cntG g.1 c:Nat) g.2.1 g.2.2
def knIn (V:Nat):Kn→Prop
 | .g vo _ _=>vo < 256
 | .p a b _=>a < V∧b < V
theorem Zjn (c:Nat→Bool) (L:List Kn):L.all (Zdq c)=(L.all (Zgk c) && (L.filterMap Zhz).all (grR c)):=by
 induction L with
 | nil=>rfl
 | cons x L ih =>
  rw [List.all_cons,List.all_cons,ih]
  cases x with
  | g vo lo hi=>simp [Zdq,Zgk,Zhz,grR];generalize inB _ _ _=y;generalize L.all (Zgk c)=z;cases y <;> cases z <;> simp
  | p a b s=>simp [Zdq,Zgk,Zhz,Bool.and_assoc]
theorem Zu0 (L:List Kn):L.foldl Zg4 none=none:=by induction L with|nil=>rfl|cons x L ih=>simp [Zg4,ih]
theorem Zjx (V:Nat) (hV:V≤8):∀ (L:List Kn) (_:∀ x∈L,knIn V x) (t:Ti) (gs:List Gr) (_:TInv V t),
  match L.foldl Zg4 (some (t,gs)) with
  | none=>∀ c,¬ (Sat t c∧L.all (Zgk c)=true)
  | some (t',gs')=>TInv V t'∧gs'=gs ++ L.filterMap Zhz∧∀ c,(Sat t c∧L.all (Zgk c)=true)↔Sat t' c
 | [],_,t,gs,ht=>⟨ht,sp_,fun c=>sp_⟩
 | x :: L,hok,t,gs,ht=>by
  have hL:∀ y∈L,knIn V y:=fun y hy=>hok y (List.mem_cons_of_mem _ hy)
  have hx:=hok x (List.mem_cons_self ..)
  rw [List.foldl_cons]
  cases x with
  | g vo lo hi =>
   have ih:=Zjx V hV L hL t (gs ++ [(vo,lo,hi)]) ht
   simp only [Zg4]
   generalize List.foldl Zg4 (some (t,gs ++ [(vo,lo,hi)])) L=r at *
   cases r with
   | none=>intro c ⟨h1,h2⟩;exact ih c ⟨h1,by simpa [Zgk] using h2⟩
   | some p =>
    obtain ⟨h1,h2,h3⟩:=ih
    exact ⟨h1,by rw [h2];simp [Zhz],fun c=>by rw [← h3 c];simp [Zgk]⟩
  | p a b s =>
   have ha:a < 8:=Nat.lt_of_lt_of_le hx.1 hV
   have hb:b < 8:=Nat.lt_of_lt_of_le hx.2 hV
   have hts:=tied_sat ht ha hb s
   simp only [Zg4]
   by_cases hk:Zek t a b s=true
   ·rw [if_pos hk]
    have ih:=Zjx V hV L hL (Zd1 t a b s) gs (ht.tied ha hb hx.1 hx.2 s)
    have e:∀ c,(Sat t c∧(List.all (.p a b s :: L) (Zgk c))=true)↔(Sat (Zd1 t a b s) c∧L.all (Zgk c)=true):=by
     intro c
     have:=hts c
     rw [List.all_cons,Bool.and_eq_true]
     simp only [Zgk]
     constructor
     ·intro ⟨h1,h2,h3⟩;exact ⟨(this.1 ⟨h1,h2⟩).2,h3⟩
     ·intro ⟨h1,h3⟩;have:=this.2 ⟨hk,h1⟩;exact ⟨this.1,this.2,h3⟩
    generalize List.foldl Zg4 (some (Zd1 t a b s,gs)) L=r at *
    cases r with
    | none=>intro c h;exact ih c ((e c).1 h)
    | some p =>
     obtain ⟨h1,h2,h3⟩:=ih
     exact ⟨h1,by rw [h2,List.filterMap_cons];rfl,fun c=>(e c).trans (h3 c)⟩
   ·rw [if_neg hk,Zu0]
    intro c ⟨h1,h2⟩
    rw [List.all_cons,Bool.and_eq_true] at h2
    exact hk ((hts c).1 ⟨h1,h2.1⟩).1
def Zg7 (V w:Nat):List Bool:=(List.range V).map (hasB w)
def allC (V:Nat):List (List Bool):=(List.range (2 ^ V)).map (Zg7 V)
theorem Zjy (w:Nat):hasB w 0=(w % 2 == 1):=by simp [hasB]
theorem Zwq (w i:Nat):hasB w (i+1)=hasB (w / 2) i:=by
 unfold hasB;rw [Nat.pow_succ,Nat.mul_comm,← Nat.div_div_eq_div_mul]
theorem Zi9 (V w:Nat):Zg7 (V+1) w=hasB w 0 :: Zg7 V (w / 2):=by
 unfold Zg7
 rw [List.range_succ_eq_map,List.map_cons,List.map_map]
 congr 1
 apply List.map_congr_left
 intro i _
 exact Zwq w i
theorem Zq0:∀ (V x y:Nat),x < 2 ^ V→y < 2 ^ V→Zg7 V x=Zg7 V y→x=y
 | 0,x,y,hx,hy,_=>by simp at hx hy;omega
 | V+1,x,y,hx,hy,h=>by
  rw [Zi9,Zi9,List.cons.injEq,Zjy,Zjy] at h
  rw [Nat.pow_succ] at hx hy
  have ih:=Zq0 V (x / 2) (y / 2) om_ om_ h.2
  have h1:x % 2=y % 2:=by
   have:=h.1
   rw [Bool.eq_iff_iff,beq_iff_eq,beq_iff_eq] at this
   omega
  omega
theorem Zpz:∀ (V:Nat) (l:List Bool),l.length=V→∃ w,w < 2 ^ V∧Zg7 V w=l
 | 0,[],_=>⟨0,sp_,rfl⟩
 | V+1,b :: l,h=>by
  obtain ⟨w,hw,rfl⟩:=Zpz V l (by simpa using h)
  refine ⟨b.toNat+2 * w,?_,?_⟩
  ·rw [Nat.pow_succ];have:=Bool.toNat_le b;omega
  ·rw [Zi9,Zjy]
   have h1:(b.toNat+2 * w) / 2=w:=by have:=Bool.toNat_le b;cases b <;> simp <;> omega
   have h2:(b.toNat+2 * w) % 2=b.toNat:=by cases b <;> simp <;> omega
   rw [h1,h2]
   cases b <;> rfl
theorem Zxm (V w:Nat):(Zg7 V w).length=V:=by simp [Zg7]
theorem Zff (V w i:Nat) (h:i < V):(Zg7 V w).getD i false=hasB w i:=by simp [Zg7,List.getD,h]
theorem Zif (V:Nat):(allC V).Nodup:=by
 unfold allC List.Nodup
 rw [List.pairwise_map]
 have h:=List.nodup_range (n:=2 ^ V)
 refine List.Pairwise.imp_of_mem ?_ h
 intro a b ha hb hne he
 exact hne (Zq0 V a b (List.mem_range.1 ha) (List.mem_range.1 hb) he)
theorem Zh5 (V:Nat) (l:List Bool):l∈allC V↔l.length=V:=by
 unfold allC
 rw [List.mem_map]
 constructor
 ·rintro ⟨w,_,rfl⟩;exact Zxm V w
 ·intro h;obtain ⟨w,hw,e⟩:=Zpz V l h;exact ⟨w,List.mem_range.2 hw,e⟩
def Zed (t:Ti) (V k:Nat) (l:List Bool):Bool:=decide (∀ i,i < V→l.getD i false=if (t i).1 < k then (l.getD (t i).1 false == (t i).2) else false)
def updK (t:Ti) (V k:Nat) (b:Bool) (l:List Bool):List Bool:=(List.range V).map fun i=>if (t i).1=k then (b == (t i).2) else l.getD i false
def stL (gs:List Gr) (V:Nat) (l:List Bool):St:=fun j=>(List.range V).countP fun i=>l.getD i false && inG gs i j
theorem Zdo (t:Ti) (V k:Nat) (b:Bool) (l:List Bool) (i:Nat) (h:i < V):(updK t V k b l).getD i false=if (t i).1=k then (b == (t i).2) else l.getD i false:=by
 simp [updK,List.getD,h]
theorem Znk {l m:List Bool}(h:l.length=m.length) (hg:∀ i,i < l.length→l.getD i false=m.getD i false):l=m:=by
 apply List.ext_getElem h
 intro i h1 h2
 have:=hg i h1
 simpa [List.getD,h1,h2] using this
theorem Zxg (gs:List Gr) (t:Ti) (V k:Nat) (b:Bool) (l:List Bool) (hl:∀ i,i < V→(t i).1=k→l.getD i false=false) (s:St) (hs:∀ j,j < 7→s j=stL gs V l j) (hgl:gs.length≤7) :
  ∀ j,j < 7→Zb1 gs t k b s V j=stL gs V (updK t V k b l) j:=by
 have key:∀ n,n≤V→∀ j,j < 7→Zb1 gs t k b s n j+(List.range n).countP (fun i=>l.getD i false && inG gs i j)=s j+(List.range n).countP (fun i=>(updK t V k b l).getD i false && inG gs i j):=by
  intro n
  induction n with
  | zero=>intro _ j _;simp [Zb1]
  | succ n ih =>
   intro hn j hj
   have ih:=ih om_ j hj
   rw [List.range_succ,List.countP_append,List.countP_append,List.countP_singleton,List.countP_singleton,Zdo t V k b l n om_]
   simp only [Zb1]
   by_cases hr:(t n).1=k
   ·have h0:=hl n om_ hr
    rw [if_pos hr,h0]
    by_cases hb:(t n).2=b
    ·rw [if_pos ⟨hr,hb⟩,hb]
     simp only [Ztb,Zc7,Bool.false_and,Bool.false_eq_true,if_false,beq_self_eq_true,Bool.true_and]
     by_cases hg:j < gs.length∧inG gs n j=true
     ·rw [if_pos hg,if_pos hg.2];omega
     ·rw [if_neg hg]
      have:inG gs n j=false:=by
       by_cases h1:j < gs.length
       ·simpa [h1] using hg
       ·unfold inG;rw [List.getElem?_eq_none om_]
      simp only [this,Bool.and_false,Bool.false_eq_true,if_false];omega
    ·rw [if_neg (fun h=>hb h.2)]
     have:(b == (t n).2)=false:=by simpa using fun h=>hb h.symm
     simp only [this,Bool.false_and,Bool.and_false,Bool.false_eq_true,if_false];omega
   ·rw [if_neg (fun h=>hr h.1),if_neg hr];omega
 intro j hj
 have:=key V nl_ j hj
 have h2:=hs j hj
 unfold stL at h2 ⊢
 omega
theorem x7_congr {s s':St}(h:∀ j,j < 7→s j=s' j):x7 s=x7 s':=by
 simp only [x7]
 rw [h 0 om_,h 1 om_,h 2 om_,h 3 om_,h 4 om_,h 5 om_,h 6 om_]
theorem Zpe {α β:Type}{l m:List α}(f:α→List β) (h:l.Perm m):(l.flatMap f).Perm (m.flatMap f):=h.flatMap_right f
theorem Zrc {α β:Type}{l:List α}{f g:α→List β}(h:∀ a∈l,f a=g a):l.flatMap f=l.flatMap g:=by
 induction l with
 | nil=>rfl
 | cons a l ih=>rw [List.flatMap_cons,List.flatMap_cons,h a (List.mem_cons_self ..),ih fun b hb=>h b (List.mem_cons_of_mem _ hb)]
theorem Zql {V:Nat}(hV:V≤8) {t:Ti}(ht:TInv V t) (gs:List Gr) (hgl:gs.length≤7):∀ k,k≤V→(Zaz gs t V k).Perm (((allC V).filter (Zed t V k)).map fun l=>x7 (stL gs V l)):=by
 intro k
 induction k with
 | zero =>
  intro _
  have h1:((allC V).filter (Zed t V 0)).Perm [List.replicate V false]:=by
   refine (List.perm_ext_iff_of_nodup ((Zif V).sublist List.filter_sublist) sp_).2 fun l=>?_
   rw [List.mem_filter,Zh5,List.mem_singleton]
   constructor
   ·intro ⟨h1,h2⟩
    simp only [Zed,decide_eq_true_eq,Nat.not_lt_zero,if_false] at h2
    refine Znk (by simp [h1]) fun i hi=>?_
    rw [h2 i om_]
    simp [List.getD,List.getElem?_replicate];split <;> rfl
   ·rintro rfl
    refine ⟨sp_,?_⟩
    simp only [Zed,decide_eq_true_eq,Nat.not_lt_zero,if_false]
    intro i hi
    simp [List.getD,List.getElem?_replicate,hi]
  refine List.Perm.trans ?_ (h1.map _).symm
  have:∀ j,stL gs V (List.replicate V false) j=0:=by
   intro j
   unfold stL
   rw [List.countP_eq_zero]
   intro i hi
   have:(List.replicate V false).getD i false=false:=by simp [List.getD,List.getElem?_replicate];split <;> rfl
   rw [this];simp
  simp only [List.map_cons,List.map_nil,x7,this]
  exact List.Perm.refl _
 | succ k ih =>
  intro hk
  have ih:=ih om_
  simp only [Zaz]
  by_cases hr:(t k).1=k
  ·rw [if_pos hr]
   have hkk:t k=(k,true):=by have:=ht.rep k om_;rwa [hr] at this
   refine (Zpe _ ih).trans ?_
   rw [List.flatMap_map]
   have hch:∀ l∈(allC V).filter (Zed t V k),∀ b,Zai gs t V k b (x7 (stL gs V l))=x7 (stL gs V (updK t V k b l)):=by
    intro l hl b
    rw [List.mem_filter] at hl
    have hc:=hl.2
    simp only [Zed,decide_eq_true_eq] at hc
    unfold Zai
    exact x7_congr (Zxg gs t V k b l (fun i hi he=>by rw [hc i hi,if_neg om_]) _ (fun j hj=>f7_x7 _ j hj) hgl)
   have e1:(((allC V).filter (Zed t V k)).flatMap fun l=>[Zai gs t V k false (x7 (stL gs V l)),Zai gs t V k true (x7 (stL gs V l))]) =
     (((allC V).filter (Zed t V k)).flatMap fun l=>[updK t V k false l,updK t V k true l]).map fun l=>x7 (stL gs V l):=by
    rw [List.map_flatMap]
    apply Zrc
    intro l hl
    simp only [List.map_cons,List.map_nil]
    rw [hch l hl,hch l hl]
   rw [e1]
   refine List.Perm.map _ ?_
   refine (List.perm_ext_iff_of_nodup ?_ ((Zif V).sublist List.filter_sublist)).2 fun l=>?_
   ·unfold List.Nodup
    rw [List.pairwise_flatMap]
    refine ⟨fun l hl=>?_,?_⟩
    ·simp only [List.pairwise_cons,List.mem_singleton,List.not_mem_nil,false_implies,implies_true,List.Pairwise.nil,and_true]
     rintro _ rfl he
     have:=congrArg (fun l=>l.getD k false) he
     (try simp only at this)
     rw [Zdo _ _ _ _ _ _ om_,Zdo _ _ _ _ _ _ om_,if_pos hr,if_pos hr,hkk] at this
     simp at this
    ·refine List.Pairwise.imp_of_mem ?_ ((Zif V).sublist (List.filter_sublist (p:=Zed t V k)))
     intro l m hl hm hne x hx y hy he
     rw [List.mem_filter,Zh5] at hl hm
     have hcl:=hl.2
     have hcm:=hm.2
     simp only [Zed,decide_eq_true_eq] at hcl hcm
     apply hne
     refine Znk (by rw [hl.1,hm.1]) fun i hi=>?_
     have hiV:i < V:=by omega
     by_cases hik:(t i).1=k
     ·rw [hcl i hiV,hcm i hiV,if_neg om_,if_neg om_]
     ·have hg:=congrArg (fun l=>l.getD i false) he
      (try simp only at hg)
      simp only [List.mem_cons,List.not_mem_nil,or_false] at hx hy
      rcases hx with rfl|rfl <;> rcases hy with rfl|rfl <;> rwa [Zdo _ _ _ _ _ _ hiV,Zdo _ _ _ _ _ _ hiV,if_neg hik,if_neg hik] at hg
   ·rw [List.mem_flatMap,List.mem_filter,Zh5]
    have hlt:∀ i,i < V→(t i).1 < V:=fun i hi=>ht.lt om_ hi
    constructor
    ·rintro ⟨m,hm,hx⟩
     rw [List.mem_filter,Zh5] at hm
     have hc:=hm.2
     simp only [Zed,decide_eq_true_eq] at hc
     have:∃ b,l=updK t V k b m:=by
      simp only [List.mem_cons,List.not_mem_nil,or_false] at hx
      rcases hx with rfl|rfl
      ·exact ⟨false,rfl⟩
      ·exact ⟨true,rfl⟩
     obtain ⟨b,rfl⟩:=this
     refine ⟨by simp [updK],?_⟩
     simp only [Zed,decide_eq_true_eq]
     intro i hi
     rw [Zdo _ _ _ _ _ _ hi,Zdo _ _ _ _ _ _ (hlt i hi),ht.rep i om_]
     (try simp only)
     by_cases hik:(t i).1=k
     ·rw [if_pos hik,if_pos hik,if_pos om_]
      cases b <;> rfl
     ·rw [if_neg hik,if_neg hik,hc i hi]
      by_cases h2:(t i).1 < k
      ·rw [if_pos h2,if_pos om_]
      ·rw [if_neg h2,if_neg om_]
    ·intro ⟨h1,h2⟩
     simp only [Zed,decide_eq_true_eq] at h2
     let m:=(List.range V).map fun i=>if (t i).1=k then false else l.getD i false
     have hm:∀ i,i < V→m.getD i false=if (t i).1=k then false else l.getD i false:=fun i hi=>by simp [m,List.getD,hi]
     refine ⟨m,?_,?_⟩
     ·rw [List.mem_filter,Zh5]
      refine ⟨by simp [m],?_⟩
      simp only [Zed,decide_eq_true_eq]
      intro i hi
      rw [hm i hi,hm _ (hlt i hi),ht.rep i om_]
      (try simp only)
      by_cases hik:(t i).1=k
      ·rw [if_pos hik,if_neg om_]
      ·rw [if_neg hik,if_neg hik,h2 i hi]
       by_cases h3:(t i).1 < k
       ·rw [if_pos h3,if_pos om_]
       ·rw [if_neg h3,if_neg om_]
     ·have:l=updK t V k (l.getD k false) m:=by
       refine Znk (by simp [updK,h1]) fun i hi=>?_
       have hiV:i < V:=by omega
       rw [Zdo _ _ _ _ _ _ hiV,hm i hiV]
       by_cases hik:(t i).1=k
       ·rw [if_pos hik,h2 i hiV,if_pos om_,hik]
       ·rw [if_neg hik,if_neg hik]
      simp only [List.mem_cons,List.not_mem_nil,or_false]
      generalize l.getD k false=b at this
      cases b
      ·exact .inl this
      ·exact .inr this
  ·rw [if_neg hr]
   have:Zed t V (k+1)=Zed t V k:=by
    funext l
    unfold Zed
    congr 1
    apply propext
    apply forall_congr'
    intro i
    apply imp_congr_right
    intro hi
    have hne:(t i).1≠k:=by
     intro he
     have:=ht.rep i om_
     rw [he] at this
     exact hr (by rw [this])
    by_cases h2:(t i).1 < k
    ·rw [if_pos h2,if_pos om_]
    ·rw [if_neg h2,if_neg om_]
   rw [this]
   exact ih
theorem Zsp {w i:Nat}(h:w < 2 ^ i):hasB w i=false:=by
 unfold hasB;rw [Nat.div_eq_of_lt h];rfl
theorem _root_.Q2o {p:Prop}(h:p:=by
 have h1:=Nat.testBit_two_pow_sub_one n i
 rw [Nat.testBit_eq_decide_div_mod_eq] at h1
 unfold hasB
 simpa [h] using h1):p:=h
theorem hasB_all (n i:Nat) (h:i < n):hasB (2 ^ n - 1) i=true:=Q2o
theorem sz_eq:∀ w,w < 256→sz w=(List.range 8).countP (hasB w):=by decide +kernel
theorem Zsy {V w:Nat}(hV:V≤8) (hw:w < 2 ^ V):cntG (2 ^ V - 1) (hasB w)=sz w:=by
 have h8:(2:Nat) ^ V≤2 ^ 8:=Nat.pow_le_pow_right om_ hV
 rw [sz_eq w om_]
 unfold cntG
 apply List.countP_congr
 intro i hi
 by_cases h:i < V
 ·rw [hasB_all V i h];simp
 ·rw [Zsp (Nat.lt_of_lt_of_le hw (Nat.pow_le_pow_right om_ om_))];simp
theorem Ziw {n m:Nat}(h:n≤m) (p:Nat→Bool) (hp:∀ i,n≤i→p i=false):(List.range m).countP p=(List.range n).countP p:=by
 induction m with
 | zero =>
  have:n=0:=by omega
  subst this;rfl
 | succ m ih =>
  by_cases hm:n=m+1
  ·subst hm;rfl
  ·rw [List.range_succ,List.countP_append,List.countP_singleton,hp m om_,ih om_];simp
theorem fits_all (gs:List Gr) (s:St):Ziv gs s=(List.range gs.length).all fun j=>match gs[j]? with|some g=>inB (s j) g.2.1 g.2.2|none=>true:=rfl
theorem Zo5 (gs:List Gr) (f:Gr→Bool) (k:Nat→Gr→Bool) (h:∀ j,(hj:j < gs.length)→k j gs[j]=f gs[j]) :
  ((List.range gs.length).all fun j=>match gs[j]? with|some g=>k j g|none=>true)=gs.all f:=by
 rw [Bool.eq_iff_iff,List.all_eq_true,List.all_eq_true]
 constructor
 ·intro hh x hx
  obtain ⟨j,hj,rfl⟩:=List.getElem_of_mem hx
  have:=hh j (List.mem_range.2 hj)
  rw [List.getElem?_eq_getElem hj] at this
  rw [← h j hj];exact this
 ·intro hh j hj
  have hj:=List.mem_range.1 hj
  rw [List.getElem?_eq_getElem hj]
  show k j gs[j]=true
  rw [h j hj];exact hh _ (List.getElem_mem hj)
theorem Zx9 {V:Nat}(hV:V≤8) (lo hi:Int) (L:List Kn) (hok:∀ x∈L,knIn V x) (hgl:(L.filterMap Zhz).length≤6) (n:Nat) :
  Za6 V lo hi L n=(List.range (2 ^ V)).countP fun w=>inB (sz w:Nat) lo hi && L.all (Zdq (hasB w)) && (sz w == n):=by
 have hk:=Zjx V hV L hok Zi0 [(2 ^ V - 1,lo,hi)] (TInv.free V)
 unfold Za6 Zh6
 generalize List.foldl Zg4 (some (Zi0,[(2 ^ V - 1,lo,hi)])) L=r at *
 cases r with
 | none =>
  simp only
  refine Eq.symm (List.countP_eq_zero.2 fun w hw=>?_)
  rw [Zjn]
  have:=hk (hasB w)
  have h2:L.all (Zgk (hasB w))=false:=by
   cases h:L.all (Zgk (hasB w))
   ·rfl
   ·exact absurd ⟨Sat.free _,h⟩ this
  rw [h2];simp
 | some p =>
  obtain ⟨t,gs⟩:=p
  obtain ⟨ht,hgs,hs⟩:=hk
  have hgl7:gs.length≤7:=by rw [hgs];simp;omega
  simp only
  unfold outN
  rw [(Zql hV ht gs hgl7 V nl_).countP_eq,List.countP_map,List.countP_filter]
  unfold allC
  rw [List.countP_map]
  apply List.countP_congr
  intro w hw
  have hw:=List.mem_range.1 hw
  have hlt:∀ i,i < V→(t i).1 < V:=fun i hi=>ht.lt om_ hi
  have e1:Zed t V V (Zg7 V w)=L.all (Zgk (hasB w)):=by
   rw [Bool.eq_iff_iff]
   unfold Zed
   rw [decide_eq_true_eq]
   have:=hs (hasB w)
   constructor
   ·intro h
    refine (this.2 fun i hi=>?_).2
    by_cases hv:i < V
    ·have:=h i hv
     rwa [if_pos (hlt i hv),Zff _ _ _ hv,Zff _ _ _ (hlt i hv)] at this
    ·rw [ht.far i om_ hi];simp
   ·intro h i hv
    have:=(this.1 ⟨Sat.free _,h⟩) i om_
    rwa [if_pos (hlt i hv),Zff _ _ _ hv,Zff _ _ _ (hlt i hv)]
  have e2:∀ j,(hj:j < gs.length)→stL gs V (Zg7 V w) j=cntG gs[j].1 (hasB w):=by
   intro j hj
   unfold stL cntG
   rw [Ziw hV]
   ·apply List.countP_congr
    intro i hi
    rw [Zff _ _ _ (List.mem_range.1 hi)]
    unfold inG
    rw [List.getElem?_eq_getElem hj]
    simp only
    rw [Bool.and_comm]
   ·intro i hi
    rw [Zsp (Nat.lt_of_lt_of_le hw (Nat.pow_le_pow_right om_ hi)),Bool.and_false]
  have e3:Ziv gs (f7 (x7 (stL gs V (Zg7 V w))))=gs.all (grR (hasB w)):=by
   rw [fits_all]
   refine Zo5 gs (grR (hasB w)) (fun j g=>inB (f7 (x7 (stL gs V (Zg7 V w))) j) g.2.1 g.2.2) fun j hj=>?_
   (try simp only)
   rw [f7_x7 _ j om_,e2 j hj]
   rfl
  have e4:f7 (x7 (stL gs V (Zg7 V w))) 0=sz w:=by
   rw [f7_x7 _ 0 om_,e2 0 (by rw [hgs];simp)]
   rw [← Zsy hV hw]
   congr 1
   simp [hgs]
  simp only [Function.comp]
  rw [e1,e3,e4,Zjn,hgs,List.all_append]
  have e5 : [((2 ^ V - 1,lo,hi):Gr)].all (grR (hasB w))=inB (sz w:Nat) lo hi:=by
   simp only [List.all_cons,List.all_nil,Bool.and_true,grR,Zsy hV hw]
  rw [e5]
  generalize inB (sz w:Nat) lo hi=x
  generalize (L.filterMap Zhz).all (grR (hasB w))=y
  generalize L.all (Zgk (hasB w))=z
  cases x <;> cases y <;> cases z <;> simp
end Go.Proofs.YtbapgefodmmikaaGreatDoor
namespace Go
variable {P:Program}{ops:Array Oper}{Q:Exit→Act→World→Prop}{K:Act→World→Prop}{a:Act}{w:World}{o:Oper}{l n:Nat}
def Zf2 (o:Oper):Bool:=match o.op with | .defer _=>false|_=>true
theorem Ztv (h:Zf2 o=true):∀ c,o.op≠.defer c:=by
 intro c hc
 simp [Zf2,hc] at h
theorem Zou {row:String}{args:Array Value}{R:Value→World→Prop}(h:Rows P row args w R):RowsIn (Fence.wide.inRound l) n P row args w R:=by
 intro c cs hr
 obtain ⟨v,w',r,s⟩:=h c cs
 exact ⟨v,w',r,stepsIn_wide.2 s⟩
theorem Oper.wpIn_of_wp (hd:Zf2 o=true) (h:o.wp P a w K Q):o.wpIn (Fence.wide.inRound l) n P a w K Q:=by
 unfold Oper.wpIn
 refine ⟨fun f _=>trivial,?_⟩
 rw [Oper.semAt_eq _ _ _ (Ztv hd)]
 unfold Oper.wp at h
 generalize (execOp a.eval o).run P w=r at h
 cases r with
 | ok x w' =>
  cases x <;> simp only [Oper.upon,Oper.uponIn] at h ⊢ <;>
   first
    | exact h
    | exact ⟨fun h0=>(by simp [Fence.wide] at h0),CallsIn.inRound l (callsIn_wide.2 h)⟩
    | exact ⟨fun h0=>(by simp [Fence.wide] at h0),Zou h⟩
    | exact h.elim
 | halt x w'=>cases x <;> simp only [Oper.upon,Oper.uponIn] at h ⊢ <;> exact h
theorem Zgf (hQ:¬ LetsOut Q):∀ (lo:List Oper) (a:Act) (w:World),(∀ o∈lo,Zf2 o=true)→wpList P ops Q lo a w→wpListIn (Fence.wide.inRound l) n P ops Q lo a w
 | [],a,w,_,h=>h
 | o :: rest,a,w,hd,h=>by
  simp only [wpList,wpListIn] at h ⊢
  split
  ·rename_i hw
   simp only [hw,if_true] at h
   rcases h with h|h
   ·exact Oper.wpIn_mono (fun a w h=>Zgf hQ rest a w (fun o ho=>hd o (by simp [ho])) h) (Oper.wpIn_of_wp (hd o sp_) h)
   ·exact absurd h.2 hQ
  ·rename_i hw
   simp only [hw] at h
   exact ⟨fun f _=>trivial,Zgf hQ rest _ w (fun o ho=>hd o (by simp [ho])) h⟩
theorem Za8 {id:Nat}{lo:List Oper}(hQ:¬ LetsOut Q) (hd:lo.all Zf2=true) (h:wpList P lo.toArray Q lo a w):(Code.region id lo.toArray false).wpIn (Fence.wide.inRound l) n P Q a w :=
 wpIn_region_lit (Zgf hQ lo a w (fun o ho=>List.all_eq_true.1 hd o ho) h)
theorem Zdx (hQ:¬ LetsOut Q) (hd:∀ (i:Nat) (o:Oper),ops[i]? = some o→Zf2 o=true):∀ (fuel:Nat) (listed:Array Bool) (a:Act) (w:World),wpAny P .any ops Q fuel listed a w→wpAnyIn (Fence.wide.inRound l) n P .any ops Q fuel listed a w
 | 0,_,_,_,h=>h
 | fuel+1,listed,a,w,h=>by
  refine ⟨h.1,fun i hi=>?_⟩
  have h2:=h.2 i hi
  unfold wpOp at h2
  unfold wpOpIn
  split
  ·rename_i ho
   simp only [ho] at h2
   exact Zdx hQ hd fuel _ _ _ h2
  ·rename_i o ho
   simp only [ho] at h2
   split
   ·rename_i hw
    simp only [hw,if_true] at h2
    rcases h2 with h2|h2
    ·exact Oper.wpIn_mono (fun a w h=>Zdx hQ hd fuel _ a w h) (Oper.wpIn_of_wp (hd i o ho) h2)
    ·exact absurd h2.2 hQ
   ·rename_i hw
    simp only [hw] at h2
    exact ⟨fun f _=>trivial,Zdx hQ hd fuel _ _ _ h2⟩
theorem Ord.wpIn_region {id:Nat}{lo:List Oper}(hO:¬ LetsOut Q) (pl:List (Nat × Nat)) (H:World→Prop) (hm:P.follows .mixedOrders=true) (hp:Ord.planOk lo.toArray pl=true) (hd:lo.all Zf2=true)
  (hQ:∀ c a d v w,Q (.panic c) (a.put d v) w→Q (.panic c) a w) (hH:H w.drew) (h:Ord.walk P lo.toArray H Q pl a w.drew):(Code.region id lo.toArray true).wpIn (Fence.wide.inRound l) n P Q a w:=by
 simp only [Ord.planOk,Bool.and_eq_true,beq_iff_eq] at hp
 obtain ⟨⟨hs,hl⟩,hp⟩:=hp
 refine wpIn_region_any hm (Zdx hO (fun i o ho=>List.all_eq_true.1 hd o (List.mem_of_getElem? (by simpa using ho))) _ _ _ _ (Ord.wpAny_of_any (H:=H) (eff:=fun i=>pl.any fun (k,c)=>k == i && c == 2) _ _ _ _ ?_))
 have h2:=Ord.any_of_walk (H:=H) (eff:=fun i=>pl.any fun (k,c)=>k == i && c == 2) hs hQ pl (Array.replicate lo.toArray.size false) a _ sp_ hH hp h
 rw [hl] at h2
 exact h2
end Go
namespace Go
open Go.RowKit
section
variable {P:Program}{ops:Array Oper}{rest:List Oper}{o:Oper}{a:Act}{w:World}{Q:Exit→Act→World→Prop}
theorem Zn8 (z:Value) (hz:z.cells=#[z]) (m:Nat):madeCells z.cells m=Array.replicate m z:=by
 apply Array.ext_getElem?
 intro i
 rw [hz]
 simp only [madeCells]
 by_cases h:i < m
 ·simp [h,Nat.mod_one]
 ·simp [h]
theorem Zca (hg:o.guard=none) (l c:Operand) (t:TypeId) (hop:o.op=Op.makeSlice t l c) (e:TypeId) (i:TypeInfo) (z:Value) (h1:P.underlying t=some (.slice e)) (h2:P.info? e=some i) (h3:i.zero=some z) (h4:i.size=1) (hz1:z.cells=#[z])
  (kl kc:IntKind) (L C:Int) (k m:Nat) (hl:a.eval l=.int kl L) (hc:a.eval c=.int kc C) (hL:L=(k:Int)) (hC:C=(m:Int)) (hkm:k≤m) (b2:i.bytes * m≤281474976710656) (b3:m≤maxLen)
  (hK:wpList P ops Q rest (a.put o.dst (.slice w.heap.size k m)) (w.alloc (.cells (Array.replicate m z) e))) :
  wpList P ops Q (o :: rest) a w:=by
 refine wpList_plain hg fun K hK'=>?_
 subst hL hC
 have h63':(m:Int)≤9223372036854775807:=by
  have h:=b3
  simp [maxLen] at h
  omega
 have hb':(i.bytes:Int) * (m:Int)≤281474976710656:=by
  have h:((i.bytes * m:Nat):Int)≤281474976710656:=by omega
  rwa [Int.natCast_mul] at h
 have hr:=run_make (P:=P) w t e i z h1 h2 h3 kl kc k m om_ om_ hb' h63'
 simp only [Int.toNat_natCast,h4,Nat.mul_one,Zn8 z hz1] at hr
 unfold Oper.wp
 simp [execOp,hop,hl,hc,hr,Result.andThen]
 exact hK' _ _ hK
theorem Zm4 {b base:Nat}{A:Array Value}{e:TypeId}(h:Blk w b A e) (hb:base≤b) {k m:Nat}(hA:A.size=m) (hkm:k≤m) (hm:m≤maxLen):w.ownsRow base e 1 (.slice b k m) k (A.toList.take k) :=
 ⟨by simp;omega,.inr ⟨b,m,A,rfl,hb,h,hkm,hm,om_,sp_⟩⟩
end
end Go
namespace Go.Ord
section
variable {P:Program}{H:World→Prop}{Q:Exit→Act→World→Prop}{k:Nat}{l:List (Nat × Nat)}{a:Act}{w:World}{lo:List Oper}
variable {d:Option Tmp}{ty t t':TypeId}{pos:String}{af:Array Edge}{g:Option (Nat × Bool)}{x y i:Operand}{bo:BinOp}
theorem wild_bin (v:Value) (ho:lo[k]? = some ⟨d,.binOp bo t x y t',ty,pos,af,g⟩) (hv:∀ W,H W→Zyr P ⟨d,.binOp bo t x y t',ty,pos,af,g⟩ a W v)
  (h:∀ K:Act→World→Prop,(∀ a,walk P lo.toArray H Q l a w→K a w)→wpList P lo.toArray (Exit.then K (fun _ _ _=>False)) [⟨d,.move (.const v),ty,pos,af,g⟩] a w):walk P lo.toArray H Q ((k,1) :: l) a w :=
 Zyt ho v hv h
end
end Go.Ord
namespace Go.Proofs.YtbapgefodmmikaaGreatDoor
open Go.RowKit Go.Proofs Go.Ord Tryz
attribute [local irreducible] Ord.walk
structure Off (T:List Nat) (n:Nat) (w w':World):Prop where
 os:w'.os=w.os
 tape:w'.tape=w.tape
 output:w'.output=w.output
 size:w.heap.size≤w'.heap.size
 block:∀ k,k < n→k ∉ T→w'.heap[k]? = w.heap[k]?
namespace Off
variable {T:List Nat}{n:Nat}{w w' w'':World}
theorem refl (T:List Nat) (n:Nat) (w:World):Off T n w w:=⟨rfl,rfl,rfl,Nat.le_refl _,fun _ _ _=>rfl⟩
theorem trans (h:Off T n w w') (k:Off T n w' w''):Off T n w w'' :=
 ⟨k.os.trans h.os,k.tape.trans h.tape,k.output.trans h.output,Nat.le_trans h.size k.size,fun i hi ht=>(k.block i hi ht).trans (h.block i hi ht)⟩
theorem mono {T':List Nat}{m:Nat}(h:Off T n w w') (hm:m≤n) (hT:∀ k,k < m→k∈T→k∈T'):Off T' m w w' :=
 ⟨h.os,h.tape,h.output,h.size,fun k hk ht=>h.block k om_ (fun e=>ht (hT k hk e))⟩
theorem of_below {m:Nat}(h:Below m w w') (hm:n≤m):Off T n w w':=⟨h.os,h.tape,h.output,h.size,fun k hk _=>h.block k om_⟩
theorem below {m:Nat}(h:Off T n w w') (hm:m≤n) (hT:∀ k∈T,m≤k):Below m w w':=⟨h.os,h.tape,h.output,h.size,fun k hk=>h.block k om_ (fun e=>absurd (hT k e) om_)⟩
theorem blk (h:Off T n w w') {b:Nat}{A:Array Value}{t:TypeId}(hb:Blk w b A t) (hn:b < n) (ht:b ∉ T):Blk w' b A t:=(h.block b hn ht).trans hb
theorem cell (h:Off T n w w') {a:Addr}(hn:a.block < n) (ht:a.block ∉ T):w'.cell? a=w.cell? a:=World.cell?_of_block (h.block _ hn ht)
theorem map (h:Off T n w w') {b:Nat}{l:List (SL × Nat)}(hb:MapIs w b l) (hn:b < n) (ht:b ∉ T):MapIs w' b l:=(h.block b hn ht).trans hb
theorem alloc (h:Off T n w w') (hn:n≤w'.heap.size) (o:Obj):Off T n w (w'.alloc o):=h.trans (of_below ((Below.refl n w').alloc hn o) nl_)
theorem drew (h:Off T n w w'):Off T n w w'.drew:=⟨h.os,h.tape,h.output,h.size,h.block⟩
theorem setCell (h:Off T n w w') {p:Addr}(hp:p.block∈T∨n≤p.block) (v:Value):Off T n w (w'.setCell p v) :=
 h.trans ⟨rfl,rfl,rfl,sp_,fun k hk ht=>Below.heap_setCell w' p v k (fun e=>by subst e;rcases hp with hp|hp;exact ht hp;omega)⟩
theorem putObj (h:Off T n w w') {p:Nat}(hp:p∈T∨n≤p) (o:Obj):Off T n w (w'.putObj p o) :=
 h.trans ⟨rfl,rfl,rfl,sp_,fun k hk ht=>World.putObj_heap_other (fun e=>by subst e;rcases hp with hp|hp;exact ht hp;omega)⟩
theorem rowed {b:Nat}{B:Array Value}{t:TypeId}(h:Off T n w w') (hr:Rowed w' b B t w'') (hp:b∈T∨n≤b):Off T n w w'':=by
 have hb:=hr.below (Below.refl b w') nl_
 refine h.trans ⟨hb.os,hb.tape,hb.output,by rw [hr.size];exact Nat.le_refl _,fun k hk ht=>?_⟩
 exact hr.heap k (fun e=>by subst e;rcases hp with hp|hp;exact ht hp;omega)
theorem turn {b:Nat}(h:Off T n w w') (hr:Turn1 w' b w'') (hp:b∈T∨n≤b):Off T n w w'':=by
 have hb:=hr.below (Below.refl b w') nl_
 exact h.trans ⟨hb.os,hb.tape,hb.output,by rw [hr.size];exact Nat.le_refl _,fun k hk ht=>hr.other (fun e=>by subst e;rcases hp with hp|hp;exact ht hp;omega)⟩
end Off
theorem GrAt.off {T:List Nat}{n:Nat}{w w':World}{gb:Nat}{go:Nat}{gs:List Gr}(h:GrAt w (some ⟨gb,go,none⟩) gs) (ho:Off T n w w') (hn:gb < n) (ht:gb ∉ T):GrAt w' (some ⟨gb,go,none⟩) gs:=fun i hi=>by
 obtain ⟨b,o,h0,h1,h2,h3⟩:=h i hi
 simp only [Option.some.injEq,Addr.mk.injEq] at h0
 obtain ⟨rfl,rfl,-⟩:=h0
 exact ⟨gb,go,rfl,(ho.cell hn ht).trans h1,(ho.cell hn ht).trans h2,(ho.cell hn ht).trans h3⟩
def sL:Code→Code
 | .seq a _=>a
 | c=>c
def sR:Code→Code
 | .seq _ b=>b
 | c=>c
def sI:Code→Code
 | .loop c=>c
 | .block _ c=>c
 | .scope c=>c
 | .rangeFunc _ _ _ c=>c
 | c=>c
noncomputable def cTop:Code:=sI (sR (Tryz.f92.body.getD .skip))
noncomputable def cX:Code:=sR (sR (sR (sR cTop)))
noncomputable def cA:Code:=sI (sR (sL cX))
noncomputable def cB:Code:=sI (sR (sL (sR (sR (sR cX)))))
noncomputable def cY:Code:=sI (sL (sR (sR (sI cB))))
noncomputable def cC:Code:=sI (sR (sL (sR (sR (sR cY)))))
noncomputable def cRf:Code:=sI (sR (sR (sI (sR (sR (sI cC))))))
noncomputable def cRb:Code:=sI (sI cRf)
noncomputable def cD:Code:=sI (sR (sL (sR cRb)))
noncomputable def cE:Code:=sI (sR (sL (sR (sR (sR (sR cX))))))
theorem _root_.Ql {p:Prop}(h:p:=by
 rw [← h2] at hx
 clear h2
 refine Ord.wpIn_region (fun ⟨a,w,h⟩=>hQ ⟨a,w,h⟩) [(0,0),(1,0),(2,0),(3,0),(4,0),(5,0),(6,0),(7,0),(8,0),(9,0),(10,0),(11,0),(12,0),(13,0)] (fun _=>True) kr_ kr_ kr_ (fun c a d v w h=>(hP c _ w h).elim) trivial ?_
 go_wp2_with (first|(refine o_ ?_;intro K hK)|(with_reducible first|refine Zyo ?_ ?_|refine Zyj ?_|refine Zyf bn_ (fun _=>?_)))
 (repeat (first|((with_reducible refine Za8 ?_ ?_ ?_);(focus exact fun ⟨a,w,h⟩=>hQ ⟨a,w,h⟩);(focus rfl))|gi_step))
 go_wp2_with fail
 refine ⟨⟨k+1,om_,by go_num,hO.drew,hx.drew⟩,by simp [intOf];omega⟩):p:=h
theorem Zx4 {u0 u1 u2 u3 u4 u5 u6 u7 u9 u11 u12 u13 u14 u15 u17 u18 u19 u22 u23 u24 u25 u26 u27 u28 u29 u30 u31 u32 u33 u34 u35 u36 u37 u38 u39 u40 u41 u42 u43 u44 u45 u46 u47 u48 u49 u50 u51 u52 u53 u54 u55 u56 u57 u58 u59 u60 u61 u62 u63 u64 u65 u66 u67 u68 u69 u70 u71 u72 u73 u74 u75 u76 u77 u78 u79 u80 u81 u82 u83 u84 u85 u86 u87 u88 u89 u90 u91 u92 u93 u94 u95 u96 u97 u98 u99 u100 u101 u102 u103 u104 u105 u106 u107 u108 u109 u110 u111 u112 u113 u114 u115 u116 u117 u118 u119 u120 u121 u122 u123 u124 u125 u126 u127 u128 u129 u130 u131 u132 u133 u134 u137 u138 u139 u140 u141 u142 u143 u144 u145 u146 u147 u148 u149 u150 u151 u152 u153 u154 u155 u156 u157 u158 u159 u160 u161 u162 u163 u164 u165 u166 u167 u168 u169 u170 u171 u172 u173 u174 u175 u176 u177 u178 u179 u180 u181 u182 u183 u184 u185 u186 u187 u188 u189 u190:Value}{ds:List Deferred}(L m:Nat) (Q:Exit→Act→World→Prop) (hQ:¬ LetsOut Q) (hP:∀ c a w,¬ Q (.panic c) a w) (W:World) (V bt gp gb gc fb xb first:Nat) (t:Ti) (gs:List Gr) (white:Bool) (s:St)
  (hV:V≤8) (hgl:gs.length≤7) (hvo:∀ g∈gs,g.1 < 2 ^ 62) (hs:∀ i,s i < 900)
  (b8:Blk W bt (Zaj t) 240) (b10:Blk W gp #[.slice gb gs.length gc] 242) (bg:GrAt W gb gs) (hgb:gb < W.heap.size)
  (b16:Blk W fb #[first] 3) (bx:Blk W xb (Zbc s) 248) (d1:bt≠xb) (d2:gp≠xb) (d3:gb≠xb) (d4:fb≠xb)
  (hexit:∀ (x22 x136 x137 x138 x139 x140 x141 x142 x143 x144 x145 x146 x147 x148 x149 x150 x151 x152 x153 x154 x155 x156 x157:Value) W',Off [xb] W.heap.size W W'→Blk W' xb (Zbc (Zb1 gs t first white s V)) 248 →
   Q (.exit 8) ⟨(u0 :: u1 :: u2 :: u3 :: u4 :: u5 :: u6 :: u7 :: .pointer bt :: u9 :: .pointer gp :: u11 :: u12 :: u13 :: u14 :: u15 :: .pointer fb :: u17 :: u18 :: u19 :: .bool white :: .pointer xb :: x22 :: u23 :: u24 :: u25 :: u26 :: u27 :: u28 :: u29 :: u30 :: u31 :: u32 :: u33 :: u34 :: u35 :: u36 :: u37 :: u38 :: u39 :: u40 :: u41 :: u42 :: u43 :: u44 :: u45 :: u46 :: u47 :: u48 :: u49 :: u50 :: u51 :: u52 :: u53 :: u54 :: u55 :: u56 :: u57 :: u58 :: u59 :: u60 :: u61 :: u62 :: u63 :: u64 :: u65 :: u66 :: u67 :: u68 :: u69 :: u70 :: u71 :: u72 :: u73 :: u74 :: u75 :: u76 :: u77 :: u78 :: u79 :: u80 :: u81 :: u82 :: u83 :: u84 :: u85 :: u86 :: u87 :: u88 :: u89 :: u90 :: u91 :: u92 :: u93 :: u94 :: u95 :: u96 :: u97 :: u98 :: u99 :: u100 :: u101 :: u102 :: u103 :: u104 :: u105 :: u106 :: u107 :: u108 :: u109 :: u110 :: u111 :: u112 :: u113 :: u114 :: u115 :: u116 :: u117 :: u118 :: u119 :: u120 :: u121 :: u122 :: u123 :: u124 :: u125 :: u126 :: u127 :: u128 :: u129 :: u130 :: u131 :: u132 :: u133 :: u134 :: ↑V :: x136 :: x137 :: x138 :: x139 :: x140 :: x141 :: x142 :: x143 :: x144 :: x145 :: x146 :: x147 :: x148 :: x149 :: x150 :: x151 :: x152 :: x153 :: x154 :: x155 :: x156 :: x157 :: u158 :: u159 :: u160 :: u161 :: u162 :: u163 :: u164 :: u165 :: u166 :: u167 :: u168 :: u169 :: u170 :: u171 :: u172 :: u173 :: u174 :: u175 :: u176 :: u177 :: u178 :: u179 :: u180 :: u181 :: u182 :: u183 :: u184 :: u185 :: u186 :: u187 :: u188 :: u189 :: u190 :: []).toArray,ds⟩ W') :
  cD.wpIn (Fence.wide.inRound L) m prog Q ⟨(u0 :: u1 :: u2 :: u3 :: u4 :: u5 :: u6 :: u7 :: .pointer bt :: u9 :: .pointer gp :: u11 :: u12 :: u13 :: u14 :: u15 :: .pointer fb :: u17 :: u18 :: u19 :: .bool white :: .pointer xb :: u22 :: u23 :: u24 :: u25 :: u26 :: u27 :: u28 :: u29 :: u30 :: u31 :: u32 :: u33 :: u34 :: u35 :: u36 :: u37 :: u38 :: u39 :: u40 :: u41 :: u42 :: u43 :: u44 :: u45 :: u46 :: u47 :: u48 :: u49 :: u50 :: u51 :: u52 :: u53 :: u54 :: u55 :: u56 :: u57 :: u58 :: u59 :: u60 :: u61 :: u62 :: u63 :: u64 :: u65 :: u66 :: u67 :: u68 :: u69 :: u70 :: u71 :: u72 :: u73 :: u74 :: u75 :: u76 :: u77 :: u78 :: u79 :: u80 :: u81 :: u82 :: u83 :: u84 :: u85 :: u86 :: u87 :: u88 :: u89 :: u90 :: u91 :: u92 :: u93 :: u94 :: u95 :: u96 :: u97 :: u98 :: u99 :: u100 :: u101 :: u102 :: u103 :: u104 :: u105 :: u106 :: u107 :: u108 :: u109 :: u110 :: u111 :: u112 :: u113 :: u114 :: u115 :: u116 :: u117 :: u118 :: u119 :: u120 :: u121 :: u122 :: u123 :: u124 :: u125 :: u126 :: u127 :: u128 :: u129 :: u130 :: u131 :: u132 :: u133 :: u134 :: ↑V :: ↑() :: u137 :: u138 :: u139 :: u140 :: u141 :: u142 :: u143 :: u144 :: u145 :: u146 :: u147 :: u148 :: u149 :: u150 :: u151 :: u152 :: u153 :: u154 :: u155 :: u156 :: u157 :: u158 :: u159 :: u160 :: u161 :: u162 :: u163 :: u164 :: u165 :: u166 :: u167 :: u168 :: u169 :: u170 :: u171 :: u172 :: u173 :: u174 :: u175 :: u176 :: u177 :: u178 :: u179 :: u180 :: u181 :: u182 :: u183 :: u184 :: u185 :: u186 :: u187 :: u188 :: u189 :: u190 :: []).toArray,ds⟩ W:=by
 have HE:=hd_ hexit
 clear hexit
 conv=>arg 4;whnf
 gi_loopw [136] (fun i wr=>∃ k:Nat,k≤V∧i=↑k∧Off [xb] W.heap.size W wr∧Blk wr xb (Zbc (Zb1 gs t first white s k)) 248) (fun i _=>V - (intOf i).toNat)
 case atStart=>exact ⟨0,om_,rfl,Off.refl _ _ _,bx⟩
 case round =>
  obtain ⟨k,hk,rfl,hO,hx⟩:=hrel
  have e8:=hO.blk b8 b8.lt (by simpa using d1)
  have e10:=hO.blk b10 b10.lt (by simpa using d2)
  have e16:=hO.blk b16 b16.lt (by simpa using d4)
  have eg:=bg.off hO hgb (by simpa using d3)
  have hxl:xb < wr.heap.size:=hx.lt
  have hnw:=hO.size
  have hgbw:gb < wr.heap.size:=by omega
  have n8:=b8.lt
  have n10:=b10.lt
  have n16:=b16.lt
  have nx:=bx.lt
  have hsk:∀ i,Zb1 gs t first white s k i < 1000:=fun i=>by have:=Zgp gs t first white s k i;have:=hs i;omega
  clear b8 b10 b16 bg bx hs
  by_cases hlt:k < V
  ·have hlti:(k:Int) < V:=by omega
   have hk8:(k:Int) < 8:=by omega
   have hc1:=Zdc t k om_
   have hc2:=Zcl t k om_
   have hix:=Zhx t k om_
   have HS:Hid (Zb1 gs t first white s (k+1)=if (t k).1=first∧(t k).2=white then Ztb gs (Zb1 gs t first white s k) k else Zb1 gs t first white s k):=rfl
   generalize Zaj t=TC at *
   have r8:=e8.cell
   have r10:=e10.cell
   have r16:=e16.cell
   (repeat (first|((with_reducible refine Za8 ?_ ?_ ?_);(focus exact fun ⟨a,w,h⟩=>hQ ⟨a,w,h⟩);(focus rfl))|gi_step))
   go_wp2_with fail
   (repeat (first|((with_reducible refine Za8 ?_ ?_ ?_);(focus exact fun ⟨a,w,h⟩=>hQ ⟨a,w,h⟩);(focus rfl))|gi_step))
   go_wp2_with fail
   (repeat (first|((with_reducible refine Za8 ?_ ?_ ?_);(focus exact fun ⟨a,w,h⟩=>hQ ⟨a,w,h⟩);(focus rfl))|gi_step))
   by_cases hf:(t k).1=first
   ·have hfi:(((t k).1:Int) == (first:Int))=true:=by simp [hf]
    by_cases hw:(t k).2=white
    ·have hwi:((t k).2 == white)=true:=by simp [hw]
     have h2:=HS.out
     rw [if_pos ⟨hf,hw⟩] at h2
     have hW0:=b_with (Zb1 gs t first white s k) hsk gb gc gs hgl hvo k k rfl om_ wr.drew eg
     rw [← h2] at hW0
     clear h2 HS hf hw hsk
     obtain ⟨s2,hS3⟩:∃ s2,Zb1 gs t first white s (k+1)=s2:=⟨_,rfl⟩
     rw [hS3] at hW0
     have HW:=hd_ hW0
     have HS3:=hd_ hS3
     clear hS3 hW0
     generalize Zb1 gs t first white s k=s1 at *
     refine Ord.wpIn_region (fun ⟨a,w,h⟩=>hQ ⟨a,w,h⟩) [(0,0),(1,0),(2,0),(3,0),(4,0),(5,0),(6,0),(7,0),(8,0),(9,0),(10,0),(11,0),(12,0),(13,0)] (fun _=>True) kr_ kr_ kr_ (fun c a d v w h=>(hP c _ w h).elim) trivial ?_
     go_wp2_with (first|(refine o_ ?_;intro K hK)|(with_reducible first|refine Zyo ?_ ?_|refine Zyj ?_|refine Zyf bn_ (fun _=>?_)))
     (repeat (first|((with_reducible refine Za8 ?_ ?_ ?_);(focus exact fun ⟨a,w,h⟩=>hQ ⟨a,w,h⟩);(focus rfl))|gi_step))
     have q1:=Zdd s1
     have q2:=Zdd s2
     have q3:=Zht s2
     generalize hX1:Zbc s1=X1 at *
     generalize hX2:Zbc s2=X2 at *
     have HX2:=hd_ hX2
     clear hX2
     clear eg e8 e16 r8 r16 hc1 hc2 hix hX1
     go_wp2_with (first
      | (refine Za0 248 (.tmp 21) Zep rfl rfl rfl hx.drew q1 ?_)
      | (go_at_call 193;refine HW.out.mono ?_;rintro e w4 ⟨rfl,hb4⟩)
      | (refine Za1 248 (.tmp 21) (.tmp 156) Zep rfl rfl rfl rfl (hx.drew.below hb4 hxl) q1 q2 q3 ?_;intro w5 h5))
     (repeat (first|((with_reducible refine Za8 ?_ ?_ ?_);(focus exact fun ⟨a,w,h⟩=>hQ ⟨a,w,h⟩);(focus rfl))|gi_step))
     go_wp2_with fail
     refine ⟨⟨k+1,om_,by go_num,((hO.drew.trans (Off.of_below hb4 hnw)).rowed h5 sp_),(by rw [HS3.out,HX2.out];exact h5.blk)⟩,by simp [intOf];omega⟩
    ·have hwi:((t k).2 == white)=false:=by simp [hw]
     have h2:=HS.out
     rw [if_neg (fun e=>hw e.2)] at h2
     clear HS hf hw hsk
     exact Ql
   ·have hfi:(((t k).1:Int) == (first:Int))=false:=by simp;omega
    have h2:=HS.out
    rw [if_neg (fun e=>hf e.1)] at h2
    clear HS hf hsk
    exact Ql
  ·have hkl:k=V:=by omega
   subst hkl
   (repeat (first|((with_reducible refine Za8 ?_ ?_ ?_);(focus exact fun ⟨a,w,h⟩=>hQ ⟨a,w,h⟩);(focus rfl))|gi_step))
   go_wp2_with fail
   (repeat (first|((with_reducible refine Za8 ?_ ?_ ?_);(focus exact fun ⟨a,w,h⟩=>hQ ⟨a,w,h⟩);(focus rfl))|gi_step))
   exact HE.out _ _ _ _ _ _ _ _ _ _ _ _ _ _ _ _ _ _ _ _ _ _ _ _ hO hx
end Go.Proofs.YtbapgefodmmikaaGreatDoor
