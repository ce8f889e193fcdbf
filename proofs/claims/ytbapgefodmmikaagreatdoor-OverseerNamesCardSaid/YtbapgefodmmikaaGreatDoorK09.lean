/- Parts of a proof. -/
import Derived.Test.YtbapgefodmmikaaGreatDoorKMin
import Derived.Test.YtbapgefodmmikaaGreatDoorK08
set_option linter.unusedVariables false
set_option linter.unusedSimpArgs false
set_option maxHeartbeats 40000000
set_option maxRecDepth 100000
namespace Go.Ord.Two
variable {P:Program}{ops:Array Oper}{Q:Exit→Act→World→Prop}{H:World→Prop}{hold:Nat→Bool}
def op (P:Program) (ops:Array Oper) (eff hold:Nat→Bool) (H:World→Prop) (Q:Exit→Act→World→Prop) (i:Nat) (K:Act→World→Prop) (a:Act) (w:World):Prop :=
 match ops[i]? with
 | none=>K a w
 | some o=>if Region.wanted o (yielded ops a.tmps) then
   (if eff i then o.wp P a w (fun a' w'=>(hold i=true→H w')∧K a' w') Q∨(o.asks P a w∧LetsOut Q)
    else ∃ v,Zxq P o a w v∧K (a.put o.dst v) w)
  else K (a.put o.dst undef) w
variable {eff:Nat→Bool}
theorem op_mono {i:Nat}{a:Act}{w:World}{K K':Act→World→Prop}(h:∀ a w,K a w→K' a w) (hh:op P ops eff hold H Q i K a w):op P ops eff hold H Q i K' a w:=Qv
def any (P:Program) (ops:Array Oper) (eff hold:Nat→Bool) (H:World→Prop) (Q:Exit→Act→World→Prop):Nat→Array Bool→Act→World→Prop
 | 0,listed,a,w=>Region.ready .any ops listed=[]∧Q .normal a w
 | fuel+1,listed,a,w =>
  (Region.ready .any ops listed=[]→Q .normal a w) ∧
  ∀ i∈Region.ready .any ops listed,op P ops eff hold H Q i (any P ops eff hold H Q fuel (listed.setIfInBounds i true)) a w
theorem wpOp_of_op {i:Nat}{K K':Act→World→Prop}{a:Act}{w:World}(h:∀ a w,K a w→K' a w) (hh:op P ops eff hold H Q i K a w):wpOp P ops Q i K' a w:=Q36
theorem wpAny_of_any:∀ (fuel:Nat) (listed:Array Bool) (a:Act) (w:World),any P ops eff hold H Q fuel listed a w→wpAny P .any ops Q fuel listed a w
 | 0,_,_,_,h=>h
 | fuel+1,_,_,_,h=>⟨h.1,fun i hi=>wpOp_of_op (fun a w=>wpAny_of_any fuel _ a w) (h.2 i hi)⟩
variable {C:World→Prop}
theorem Ztw {eff:Nat→Bool}{i:Nat}{o:Oper}{v:Value}{a:Act}{w:World}(hi:ops[i]? = some o) (he:eff i=false) (hw:C w) (hy:Yl P ops C o v a) {K:Act→World→Prop}(h:K (a.put o.dst v) w) :
  op P ops eff hold H Q i K a w:=by
 unfold op
 exact Q11
theorem op_put {j:Nat}{oi oj:Oper}{v:Value}(hj:ops[j]? = some oj) (hap:oi.apart ops oj=true)
  (hsi:∀ cs b,oi.op≠.select cs b) (hsj:∀ cs b,oj.op≠.select cs b) (hQ:∀ c a w,Q (.panic c) (a.put oi.dst v) w→Q (.panic c) a w) {K:Act→World→Prop}{a:Act}{w:World}
  (hy:Yl P ops C oi v a) (h:op P ops eff hold H Q j K (a.put oi.dst v) w) :
  op P ops eff hold H Q j (fun a' w'=>Yl P ops C oi v a'∧K (a'.put oi.dst v) w') a w:=Q3
theorem any_first {L:Array Bool}{i:Nat}{oi:Oper}{v:Value}(hi:ops[i]? = some oi) (he:eff i=false) (hsel:∀ (j:Nat) (o:Oper) cs b,ops[j]? = some o→o.op≠.select cs b)
  (hQ:∀ c a w,Q (.panic c) (a.put oi.dst v) w→Q (.panic c) a w) :
  ∀ (fuel:Nat) (listed:Array Bool) (a:Act) (w:World),H w→Calm ops (fun j=>eff j && !hold j) i L listed →
   (∀ j oj,ops[j]? = some oj→j≠i→listed.getD j true=false→(∀ e∈oj.after,Region.binds .any e=true→e.on≠i)→oi.apart ops oj=true) →
   i∈Region.ready .any ops listed→Yl P ops H oi v a →
   any P ops eff hold H Q fuel (listed.setIfInBounds i true) (a.put oi.dst v) w→any P ops eff hold H Q (fuel+1) listed a w:=by
 intro fuel
 induction fuel with
 | zero =>
  intro listed a w hw _ _ hr hy h
  refine ⟨fun h0=>(by rw [h0] at hr;cases hr),fun j hj=>?_⟩
  by_cases hji:j=i
  ·subst hji;exact Ztw hi he hw hy h
  ·have:=ready_mono hj hji
   rw [h.1] at this
   cases this
 | succ fuel ih =>
  intro listed a w hw hc hfree hr hy h
  refine ⟨fun h0=>(by rw [h0] at hr;cases hr),fun j hj=>?_⟩
  by_cases hji:j=i
  ·subst hji;exact Ztw hi he hw hy h
  ·have h1:=h.2 j (ready_mono hj hji)
   obtain ⟨hjun,oj,hoj,hall⟩:=mem_ready.1 hj
   obtain ⟨hej,hLj⟩:=hc.read hj hji
   have hnot:=Ze6 hr hoj hall
   have h2:=op_put hoj (hfree j oj hoj hji hjun hnot) (fun cs b=>hsel i oi cs b hi) (fun cs b=>hsel j oj cs b hoj) hQ hy h1
   have hfree':∀ k ok,ops[k]? = some ok→k≠i→(listed.setIfInBounds j true).getD k true=false →
     (∀ e∈ok.after,Region.binds .any e=true→e.on≠i)→oi.apart ops ok=true:=fun k ok hk hki hun hno=>by exact Q34
   have hH:op P ops eff hold H Q j (fun a' w'=>H w'∧Yl P ops H oi v a'∧any P ops eff hold H Q fuel ((listed.setIfInBounds i true).setIfInBounds j true) (a'.put oi.dst v) w') a w:=by
    revert h2
    unfold op
    simp only [hoj]
    intro h2
    split
    ·rename_i hwt
     simp only [hwt,if_true] at h2
     split
     ·rename_i hef
      simp only [hef,if_true] at h2
      exact h2.imp (Oper.wp_mono (fun a w hk=>⟨fun _=>hk.1 (by simpa [hef] using hej),hk.1 (by simpa [hef] using hej),hk.2⟩)) id
     ·exact Q1k
    ·rename_i hwt
     simp only [hwt] at h2
     exact ⟨hw,h2⟩
   refine op_mono (fun a' w' h3=>ih (listed.setIfInBounds j true) a' w' h3.1 (hc.set hLj) hfree' (ready_mono hr (Ne.symm hji)) h3.2.1 ?_) hH
   rw [Array.setIfInBounds_comm _ _ hji]
   exact h3.2.2
theorem any_calm {i:Nat}{oi:Oper}{v:Value}{w:World}{L:Array Bool}(hi:ops[i]? = some oi) (he:eff i=false) (hsel:∀ (j:Nat) (o:Oper) cs b,ops[j]? = some o→o.op≠.select cs b)
  (hQ:∀ c a w,Q (.panic c) (a.put oi.dst v) w→Q (.panic c) a w) :
  ∀ (fuel:Nat) (listed:Array Bool) (a:Act),Calm ops eff i L listed →
   (∀ j oj,ops[j]? = some oj→j≠i→listed.getD j true=false→(∀ e∈oj.after,Region.binds .any e=true→e.on≠i)→oi.apart ops oj=true) →
   i∈Region.ready .any ops listed→Yl P ops (· = w) oi v a →
   any P ops eff hold H Q fuel (listed.setIfInBounds i true) (a.put oi.dst v) w→any P ops eff hold H Q (fuel+1) listed a w:=by
 intro fuel
 induction fuel with
 | zero =>
  intro listed a _ _ hr hy h
  refine ⟨fun h0=>(by rw [h0] at hr;cases hr),fun j hj=>?_⟩
  by_cases hji:j=i
  ·subst hji;exact Ztw (C:=(· = w)) hi he rfl hy h
  ·have:=ready_mono hj hji
   rw [h.1] at this
   cases this
 | succ fuel ih =>
  intro listed a hc hfree hr hy h
  refine ⟨fun h0=>(by rw [h0] at hr;cases hr),fun j hj=>?_⟩
  by_cases hji:j=i
  ·subst hji;exact Ztw (C:=(· = w)) hi he rfl hy h
  ·have h1:=h.2 j (ready_mono hj hji)
   obtain ⟨hej,hLj⟩:=hc.read hj hji
   obtain ⟨hjun,oj,hoj,hall⟩:=mem_ready.1 hj
   have hnot:=Ze6 hr hoj hall
   have h2:=op_put hoj (hfree j oj hoj hji hjun hnot) (fun cs b=>hsel i oi cs b hi) (fun cs b=>hsel j oj cs b hoj) hQ hy h1
   have hfree':∀ k ok,ops[k]? = some ok→k≠i→(listed.setIfInBounds j true).getD k true=false →
     (∀ e∈ok.after,Region.binds .any e=true→e.on≠i)→oi.apart ops ok=true:=fun k ok hk hki hun hno=>by exact Q34
   have hH:op P ops eff hold H Q j (fun a' w'=>w'=w∧Yl P ops (· = w) oi v a'∧any P ops eff hold H Q fuel ((listed.setIfInBounds i true).setIfInBounds j true) (a'.put oi.dst v) w') a w:=Q38
   exact Q3d
theorem Zsc {eff:Nat→Bool}{i:Nat}{oi:Oper}{v:Value}(hi:ops[i]? = some oi) (he:eff i=false) (hsel:∀ (j:Nat) (o:Oper) cs b,ops[j]? = some o→o.op≠.select cs b)
  (hQ:∀ c a w,Q (.panic c) (a.put oi.dst v) w→Q (.panic c) a w) :
  ∀ (fuel:Nat) (listed:Array Bool) (a:Act) (w:World),
   (∀ j oj,ops[j]? = some oj→j≠i→listed.getD j true=false→(∀ e∈oj.after,Region.binds .any e=true→e.on≠i)→oi.apart ops oj=true) →
   i∈Region.ready .any ops listed→Yl P ops (fun _=>True) oi v a →
   any P ops eff hold H Q fuel (listed.setIfInBounds i true) (a.put oi.dst v) w→any P ops eff hold H Q (fuel+1) listed a w:=by
 intro fuel
 induction fuel with
 | zero =>
  intro listed a w _ hr hy h
  refine ⟨fun h0=>(by rw [h0] at hr;cases hr),fun j hj=>?_⟩
  by_cases hji:j=i
  ·subst hji;exact Ztw (C:=fun _=>True) hi he trivial hy h
  ·have:=ready_mono hj hji
   rw [h.1] at this
   cases this
 | succ fuel ih =>
  intro listed a w hfree hr hy h
  refine ⟨fun h0=>(by rw [h0] at hr;cases hr),fun j hj=>?_⟩
  by_cases hji:j=i
  ·subst hji;exact Ztw (C:=fun _=>True) hi he trivial hy h
  ·have h1:=h.2 j (ready_mono hj hji)
   obtain ⟨hjun,oj,hoj,hall⟩:=mem_ready.1 hj
   have hnot:=Ze6 hr hoj hall
   have h2:=op_put hoj (hfree j oj hoj hji hjun hnot) (fun cs b=>hsel i oi cs b hi) (fun cs b=>hsel j oj cs b hoj) hQ hy h1
   have hfree':∀ k ok,ops[k]? = some ok→k≠i→(listed.setIfInBounds j true).getD k true=false →
     (∀ e∈ok.after,Region.binds .any e=true→e.on≠i)→oi.apart ops ok=true:=fun k ok hk hki hun hno=>by exact Q34
   refine op_mono (fun a' w' h3=>ih (listed.setIfInBounds j true) a' w' hfree' (ready_mono hr (Ne.symm hji)) h3.1 ?_) h2
   rw [Array.setIfInBounds_comm _ _ hji]
   exact h3.2
def ok1 (ops:Array Oper) (eff hold:Nat→Bool) (k c:Nat) (listed:Array Bool):Bool :=
 if eff k then c == 2 && hold k && decide (Region.ready .any ops listed=[k])
 else decide (c < 2) && (Region.ready .any ops listed).contains k && Region.free .any ops listed k && (if c == 1 then calm ops (fun j=>eff j && !hold j) k listed else calm ops eff k listed)
def Zjd (ops:Array Oper) (eff hold:Nat→Bool):List (Nat × Nat)→Array Bool→Option (Array Bool)
 | [],listed=>some listed
 | (k,c) :: l,listed=>if ok1 ops eff hold k c listed=true then Zjd ops eff hold l (listed.setIfInBounds k true) else none
def Zuw (ops:Array Oper) (eff hold:Nat→Bool):List (Nat × Nat)→Array Bool→Bool
 | [],listed=>(Region.ready .any ops listed).isEmpty
 | (k,c) :: l,listed =>
  (if eff k then c == 2 && !hold k && decide (Region.ready .any ops listed=[k])
   else decide (c < 2) && (Region.ready .any ops listed).contains k && Region.free .any ops listed k && (c == 1 || calm ops eff k listed)) &&
  Zuw ops eff hold l (listed.setIfInBounds k true)
def Zfy (l:List (Nat × Nat)) (i:Nat):Bool:=l.any fun (k,c)=>k == i && c == 2
def planOk (ops:Array Oper) (l1 l2:List (Nat × Nat)):Bool :=
 Region.noSelect ops && l1.length+l2.length == ops.size &&
 match Zjd ops (Zfy (l1 ++ l2)) (Zfy l1) l1 (Array.replicate ops.size false) with
 | none=>false
 | some L=>Zuw ops (Zfy (l1 ++ l2)) (Zfy l1) l2 L
variable {eff:Nat→Bool}
theorem wp_qn {o:Oper}{a:Act}{w:World}{K R:Act→World→Prop}(h:o.wp P a w K (Qn Q R)):o.wp P a w K Q:=by
 unfold Oper.wp at *
 generalize (execOp a.eval o).run P w=r at *
 cases r with
 | ok x w'=>cases x <;> simp only [Oper.upon] at h ⊢ <;> exact h
 | halt x w'=>cases x <;> simp only [Oper.upon] at h ⊢ <;> exact h
theorem Zfe (hs:Region.noSelect ops=true) (hQ:∀ c a d v w,Q (.panic c) (a.put d v) w→Q (.panic c) a w):∀ (l:List (Nat × Nat)) (listed:Array Bool) (a:Act) (w:World),listed.size=ops.size →
  Zuw ops eff hold l listed=true→walk P ops (fun _=>True) Q l a w→any P ops eff hold H Q l.length listed a w
 | [],_,_,_,_,hB,h=>⟨by simpa [Zuw] using hB,h⟩
 | (k,c) :: l,listed,a,w,hsz,hB,h=>by
  rw [Zuw,Bool.and_eq_true] at hB
  obtain ⟨hB,hB'⟩:=hB
  rw [walk] at h
  cases ho:ops[k]? with
  | none=>simp only [ho] at h
  | some o =>
   simp only [ho] at h
   have hsz':(listed.setIfInBounds k true).size=ops.size:=by simp [hsz]
   have ih:∀ a w,walk P ops (fun _=>True) Q l a w→any P ops eff hold H Q l.length (listed.setIfInBounds k true) a w:=fun a w h2=>Zfe hs hQ l _ a w hsz' hB' h2
   cases he:eff k with
   | true =>
    simp only [he,if_true,Bool.and_eq_true,beq_iff_eq,decide_eq_true_eq,Bool.not_eq_true'] at hB
    obtain ⟨⟨rfl,hh⟩,hr⟩:=hB
    refine ⟨fun h0=>(by rw [h0] at hr;cases hr),fun j hj=>?_⟩
    rw [hr] at hj
    have hjk:j=k:=by simpa using hj
    subst hjk
    unfold op
    simp only [ho,he,if_true]
    split
    ·rename_i hwt
     simp only [hwt,if_true] at h
     exact h.imp (Oper.wp_mono (fun a w hk=>⟨fun e=>(by rw [hh] at e;cases e),ih a w hk.2⟩)) id
    ·rename_i hwt
     simp only [hwt] at h
     exact ih _ _ h
   | false =>
    simp only [he,Bool.false_eq_true,if_false,Bool.and_eq_true,Bool.or_eq_true,beq_iff_eq,decide_eq_true_eq] at hB
    obtain ⟨⟨⟨hc2,hr⟩,hf⟩,hcc⟩:=hB
    have hr':k∈Region.ready .any ops listed:=by simpa using hr
    by_cases hwt:Region.wanted o (yielded ops a.tmps)=true
    ·simp only [hwt,if_true] at h
     match c,hc2,h with
     | 0,_,h =>
      obtain ⟨v,h1,h2⟩:=h
      obtain ⟨L,hL⟩:=Zdf hsz (hcc.resolve_left sp_)
      exact any_calm ho he (Region.noSelect_spec hs) (fun c a w=>hQ c a _ _ w) l.length listed a hL (Region.free_spec ho hf) hr' (.inl ⟨hwt,fun w' e=>by subst e;exact h1⟩) (ih _ _ h2)
     | 1,_,h =>
      obtain ⟨v,h1,h2⟩:=h
      exact Zsc ho he (Region.noSelect_spec hs) (fun c a w=>hQ c a _ _ w) l.length listed a w (Region.free_spec ho hf) hr' (.inl ⟨hwt,h1⟩) (ih _ _ h2)
     | (n+2),hc2,_=>exact absurd hc2 om_
    ·have hwt':Region.wanted o (yielded ops a.tmps)=false:=by simpa using hwt
     simp only [hwt',Bool.false_eq_true,if_false] at h
     exact Zsc ho he (Region.noSelect_spec hs) (fun c a w=>hQ c a _ _ w) l.length listed a w (Region.free_spec ho hf) hr' (.inr ⟨hwt',rfl⟩) (ih _ _ h)
theorem Zff {R:Act→World→Prop}{m:Nat}{LL:Array Bool}(hs:Region.noSelect ops=true) (hQ:∀ c a d v w,Q (.panic c) (a.put d v) w→Q (.panic c) a w)
  (hR:∀ a w,R a w→any P ops eff hold H Q m LL a w):∀ (l:List (Nat × Nat)) (listed:Array Bool) (a:Act) (w:World),listed.size=ops.size→H w →
  Zjd ops eff hold l listed=some LL→walk P ops H (Qn Q R) l a w→any P ops eff hold H Q (l.length+m) listed a w
 | [],listed,a,w,_,hw,hB,h=>by
  simp only [Zjd,Option.some.injEq] at hB
  subst hB
  simp only [List.length_nil,Nat.zero_add]
  exact hR a w h
 | (k,c) :: l,listed,a,w,hsz,hw,hB,h=>by
  rw [Zjd] at hB
  split at hB
  ·rename_i hb
   unfold ok1 at hb
   rw [walk] at h
   cases ho:ops[k]? with
   | none=>simp only [ho] at h
   | some o =>
    simp only [ho] at h
    have hsz':(listed.setIfInBounds k true).size=ops.size:=by simp [hsz]
    have ih:∀ a w,H w→walk P ops H (Qn Q R) l a w→any P ops eff hold H Q (l.length+m) (listed.setIfInBounds k true) a w:=fun a w h1 h2=>Zff hs hQ hR l _ a w hsz' h1 hB h2
    have hlen:((k,c) :: l).length+m=l.length+m+1:=by simp;omega
    rw [hlen]
    cases he:eff k with
    | true =>
     simp only [he,if_true,Bool.and_eq_true,beq_iff_eq,decide_eq_true_eq] at hb
     obtain ⟨⟨rfl,hh⟩,hr⟩:=hb
     refine ⟨fun h0=>(by rw [h0] at hr;cases hr),fun j hj=>?_⟩
     rw [hr] at hj
     have hjk:j=k:=by simpa using hj
     subst hjk
     unfold op
     simp only [ho,he,if_true]
     split
     ·rename_i hwt
      simp only [hwt,if_true] at h
      refine h.imp (fun h=>Oper.wp_mono (fun a w hk=>⟨fun _=>hk.1,ih a w hk.1 hk.2⟩) (wp_qn h)) id
     ·rename_i hwt
      simp only [hwt] at h
      exact ih _ _ hw h
    | false =>
     simp only [he,Bool.false_eq_true,if_false,Bool.and_eq_true,decide_eq_true_eq] at hb
     obtain ⟨⟨⟨hc2,hr⟩,hf⟩,hcc⟩:=hb
     have hr':k∈Region.ready .any ops listed:=by simpa using hr
     have hc01:c=0∨c=1:=by omega
     by_cases hwt:Region.wanted o (yielded ops a.tmps)=true
     ·simp only [hwt,if_true] at h
      rcases hc01 with rfl|rfl
      ·simp only at h hcc
       obtain ⟨v,h1,h2⟩:=h
       obtain ⟨L,hL⟩:=Zdf hsz (by simpa using hcc)
       exact Q13
      ·simp only at h hcc
       obtain ⟨v,h1,h2⟩:=h
       obtain ⟨L,hL⟩:=Zdf hsz (by simpa using hcc)
       exact any_first ho he (Region.noSelect_spec hs) (fun c a w=>hQ c a _ _ w) (l.length+m) listed a w hw hL (Region.free_spec ho hf) hr' (.inl ⟨hwt,h1⟩) (ih _ _ hw h2)
     ·have hwt':Region.wanted o (yielded ops a.tmps)=false:=by simpa using hwt
      simp only [hwt',Bool.false_eq_true,if_false] at h
      rcases hc01 with rfl|rfl
      ·obtain ⟨L,hL⟩:=Zdf hsz (by simpa using hcc)
       exact any_calm ho he (Region.noSelect_spec hs) (fun c a w=>hQ c a _ _ w) (l.length+m) listed a hL (Region.free_spec ho hf) hr' (.inr ⟨hwt',rfl⟩) (ih _ _ hw h)
      ·obtain ⟨L,hL⟩:=Zdf hsz (by simpa using hcc)
       exact any_first ho he (Region.noSelect_spec hs) (fun c a w=>hQ c a _ _ w) (l.length+m) listed a w hw hL (Region.free_spec ho hf) hr' (.inr ⟨hwt',rfl⟩) (ih _ _ hw h)
  ·cases hB
theorem _root_.Ql {p:Prop}(h:p:=by
 have hsz:L.size=lo.toArray.size:=by
  have:∀ (l:List (Nat × Nat)) (x y:Array Bool),Zjd lo.toArray (Zfy (l1 ++ l2)) (Zfy l1) l x=some y→y.size=x.size:=by
   intro l
   induction l with
   | nil=>intro x y h;simp only [Zjd,Option.some.injEq] at h;rw [h]
   | cons p l ih =>
    intro x y h
    rw [Zjd] at h
    split at h
    ·rw [ih _ _ h];simp
    ·cases h
  rw [this _ _ _ hL];simp
 have h2:=Zff (H:=H) (eff:=Zfy (l1 ++ l2)) (hold:=Zfy l1) hs hQ (m:=l2.length) (fun a w hR=>Zfe hs hQ l2 L a w hsz hp hR) l1 (Array.replicate lo.toArray.size false) a _ sp_ hH hL h
 rw [hl] at h2
 exact h2):p:=h
theorem wp_region {id:Nat}{a:Act}{w:World}{lo:List Oper}(l1 l2:List (Nat × Nat)) (H:World→Prop) (hm:P.follows .mixedOrders=true) (hp:planOk lo.toArray l1 l2=true)
  (hQ:∀ c a d v w,Q (.panic c) (a.put d v) w→Q (.panic c) a w) (hH:H w.drew) (h:walk P lo.toArray H (Qn Q (walk P lo.toArray (fun _=>True) Q l2)) l1 a w.drew):(Code.region id lo.toArray true).wp P Q a w:=by
 simp only [planOk,Bool.and_eq_true,beq_iff_eq] at hp
 obtain ⟨⟨hs,hl⟩,hp⟩:=hp
 split at hp
 ·cases hp
 ·rename_i L hL
  refine wp_region_any hm (wpAny_of_any (H:=H) (eff:=Zfy (l1 ++ l2)) (hold:=Zfy l1) _ _ _ _ ?_)
  exact Ql
theorem walk_next {a:Act}{w:World}{lo:List Oper}{l2:List (Nat × Nat)}(h:walk P lo.toArray (fun _=>True) Q l2 a w):walk P lo.toArray H (Qn Q (walk P lo.toArray (fun _=>True) Q l2)) [] a w:=h
end Go.Ord.Two
namespace Go.Proofs.YtbapgefodmmikaaGreatDoor
open Go.RowKit Go.Proofs Go.Ord Tryz
attribute [local irreducible] Ord.walk
theorem Zww (b:Bn) (ga:Option Addr) (gc:Nat) (pa:Option Addr) (pc:Nat) (F:FuncId) (cap:Array Value) (w:World)
  (hgl:b.gs.length≤9223372036854775807) (hpl:b.ps.length≤9223372036854775807) (hh:Zdy b=false) :
  Calls prog 83 #[bv b ga gc pa pc,.func (.func F) #[] cap] w (Zx9 1 w):=by
 unfold bv
 rcases b with ⟨V,nd,lo,hi,gs,ps⟩
 have HH:=hd_ hh
 simp only at hgl hpl
 clear hh
 go_enter func83,ntmps83
 go_wp2_with (first
  | (go_at_call 190;refine (Zcb _ _ _ _).mono ?_;rintro e w' ⟨rfl,rfl⟩)
  | (go_at_call 189;refine (Zit _ _ _ _).mono ?_;rintro e w2 ⟨rfl,hb2⟩;obtain ⟨c2,f2,z2⟩:=after hb2 rfl)
  | (go_at_call 101;refine (Zi2 _ V _ _ ?_).mono ?_;(focus (simp [go_sem];done));rintro e w' ⟨rfl,rfl⟩)
  | (go_at_call 102;refine Za2 ?_))
 all_goals (unfold Stop)
 all_goals (try (rw [show decide ((ps.length:Int)≤4)=false from (by
  have:=HH.out
  simp [Zdy, *] at this
  simp;omega)]))
 all_goals (with_reducible refine (Zcc _ _).mono ?_)
 all_goals (rintro e w' ⟨rfl,rfl⟩)
 all_goals (refine ⟨rfl,rfl,?_⟩)
 all_goals exact bel_
def gkn (g:Int × Int × Int):Kn:=.g g.1.toNat g.2.1 g.2.2
def pkn (p:Int × Int × Bool):Kn:=.p p.1.toNat p.2.1.toNat p.2.2
def knOf (b:Bn):List Kn:=b.gs.map gkn ++ b.ps.map pkn
def Zbv (b:Bn) (isB:Bool) (ga:Option Addr) (gc:Nat) (pa:Option Addr) (pc:Nat) (w:World) (e:Ending) (w':World):Prop :=
 if valid b=false then Zx9 1 w e w' else if isB=false then Zx9 2 w e w' else
  ∃ v ka kc,e=.returned (.pointer (some ⟨v,0,none⟩))∧Vt w' v b b.V.toNat (knOf b) ga gc pa pc ka kc∧w w'∧w.heap.size≤v
theorem Zv1 {w:World}{base:Nat}{e:TypeId}{size:Nat}{v:Value}{n:Nat}{xs:List Value}(h:w.ownsRow base e size v n xs):∀ g,v.ownBlock=some g→base≤g:=by
 intro g hg
 obtain ⟨hl,⟨rfl,-⟩ | ⟨g',cap,cur,rfl,hg',hh,hn,hc,hs,ht⟩⟩:=h
 ·cases hg
 ·simp only [Value.ownBlock,Option.some.injEq] at hg
  omega
theorem Zoc {w:World}{base:Nat}{e:TypeId}{size:Nat}{v:Value}{n:Nat}{xs:List Value}(h:w.ownsRow base e size v n xs) (hn:0 < n):∃ g c,v=.slice (some ⟨g,0,none⟩) n c:=by
 obtain ⟨hl,⟨-,h0⟩ | ⟨g',cap,cur,rfl,hg',hh,hn,hc,hs,ht⟩⟩:=h
 ·omega
 ·exact ⟨_,_,rfl⟩
theorem Zru {w w':World}{base:Nat}{e:TypeId}{size:Nat}{v:Value}{n:Nat}{xs:List Value}(h:w.ownsRow base e size v n xs) (hk:∀ g,base≤g→g < w.heap.size→w'.heap[g]? = w.heap[g]?):w'.ownsRow base e size v n xs:=Q1t
theorem own_kn {w:World}{base:Nat}{v:Value}{ks:List Kn}(h:w.ownsRow base 154 1 v ks.length (ks.map knV)):∃ ka kc,v=.slice ka ks.length kc∧KnAt w ka ks:=by
 obtain ⟨hl,⟨rfl,h0⟩ | ⟨g,cap,cur,rfl,hg,hh,hn,hc,hs,ht⟩⟩:=h
 ·refine ⟨none,0,by rw [h0],fun i hi=>om_⟩
 ·refine ⟨_,cap,rfl,fun i hi=>⟨g,0,rfl,?_⟩⟩
  rw [cell_of_row w g (0+i) cur _ (0,0) hh,Nat.zero_add]
  have h1:(ks.map knV)[i]? = some (knV ks[i]):=by simp [hi]
  rw [← ht,List.getElem?_take] at h1
  split at h1
  ·simpa using h1
  ·cases h1
theorem knOf_ok {b:Bn}(h:valid b=true):∀ x∈knOf b,knOk x:=by
 intro x hx
 rcases List.mem_append.1 hx with hx|hx
 ·obtain ⟨g,hg,rfl⟩:=List.mem_map.1 hx
  obtain ⟨i,hi,rfl⟩:=List.mem_iff_getElem.1 hg
  have:=Zu7 h hi
  show _ < 256
  omega
 ·obtain ⟨p,hp,rfl⟩:=List.mem_map.1 hx
  obtain ⟨i,hi,rfl⟩:=List.mem_iff_getElem.1 hp
  have:=Zu5 h hi
  have hV:=Zb4 h
  exact ⟨by show _ < 8;omega,by show _ < 8;omega⟩
theorem knOf_gs (b:Bn):(knOf b).countP isG=b.gs.length:=by
 unfold knOf
 rw [List.countP_append,List.countP_map,List.countP_map]
 have h1:(isG ∘ gkn)=fun _=>true:=by funext g;rfl
 have h2:(isG ∘ pkn)=fun _=>false:=by funext g;rfl
 rw [h1,h2];simp
theorem Zis (b:Bn):(knOf b).length=b.gs.length+b.ps.length:=by simp [knOf]
structure Zxc (w0:World) (V nd lo hi:Int) (ga:Option Addr) (gl gc:Nat) (pa:Option Addr) (pl pc:Nat) (ks:List Kn) (w:World) (vs:Value):Prop where
 below:w0 w
 bb:Blk w w0.heap.size #[V,nd,lo,hi,.slice ga gl gc,.slice pa pl pc] 54
 bv:Blk w (w0.heap.size+1) #[V,nd,lo,hi,.slice ga gl gc,.slice pa pl pc,vs] 232
 own:w.ownsRow (w0.heap.size+2) 154 1 vs ks.length (ks.map knV)
 size:w0.heap.size+2≤w.heap.size
theorem _root_.Qf {p:Prop}(h:p:=by
 go_wp2_with (first
  | (go_at_call 89;refine (HVt.out _ _ rv3).mono ?_;rintro e w' ⟨rfl,rfl⟩)
  | (go_at_call 102;refine Za2 ?_))
 unfold Stop
 with_reducible refine (Zcc _ _).mono ?_
 rintro e w' ⟨rfl,rfl⟩
 refine ⟨rfl,?_⟩
 unfold Zbv
 rw [if_pos hv]
 exact ⟨rfl,hB3⟩):p:=h
theorem Zhz (b:Bn) (ga:Option Addr) (gc:Nat) (pa:Option Addr) (pc:Nat) (F:FuncId) (cap:Array Value) (isB:Bool) (w:World) (hg:GsAt w ga b.gs) (hp:PsAt w pa b.ps) (hh:Zdy b=true)
  (hcf:∀ (args:Array Value) (W:World),(callFunc F args).run prog W=.ok (.enter F args) W) (HIS0:∀ w' v,Below w.heap.size w w'→w'.cell? ⟨v,0,none⟩=some (.int .i64 b.V)→Calls prog F (#[.pointer (some ⟨v,0,none⟩)] ++ cap) w' (Same (.bool isB) w')) :
  Calls prog 83 #[bv b ga gc pa pc,.func (.func F) #[] cap] w (Zbv b isB ga gc pa pc w):=by
 have HIS:=hd_ HIS0
 clear HIS0
 have HPOST:Hid (∀ e w',Zbv b isB ga gc pa pc w e w'=Zbv b isB ga gc pa pc w e w'):=fun _ _=>rfl
 unfold bv
 have GNO:Hid (∀ {k:Nat}(hk:k < b.gs.length),gOk b.V b.gs[k]=false→valid b=false):=hd_ gOk_no
 have PNO:Hid (∀ {k:Nat}(hk:k < b.ps.length),pOk b.V b.ps[k]=false→valid b=false):=hd_ pOk_no
 simp only [Zdy,Bool.and_eq_true,decide_eq_true_eq] at hh
 obtain ⟨⟨⟨⟨h1,h2⟩,h3⟩,h4⟩,h5⟩:=hh
 have h6:(b.gs.length:Int)≤4:=by omega
 have h7:(b.ps.length:Int)≤4:=by omega
 have hV:=Zdo h1
 rcases b with ⟨V,nd,lo,hi,gs,ps⟩
 simp only at h1 h2 h3 h4 h5 h6 h7 hV hg hp
 obtain ⟨VN,rfl⟩:∃ VN:Nat,V=(VN:Int):=⟨V.toNat,om_⟩
 have HM:=hd_ Zi0
 obtain ⟨i0,hi0,hz0,hz1,hz2⟩:=info_parts Zm0
 go_enter func83,ntmps83
 go_wp2_with (first
  | (go_at_call 190;refine (Zcb _ _ _ _).mono ?_;rintro e w' ⟨rfl,rfl⟩)
  | (go_at_call 189;refine (Zit _ _ _ _).mono ?_;rintro e w2 ⟨rfl,hb2⟩;obtain ⟨c2,f2,z2⟩:=after hb2 rfl)
  | (go_at_call 101;refine (Zi2 _ VN _ _ ?_).mono ?_;(focus (simp [go_sem];done));rintro e w' ⟨rfl,rfl⟩)
  | (go_at_call 102;refine Za2 ?_))
 unfold Stop
 refine (HM.out _ _).mono ?_
 rintro e w' ⟨rfl,rfl⟩
 have hbW:Below w.heap.size w w2:=by exact bel_
 have hs2:w.heap.size+2≤w2.heap.size:=by have:=hb2.size;simp at this;omega
 have bb2:Blk w2 w.heap.size #[VN,nd,lo,hi,.slice ga gs.length gc,.slice pa ps.length pc] 54:=((Blk.new _ _ _).alloc _).below hb2 ar_
 have bv2:Blk w2 (w.heap.size+1) #[VN,nd,lo,hi,.slice ga gs.length gc,.slice pa ps.length pc,.slice none 0 0] 232:=(Blk.new' _ _ _ _ sp_).below hb2 ar_
 have h0:Zxc w VN nd lo hi ga gs.length gc pa ps.length pc ((gs.take 0).map gkn) w2 (.slice none 0 0):=⟨hbW,bb2,bv2,⟨rfl,.inl ⟨rfl,rfl⟩⟩,hs2⟩
 have rb:=bb2.cell
 clear hb2 c2 f2 z2 hbW hs2 bv2
 go_wp2_with fail
 go_loopw [47] (fun i wr=>∃ (k:Nat) (vs:Value),k≤gs.length∧i=↑k∧(gs.take k).all (gOk VN)=true∧Zxc w VN nd lo hi ga gs.length gc pa ps.length pc ((gs.take k).map gkn) wr vs) (fun i _=>gs.length - (intOf i).toNat)
 case atStart=>exact ⟨0,_,Nat.zero_le _,rfl,sp_,h0⟩
 case round =>
  clear h0 rb bb2
  obtain ⟨k,vs,hk,rfl,hall,hAt⟩:=hrel
  have HA:=hd_ hall
  clear hall
  have rb:=hAt.bb.cell
  by_cases hlt:k < gs.length
  ·obtain ⟨gb,go,rfl,e1,e2,e3⟩:=hg k hlt
   have hgb:gb < w.heap.size:=bl_ w _ e1
   have i1:=Za4 hAt.below e1
   have i2:=Za4 hAt.below e2
   have i3:=Za4 hAt.below e3
   have HOK:=hd_ (GNO.out hlt)
   have hlt':(k:Int) < gs.length:=by omega
   have HTE:=hd_ (fun h1=>Zsd gs (gOk VN) k hlt HA.out h1)
   have HTK:=hd_ (List.take_succ_eq_append_getElem hlt)
   generalize gs[k]=g at *
   rcases g with ⟨gv,gl,gh⟩
   simp only at i1 i2 i3
   clear e1 e2 e3
   go_wp2_with fail
   have hwp:=Zm9 VN om_
   have hgk:gOk VN (gv,gl,gh)=(inB gv 0 (((2 ^ VN:Nat):Int) - 1) && Zo2 gl gh 8):=rfl
   have hPl:=Nat.pow_le_pow_right (n:=2) om_ (show VN≤8 by omega)
   have hPg:=Nat.two_pow_pos VN
   generalize hp2:2 ^ VN=P at hwp hgk hPl hPg
   replace hPl:P≤256:=hPl
   clear hp2
   obtain ⟨w3,hw3⟩:∃ w3,w3=wr.alloc (.cells #[gv,gl,gh] 133):=⟨_,rfl⟩
   have hbr:Below wr.heap.size wr w3:=by rw [hw3];exact br_.alloc nl_ _
   have b8:Blk w3 wr.heap.size #[gv,gl,gh] 133:=by rw [hw3];exact Blk.new _ _ _
   have hs3:w3.heap.size=wr.heap.size+1:=by rw [hw3];simp
   rw [← hw3]
   clear hw3
   have bb3:=hAt.bb.below hbr hAt.bb.lt
   have r8:=b8.cell
   have r9:=bb3.cell
   clear rb i1 i2 i3
   have hz:=hAt.size
   generalize hgk0:wr.heap.size=gk at *
   have HGK0:=hd_ hgk0
   clear hgk0
   cases hc1:inB gv 0 ((P:Int) - 1)
   ·have hv:=HOK.out (by rw [hgk,hc1];rfl)
    clear hgk HTE HOK
    refine Ord.wp_region [(0,0),(1,0),(2,0),(3,0),(4,0),(5,0),(6,0),(7,0),(8,0),(9,0),(10,0),(11,2),(12,0),(13,2)] (fun _=>True) kr_ kr_ (fun c a d v w h=>by cases d <;> exact h) trivial ?_
    go_wp2_with (first
     | (go_at_call 102;refine Za2 ?_)
     | (refine o_ ?_;intro K hK)|(with_reducible first|refine Zxn ?_ ?_|refine Zxi ?_|refine Zxe bn_ (fun _=>?_))
     | ((with_reducible refine Zxf ?_);refine Zxu rfl (fun W=>call190 _ W) (Zcb _ _ _ _) (fun K hK=>?_))|((with_reducible refine Zxd ?_);refine Ord.wild_call rfl (fun W=>call190 _ W) (fun W hW=>Zcb _ _ _ _) (fun K hK=>?_)))
    unfold Stop
    with_reducible refine (Zcc _ _).mono ?_
    rintro e w' ⟨rfl,rfl⟩
    refine ⟨rfl,?_⟩
    unfold Zbv
    rw [if_pos hv]
    exact ⟨rfl,(hAt.below.trans (hbr.mono om_)).drew⟩
   ·cases hc2:Zo2 gl gh 8
    ·have hv:=HOK.out (by rw [hgk,hc1,hc2];rfl)
     clear hgk HTE HOK
     refine Ord.wp_region [(0,0),(1,0),(2,0),(3,0),(4,0),(5,0),(6,0),(7,0),(8,0),(9,0),(10,0),(11,2),(12,0),(13,2)] (fun _=>True) kr_ kr_ (fun c a d v w h=>by cases d <;> exact h) trivial ?_
     go_wp2_with (first
      | (go_at_call 102;refine Za2 ?_)
      | (go_at_call 189;refine (Zit _ _ _ _).mono ?_;rintro e w4 ⟨rfl,hb4⟩)
      | (refine o_ ?_;intro K hK)|(with_reducible first|refine Zxn ?_ ?_|refine Zxi ?_|refine Zxe bn_ (fun _=>?_))
      | ((with_reducible refine Zxf ?_);refine Zxu rfl (fun W=>call190 _ W) (Zcb _ _ _ _) (fun K hK=>?_))|((with_reducible refine Zxd ?_);refine Ord.wild_call rfl (fun W=>call190 _ W) (fun W hW=>Zcb _ _ _ _) (fun K hK=>?_)))
     unfold Stop
     with_reducible refine (Zcc _ _).mono ?_
     rintro e w' ⟨rfl,rfl⟩
     refine ⟨rfl,?_⟩
     unfold Zbv
     rw [if_pos hv]
     exact ⟨rfl,((hAt.below.trans (hbr.mono om_)).drew).trans (hb4.mono (by show _≤w3.heap.size;omega))⟩
    ·have hte:=HTE.out (by rw [hgk,hc1,hc2];rfl)
     have HTE2:=hd_ hte
     have hgv:=Zdo hc1
     clear hgk HTE HOK hte
     refine Ord.wp_region [(0,0),(1,0),(2,0),(3,0),(4,0),(5,0),(6,0),(7,0),(8,0),(9,0),(10,0),(11,2),(12,0),(13,2)] (fun _=>True) kr_ kr_ (fun c a d v w h=>by cases d <;> exact h) trivial ?_
     go_wp2_with (first
      | (go_at_call 102;refine (HM.out _ _).mono ?_;rintro e w' ⟨rfl,rfl⟩)
      | (go_at_call 189;refine (Zit _ _ _ _).mono ?_;rintro e w4 ⟨rfl,hb4⟩)
      | (refine o_ ?_;intro K hK)|(with_reducible first|refine Zxn ?_ ?_|refine Zxi ?_|refine Zxe bn_ (fun _=>?_))
      | ((with_reducible refine Zxf ?_);refine Zxu rfl (fun W=>call190 _ W) (Zcb _ _ _ _) (fun K hK=>?_))|((with_reducible refine Zxd ?_);refine Ord.wild_call rfl (fun W=>call190 _ W) (fun W hW=>Zcb _ _ _ _) (fun K hK=>?_)))
     have hBw4:Below w.heap.size w w4:=((hAt.below.trans (hbr.mono om_)).drew).trans (hb4.mono (by show _≤w3.heap.size;omega))
     have bb4:=bb3.drew.below hb4 (by show _ < w3.heap.size;have:=bb3.lt;omega)
     have bv3:=hAt.bv.below hbr om_
     have bv4:=bv3.drew.below hb4 (by show _ < w3.heap.size;omega)
     have b84:=b8.drew.below hb4 (by show _ < w3.heap.size;omega)
     have hown4:w4.ownsRow (w.heap.size+2) 154 1 vs ((gs.take k).map gkn).length (((gs.take k).map gkn).map knV):=Ze7 (Ze7 hAt.own (by rw [HGK0.out];exact hbr)).drew hb4
     have hs4:gk+1≤w4.heap.size:=by have:=hb4.size;have h2:w3.drew.heap.size=w3.heap.size:=rfl;omega
     have c6:=bv4.cell 6
     have c84:=b84.cell
     have f6:=bv4.free
     obtain ⟨gn,rfl⟩:∃ gn:Nat,gv=(gn:Int):=⟨gv.toNat,om_⟩
     have hvb:w.heap.size+1 < w4.heap.size:=by omega
     clear hb4 hbr b8 r8 r9 bb3 hs3
     refine Ord.Two.wp_region [(0,1),(1,1),(2,1),(3,1),(4,1),(5,0),(6,0),(7,0),(8,0),(9,0),(10,0),(11,0),(12,2),(13,2)] [(14,0),(15,0),(16,2)] (fun W=>W.cell? ⟨w.heap.size+1,6,none⟩=some vs) kr_ kr_ (fun c a d v w h=>by cases d <;> exact h) c6 ?_
     go_wp2_with (first
      | (with_reducible refine Ord.Two.walk_next ?_)
      | (at_builtin;refine Za2 ?_)
      | ((with_reducible refine Zxd ?_);refine Zxp (ad:=⟨w.heap.size+1,6,none⟩) vs rfl rfl ?_ ?_;(focus (intro W hW;simp [go_sem,hW];done));intro K hK)
      | ((with_reducible refine Zxh rfl ?_ (fun K hK=>?_));(focus (first|assumption|exact c6|(simp [c6];done)|(rw [World.cell?_alloc_ite,if_neg om_];exact c6))))
      | ((with_reducible refine Zxe ?_ (fun hOF=>?_));(focus (first|assumption|exact c6|(simp [c6];done)|(rw [World.cell?_alloc_ite,if_neg om_];exact c6))))
      | (refine o_ ?_;intro K hK)|(with_reducible first|refine Zxn ?_ ?_|refine Zxi ?_|refine Zxe bn_ (fun _=>?_)))
     unfold Stop
     have hlen:((gs.take k).map gkn).length=k:=by simp;omega
     have hvb4:=bv4.lt
     refine wpList_append_own _ rfl (.tmp 69) (.tmp 77) 230 rfl (w.heap.size+2) 154 i0 .nilIface 1 16 underlying230 hi0 hz0 hz1 hz2 rfl de_ vs ((gs.take k).map gkn).length (((gs.take k).map gkn).map knV) rfl (World.ownsRow.alloc hown4 _).drew ⟨w4.heap.size,0,none⟩ 1 1 [knV (gkn ((gn:Int),gl,gh))] rfl rfl (Zmr (A:=#[knV (gkn ((gn:Int),gl,gh))]) (Blk.new _ _ _).drew) (by intro u hu;simp only [List.mem_singleton] at hu;subst hu;exact Zmt _) (by rw [hlen];unfold maxLen;omega) (by rw [hlen];omega) (by show _≤(w4.alloc _).heap.size;simp;omega) ?_
     intro v5 w5 hown5 hgrow5 _
     have hO5:Off [] (w.heap.size+2) w4 w5:=(((Off.refl [] (w.heap.size+2) w4).alloc om_ _).drew).grown hgrow5 (by show _≤(w4.alloc _).heap.size;simp;omega) (fun g hg=>.inr (Zv1 hown4 g hg))
     have bb5:=hO5.blk bb4 om_ sp_
     have bv5:=hO5.blk bv4 om_ sp_
     have hB5:Below w.heap.size w w5:=hBw4.trans (hO5.below om_ sp_)
     have hs5:=hgrow5.size
     have hs5':w4.heap.size+1≤w5.heap.size:=by
      have:(w4.alloc (.cells #[knV (gkn ((gn:Int),gl,gh))] 154)).drew.heap.size=w4.heap.size+1:=by simp
      have h2:=hs5;simp at h2;omega
     obtain ⟨g5,q5,rfl⟩:=Zoc hown5 om_
     have c6':=bv5.cell 6
     have f6':=bv5.free
     clear f6 c84 hgrow5 hs5
     go_wp2_with (first
      | (with_reducible refine Ord.Two.walk_next ?_)
      | ((with_reducible refine Zxh rfl ?_ (fun K hK=>?_));(focus trivial))
      | ((with_reducible refine Zxe ?_ (fun hOF=>?_));(focus (first|exact c6'|trivial)))
      | (refine o_ ?_;intro K hK)|(with_reducible first|refine Zxn ?_ ?_|refine Zxi ?_|refine Zxe bn_ (fun _=>?_)))
     rw [hlen] at hown5
     refine ⟨⟨k+1,.slice g5 (k+1) q5,om_,by go_num,HTE2.out,hB5.setCell (by show _≤_+1;omega) _,bb5.other (by show w.heap.size≠w.heap.size+1;omega) _,bv5.set 6 _,?_,by simp;omega⟩,by simp [intOf];omega⟩
     have h9:=Zru (w':=w5.setCell ⟨w.heap.size+1,6,none⟩ (.slice g5 (k+1) q5)) hown5 (fun g h1 h2=>Below.heap_setCell w5 _ _ g (by show g≠w.heap.size+1;omega))
     rw [HTK.out,List.map_append,List.map_append,List.length_append,hlen]
     exact h9
  ·have hkl:k=gs.length:=by omega
   subst hkl
   rw [List.take_length] at hAt HA
   have rv0:=hAt.bv.cell
   go_wp2_with fail
   go_loopw [85] (fun i wx=>∃ (j:Nat) (vs:Value),j≤ps.length∧i=↑j∧(ps.take j).all (pOk VN)=true∧Zxc w VN nd lo hi ga gs.length gc pa ps.length pc (gs.map gkn ++ (ps.take j).map pkn) wx vs) (fun i _=>ps.length - (intOf i).toNat)
   case atStart=>exact ⟨0,vs,Nat.zero_le _,rfl,sp_,by simpa using hAt⟩
   case round =>
    clear hAt rb rv0
    obtain ⟨j,vs2,hj,rfl,hallp,hAt⟩:=hrel
    have HAP:=hd_ hallp
    clear hallp
    have rb:=hAt.bb.cell
    have rv:=hAt.bv.cell
    by_cases hjt:j < ps.length
    ·obtain ⟨pb,po,rfl,e1,e2,e3⟩:=hp j hjt
     have hpb:pb < w.heap.size:=bl_ w _ e1
     have i1:=Za4 hAt.below e1
     have i2:=Za4 hAt.below e2
     have i3:=Za4 hAt.below e3
     have HOK:=hd_ (PNO.out hjt)
     have hjt':(j:Int) < ps.length:=by omega
     have HTE:=hd_ (fun h1=>Zsd ps (pOk VN) j hjt HAP.out h1)
     have HTK:=hd_ (List.take_succ_eq_append_getElem hjt)
     generalize ps[j]=p at *
     rcases p with ⟨pA,pB,pS⟩
     simp only at i1 i2 i3
     clear e1 e2 e3
     go_wp2_with (first
      | (go_at_call 89;refine Za2 ?_))
     unfold Stop
     have HVt:Hid (∀ n W,W.cell? ⟨w.heap.size+1,0,none⟩=some (.int .i64 VN)→Calls prog 89 #[.pointer (some ⟨w.heap.size+1,0,none⟩),.int .i64 n] W (Same (.bool (inB n 0 ((VN:Int) - 1))) W)):=by
      intro n W hW
      have:=Zpe (w.heap.size+1) VN n W hW
      have hw1:wrap64 ((VN:Int) - 1)=VN - 1:=by unfold wrap64;omega
      rwa [hw1] at this
     have hpk:pOk VN (pA,pB,pS)=(inB pA 0 ((VN:Int) - 1) && inB pB 0 ((VN:Int) - 1) && !(pA == pB)):=rfl
     obtain ⟨w3,hw3⟩:∃ w3,w3=wr.alloc (.cells #[pA,pB,.bool pS] 135):=⟨_,rfl⟩
     have hbr:Below wr.heap.size wr w3:=by rw [hw3];exact br_.alloc nl_ _
     have b8:Blk w3 wr.heap.size #[pA,pB,.bool pS] 135:=by rw [hw3];exact Blk.new _ _ _
     have hs3:w3.heap.size=wr.heap.size+1:=by rw [hw3];simp
     rw [← hw3]
     clear hw3
     have bb3:=hAt.bb.below hbr hAt.bb.lt
     have bv3:=hAt.bv.below hbr hAt.bv.lt
     have hown3:=Ze7 hAt.own hbr
     have r8:=b8.cell
     have rv3:w3.cell? ⟨w.heap.size+1,0,none⟩=some (.int .i64 VN):=bv3.cell 0
     have hz:=hAt.size
     have hB3:Below w.heap.size w w3:=hAt.below.trans (hbr.mono om_)
     clear rb rv i1 i2 i3
     generalize hgk0:wr.heap.size=gk at *
     have HS3:=hd_ hs3
     clear hgk0 hs3
     cases hc1:inB pA 0 ((VN:Int) - 1)
     ·have hv:=HOK.out (by rw [hpk,hc1];rfl)
      clear hpk HTE HOK
      exact Qf
     ·cases hc2:inB pB 0 ((VN:Int) - 1)
      ·have hv:=HOK.out (by rw [hpk,hc1,hc2];rfl)
       clear hpk HTE HOK
       exact Qf
      ·cases hc3:(pA == pB)
       ·have hte:=HTE.out (by rw [hpk,hc1,hc2,hc3];rfl)
        have HTE2:=hd_ hte
        have hne:(pA != pB)=true:=by simp [bne,hc3]
        have hgA:=Zdo hc1
        have hgB:=Zdo hc2
        clear hpk HTE HOK hte hc3
        go_wp2_with (first
         | (go_at_call 89;refine (HVt.out _ _ rv3).mono ?_;rintro e w' ⟨rfl,rfl⟩)
         | (go_at_call 102;refine (HM.out _ _).mono ?_;rintro e w' ⟨rfl,rfl⟩))
        have hs3:=HS3.out
        obtain ⟨nA,rfl⟩:∃ nA:Nat,pA=(nA:Int):=⟨pA.toNat,om_⟩
        obtain ⟨nB,rfl⟩:∃ nB:Nat,pB=(nB:Int):=⟨pB.toNat,om_⟩
        have hlen:(gs.map gkn ++ (ps.take j).map pkn).length=gs.length+j:=by simp;omega
        have c6:=bv3.cell 6
        have f6:=bv3.free
        have hvb:w.heap.size+1 < w3.heap.size:=by omega
        clear hs3
        refine Ord.Two.wp_region [(0,1),(1,1),(2,1),(3,1),(4,1),(5,0),(6,0),(7,0),(8,0),(9,2),(10,2)] [(11,0),(12,0),(13,2)] (fun W=>W.cell? ⟨w.heap.size+1,6,none⟩=some vs2) kr_ kr_ (fun c a d v w h=>by cases d <;> exact h) c6 ?_
        go_wp2_with (first
         | (with_reducible refine Ord.Two.walk_next ?_)
         | (at_builtin;refine Za2 ?_)
         | ((with_reducible refine Zxd ?_);refine Zxp (ad:=⟨w.heap.size+1,6,none⟩) vs2 rfl rfl ?_ ?_;(focus (intro W hW;simp [go_sem,hW];done));intro K hK)
         | ((with_reducible refine Zxh rfl ?_ (fun K hK=>?_));(focus (first|assumption|exact c6|(simp [c6];done)|(rw [World.cell?_alloc_ite,if_neg om_];exact c6))))
         | ((with_reducible refine Zxe ?_ (fun hOF=>?_));(focus (first|assumption|exact c6|(simp [c6];done)|(rw [World.cell?_alloc_ite,if_neg om_];exact c6))))
         | (refine o_ ?_;intro K hK)|(with_reducible first|refine Zxn ?_ ?_|refine Zxi ?_|refine Zxe bn_ (fun _=>?_)))
        unfold Stop
        have hs3:=HS3.out
        refine wpList_append_own _ rfl (.tmp 111) (.tmp 116) 230 rfl (w.heap.size+2) 154 i0 .nilIface 1 16 underlying230 hi0 hz0 hz1 hz2 rfl de_ vs2 (gs.map gkn ++ (ps.take j).map pkn).length ((gs.map gkn ++ (ps.take j).map pkn).map knV) rfl (World.ownsRow.alloc hown3 _).drew ⟨w3.heap.size,0,none⟩ 1 1 [knV (pkn ((nA:Int),(nB:Int),pS))] rfl rfl (Zmr (A:=#[knV (pkn ((nA:Int),(nB:Int),pS))]) (Blk.new _ _ _).drew) (by intro u hu;simp only [List.mem_singleton] at hu;subst hu;exact Zmt _) (by rw [hlen];unfold maxLen;omega) (by rw [hlen];omega) (by show _≤(w3.alloc _).heap.size;simp;omega) ?_
        intro v5 w5 hown5 hgrow5 _
        have hO5:Off [] (w.heap.size+2) w3 w5:=(((Off.refl [] (w.heap.size+2) w3).alloc om_ _).drew).grown hgrow5 (by show _≤(w3.alloc _).heap.size;simp;omega) (fun g hg=>.inr (Zv1 hown3 g hg))
        have bb5:=hO5.blk bb3 om_ sp_
        have bv5:=hO5.blk bv3 om_ sp_
        have hB5:Below w.heap.size w w5:=hB3.trans (hO5.below om_ sp_)
        have hs5:=hgrow5.size
        have hs5':w3.heap.size+1≤w5.heap.size:=by have h2:=hs5;simp at h2;omega
        obtain ⟨g5,q5,rfl⟩:=Zoc hown5 om_
        have c6':=bv5.cell 6
        have f6':=bv5.free
        clear f6 hgrow5 hs5 hs3
        rw [hlen] at hown5
        go_wp2_with (first
         | (with_reducible refine Ord.Two.walk_next ?_)
         | ((with_reducible refine Zxh rfl ?_ (fun K hK=>?_));(focus trivial))
         | ((with_reducible refine Zxe ?_ (fun hOF=>?_));(focus (first|exact c6'|trivial)))
         | (refine o_ ?_;intro K hK)|(with_reducible first|refine Zxn ?_ ?_|refine Zxi ?_|refine Zxe bn_ (fun _=>?_)))
        have hs3:=HS3.out
        have h9:=Zru (w':=w5.setCell ⟨w.heap.size+1,6,none⟩ (.slice g5 (gs.length+j+1) q5)) hown5 (fun g h1 h2=>Below.heap_setCell w5 _ _ g (by show g≠w.heap.size+1;omega))
        refine ⟨⟨j+1,.slice g5 (gs.length+j+1) q5,om_,by go_num,HTE2.out,hB5.setCell (by show _≤_+1;omega) _,bb5.other (by show w.heap.size≠w.heap.size+1;omega) _,bv5.set 6 _,?_,by simp;omega⟩,by simp [intOf];omega⟩
        rw [HTK.out,List.map_append,← List.append_assoc,List.map_append,List.length_append,hlen]
        exact h9
       ·have hv:=HOK.out (by rw [hpk,hc1,hc2,hc3];rfl)
        have hne:(pA != pB)=false:=by simp [bne,hc3]
        clear hpk HTE HOK hc3
        exact Qf
    ·have hjl:j=ps.length:=by omega
     subst hjl
     rw [List.take_length] at hAt HAP
     have hval:valid ⟨VN,nd,lo,hi,gs,ps⟩=true:=by simp only [valid,Zdy,Bool.and_eq_true,decide_eq_true_eq];exact ⟨⟨⟨⟨⟨⟨h1,h2⟩,h3⟩,h4⟩,h5⟩,HA.out⟩,HAP.out⟩
     have HVAL:=hd_ hval
     clear hval
     have hcall:=hd_ (HIS.out wr (w.heap.size+1) hAt.below (hAt.bv.cell 0))
     cases isB
     ·go_wp2_with fail
      refine hcall.out.mono ?_
      rintro e w' ⟨rfl,rfl⟩
      go_wp2_with (go_at_call 102;refine Za2 ?_)
      unfold Stop
      refine (Zcc _ _).mono ?_
      rintro e w' ⟨rfl,rfl⟩
      refine ⟨rfl,?_⟩
      unfold Zbv
      rw [if_neg (by rw [HVAL.out];simp),if_pos rfl]
      exact ⟨rfl,hAt.below⟩
     ·go_wp2_with fail
      refine hcall.out.mono ?_
      rintro e w' ⟨rfl,rfl⟩
      go_wp2_with (go_at_call 102;refine (HM.out _ _).mono ?_;rintro e w' ⟨rfl,rfl⟩)
      go_ret
      unfold Zbv
      rw [if_neg (by rw [HVAL.out];simp),if_neg sp_]
      have hown:=hAt.own
      obtain ⟨ka,kc,rfl,hkn⟩:=own_kn hown
      have hlen:=Zis ⟨VN,nd,lo,hi,gs,ps⟩
      have rc:=hAt.bv.cell
      refine ⟨w.heap.size+1,ka,kc,rfl,⟨⟨rc 0,rc 1,rc 2,rc 3,rc 4,rc 5,rc 6⟩,hkn,sp_,by show 1≤VN;omega,by show VN≤8;omega,?_,?_,by rw [hlen];show gs.length+ps.length≤8;omega,knOf_ok HVAL.out,by rw [knOf_gs];exact h4⟩,hAt.below,om_⟩
      ·exact (Zr8 HVAL.out).1
      ·have:=Zr8 HVAL.out;show hi≤8;simp only at this;omega
end Go.Proofs.YtbapgefodmmikaaGreatDoor
