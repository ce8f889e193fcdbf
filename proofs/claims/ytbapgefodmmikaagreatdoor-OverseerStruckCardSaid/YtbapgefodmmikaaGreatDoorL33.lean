/- Parts of a proof. -/
import Derived.Test.YtbapgefodmmikaaGreatDoorLMin
import Derived.Test.YtbapgefodmmikaaGreatDoorL32
set_option linter.unusedVariables false
set_option linter.unusedSimpArgs false
set_option maxHeartbeats 40000000
set_option maxRecDepth 100000
namespace Go.Proofs.YtbapgefodmmikaaGreatDoor
open Go.RowKit Go.Proofs Go.Ord Tryz
attribute [local irreducible] Ord.walk
open Go.MapG
attribute [local go_sem] Oper.semAt_some
abbrev Wv:=Int × Value
def vfW (x:Wv):Value:=.agg #[.int .i64 x.1,x.2]
def okW (s:Bs):Prop:=s.length≤1000000
theorem strV_inj {a b:Bs}(h:strV a=strV b):a=b:=by
 unfold strV at h
 simp only [Value.string.injEq,ByteArray.mk.injEq] at h
 have:=congrArg Array.toList h
 simpa using this
theorem kw_key {s:Bs}(h:okW s):∃ l,keyOf prog 9 (strV s)=some l :=
 ⟨_,WideMaps.keyOf_string_mk (P:=prog) underlying9 (s:=⟨s.toArray⟩) (by
  unfold okW at h
  simp only [ByteArray.size,List.size_toArray]
  unfold maxLen
  omega)⟩
theorem kw_zero (w:World):(zeroValue 114).run prog w=.ok (.agg #[(),.nilFunc]) w:=by
 have h:(prog.info? 114).map (·.zero)=some (some (.agg #[(),.nilFunc])):=by kernel_rfl
 cases hi:prog.info? 114 with
 | none=>rw [hi] at h;cases h
 | some i =>exact Q1r
theorem ww_mt:MT prog 116 9 114 strV vfW okW (.agg #[(),.nilFunc]) where
 und:=underlying116
 law:=Go.Maps.string_keyed underlying9
 key:=kw_key
 inj:=strV_inj
 zero:=kw_zero
def WordsAt (w:World) (m:Nat) (l:List (Bs × Wv)):Prop:=MapAt strV vfW w m l∧MapG.MapOk okW l
theorem ins_word {ops:Array Oper}{Q:Exit→Act→World→Prop}{o:Oper}{rest:List Oper}{a:Act}{w:World}(x y u:Operand) (hgd:o.guard=none) (ho:o.op=.insert 116 x y u) {m:Nat}(hx:a.eval x=.map (some m)) {n:Bs}(hy:a.eval y=strV n) {c:Int}{fv:Value}(hz:a.eval u=.agg #[c,fv]) {l:List (Bs × Wv)}(h:WordsAt w m l) (hn:n.length≤1000000)
  (hK:∀ w',Turn w m w'→WordsAt w' m (MapG.put l n (c,fv))→wpList prog ops Q rest (a.put o.dst undef) w'):wpList prog ops Q (o :: rest) a w :=
 Zby ww_mt x y u hgd (.inr ho) hx hy (v:=((c,fv):Wv)) hz h.1 h.2 (hn:okW n) fun w' h1 h2=>hK w' h1 ⟨h2,h.2.put hn _⟩
theorem WordsAt.below {w w':World}{m:Nat}{l:List (Bs × Wv)}(h:WordsAt w m l) (hb:w w'):WordsAt w' m l:=⟨h.1.below hb h.1.lt,h.2⟩
theorem Zi8 {w:World}{m p:Nat}{l:List (Bs × Wv)}{A:Array Value}{t:TypeId}(h:WordsAt w m l) (hb:Blk w p A t):p≠m:=fun e=>by
 subst e
 have h1:=h.1
 unfold MapAt at h1
 rw [show w.heap[p]? = _ from hb] at h1
 cases h1
theorem CapAt.turn {B:Nat}{w w':World}{k f la m:Int}{fv:Value}(h:CapAt B w k f la m fv) {mm:Nat}{l:List (Bs × Wv)}(hm:WordsAt w mm l) (ht:Turn w mm w'):CapAt B w' k f la m fv:=by
 obtain ⟨p4,p5,p6,p7,hB,h⟩:=h
 refine ⟨p4,p5,p6,p7,⟨ht.blk hB.b4 (Zi8 hm hB.b4),ht.blk hB.b5 (Zi8 hm hB.b5),ht.blk hB.b6 (Zi8 hm hB.b6),ht.blk hB.b7 (Zi8 hm hB.b7)⟩,?_⟩
 by_cases h4:k=4
 ·rw [if_pos h4] at h ⊢
  obtain ⟨p,hB,e,hp⟩:=h
  exact ⟨p,hB,e,ht.blk hp (Zi8 hm hp)⟩
 ·rw [if_neg h4] at h ⊢
  by_cases h5:k=5
  ·rw [if_pos h5] at h ⊢
   obtain ⟨p,hB,e,hp⟩:=h
   exact ⟨p,hB,e,ht.blk hp (Zi8 hm hp)⟩
  ·rw [if_neg h5] at h ⊢
   exact h
theorem CapAt.mono {B B':Nat}{w:World}{k f la m:Int}{fv:Value}(h:CapAt B w k f la m fv) (hb:B'≤B):CapAt B' w k f la m fv:=by
 obtain ⟨p4,p5,p6,p7,hB,h⟩:=h
 refine ⟨p4,p5,p6,p7,hB,?_⟩
 by_cases h4:k=4
 ·rw [if_pos h4] at h ⊢
  obtain ⟨p,hB,e,hp⟩:=h
  exact ⟨p,om_,e,hp⟩
 ·rw [if_neg h4] at h ⊢
  by_cases h5:k=5
  ·rw [if_pos h5] at h ⊢
   obtain ⟨p,hB,e,hp⟩:=h
   exact ⟨p,om_,e,hp⟩
  ·rw [if_neg h5] at h ⊢
   exact h
def Caps (B:Nat) (w:World) (cs:List ((Int × Int × Int × Int) × Value)):Prop:=∀ c∈cs,CapAt B w c.1.1 c.1.2.1 c.1.2.2.1 c.1.2.2.2 c.2
theorem Caps.below {B:Nat}{w w':World}{cs:List ((Int × Int × Int × Int) × Value)}(h:Caps B w cs) (hb:w w'):Caps B w' cs:=fun c hc=>(h c hc).below hb
theorem Caps.turn {B:Nat}{w w':World}{cs:List ((Int × Int × Int × Int) × Value)}(h:Caps B w cs) {mm:Nat}{l:List (Bs × Wv)}(hm:WordsAt w mm l) (ht:Turn w mm w'):Caps B w' cs:=fun c hc=>(h c hc).turn hm ht
theorem Caps.cons {B:Nat}{w:World}{cs:List ((Int × Int × Int × Int) × Value)}(h:Caps B w cs) {k f la m:Int}{fv:Value}(hc:CapAt B w k f la m fv):Caps B w (((k,f,la,m),fv) :: cs):=fun c hm=>by
 rcases List.mem_cons.1 hm with rfl|hm
 ·exact hc
 ·exact h c hm
def Zuv (f0 f1 f2 f3 f4 f5:Value):List (Bs × Wv):=[([103,114,111,117,112],(Zg3 0,f0)),([112,97,105,114],(Zg3 1,f1)),([112,111,114,116],(Zg3 2,f2)),([112,101,110],(Zg3 3,f3)),([102,108,101,101,99,101],(Zg3 4,f4)),([102,101,108,116],(Zg3 5,f5)),([115,116,114,105,107,101],(0,.func (.func 152) #[] #[])),([119,104,105,116,101,115],(0,.func (.func 153) #[] #[])),([119,104,105,116,101],(1,.func (.func 154) #[] #[])),([107,110,111,119,110],(0,.func (.func 155) #[] #[])),([112,97,115,115,101,100],(0,.func (.func 156) #[] #[])),([116,101,108,108],(1,.func (.func 157) #[] #[])),([115,104,111,114,110],(1,.func (.func 158) #[] #[])),([105,110,115,105,100,101],(1,.func (.func 159) #[] #[])),([102,97,108,115,101],(0,.func (.func 160) #[] #[])),([119,114,111,110,103],(1,.func (.func 161) #[] #[])),([107,101,101,112,115],(1,.func (.func 162) #[] #[])),([109,111,114,101],(1,.func (.func 163) #[] #[]))]
theorem Zuu (f0 f1 f2 f3 f4 f5:Value):(MapG.put (MapG.put (MapG.put (MapG.put (MapG.put (MapG.put (MapG.put (MapG.put (MapG.put (MapG.put (MapG.put (MapG.put (MapG.put (MapG.put (MapG.put (MapG.put (MapG.put (MapG.put ([]) [103,114,111,117,112] (Zg3 0,f0)) [112,97,105,114] (Zg3 1,f1)) [112,111,114,116] (Zg3 2,f2)) [112,101,110] (Zg3 3,f3)) [102,108,101,101,99,101] (Zg3 4,f4)) [102,101,108,116] (Zg3 5,f5)) [115,116,114,105,107,101] (0,.func (.func 152) #[] #[])) [119,104,105,116,101,115] (0,.func (.func 153) #[] #[])) [119,104,105,116,101] (1,.func (.func 154) #[] #[])) [107,110,111,119,110] (0,.func (.func 155) #[] #[])) [112,97,115,115,101,100] (0,.func (.func 156) #[] #[])) [116,101,108,108] (1,.func (.func 157) #[] #[])) [115,104,111,114,110] (1,.func (.func 158) #[] #[])) [105,110,115,105,100,101] (1,.func (.func 159) #[] #[])) [102,97,108,115,101] (0,.func (.func 160) #[] #[])) [119,114,111,110,103] (1,.func (.func 161) #[] #[])) [107,101,101,112,115] (1,.func (.func 162) #[] #[])) [109,111,114,101] (1,.func (.func 163) #[] #[]):List (Bs × Wv))=Zuv f0 f1 f2 f3 f4 f5:=by kernel_rfl
def StW (w W:World) (N:Nat) (l:List (Bs × Wv)) (cs:List ((Int × Int × Int × Int) × Value)):Prop:=Below N w W∧WordsAt W N l∧Caps N W cs
theorem StW.made {w W W':World}{N:Nat}{l:List (Bs × Wv)}{cs:List ((Int × Int × Int × Int) × Value)}(h:StW w W N l cs) {k f la m:Int}{fv:Value}(hb:W W') (hc:CapAt W.heap.size W' k f la m fv):StW w W' N l (((k,f,la,m),fv) :: cs) :=
 ⟨h.1.trans (hb.mono (Nat.le_of_lt h.2.1.1.lt)),h.2.1.below hb,(h.2.2.below hb).cons (hc.mono (Nat.le_of_lt h.2.1.1.lt))⟩
theorem StW.turn {w W W':World}{N:Nat}{l l':List (Bs × Wv)}{cs:List ((Int × Int × Int × Int) × Value)}(h:StW w W N l cs) (ht:Turn W N W') (hw:WordsAt W' N l'):StW w W' N l' cs :=
 ⟨ht.below h.1 nl_,hw,h.2.2.turn h.2.1 ht⟩
theorem o_words (w:World) :
  Calls prog 65 #[] w (fun e w'=>∃ f0 f1 f2 f3 f4 f5,e=.returned (.map (some w.heap.size))∧Below w.heap.size w w'∧WordsAt w' w.heap.size (Zuv f0 f1 f2 f3 f4 f5)∧Caps w.heap.size w' [((5,5,5,30),f5),((4,2,4,8),f4),((3,2,4,8),f3),((2,2,4,8),f2),((1,1,1,4),f1),((0,0,0,4),f0)]):=by
 have HM:=hd_ (fun k f la m W=>o_made k f la m W)
 have h1:WordsAt (w.alloc (.map #[] 0)) w.heap.size []:=⟨MapAt.new w,MapG.MapOk.nil⟩
 have hB1:w (w.alloc (.map #[] 0)):=by exact bel_
 have hC1:Caps w.heap.size (w.alloc (.map #[] 0)) []:=fun c hc=>absurd hc sp_
 have hS:StW w _ _ _ _:=⟨hB1,h1,hC1⟩
 clear h1 hB1 hC1
 have hmm:=@run_makeMap prog
 go_enter func65,ntmps65
 go_wp2_with (first
  | (go_at_call 151;refine (HM.out _ _ _ _ _).mono ?_;rintro e W' ⟨fv,rfl,hb,hc⟩;replace hS:=hS.made hb hc;clear hb hc)
  | (refine ins_word (.tmp 1) _ _ rfl rfl rfl rfl rfl hS.2.1 de_ ?_;intro W' ht hw;replace hS:=hS.turn ht hw;clear ht hw))
 obtain ⟨h1,h2,h3⟩:=hS
 rw [Zuu] at h2
 go_ret
 exact ⟨_,_,_,_,_,_,rfl,h1,h2,h3⟩
end Go.Proofs.YtbapgefodmmikaaGreatDoor
namespace Go.Proofs.YtbapgefodmmikaaGreatDoor
open Go.RowKit Go.Proofs Go.Ord Tryz
attribute [local irreducible] Ord.walk
theorem I64.small {n:Int}(h : -1000000≤n∧n≤1000000):I64 n:=by unfold I64;omega
theorem wrap_i64 (x:Int):I64 (wrap64 x):=by unfold I64 wrap64;omega
theorem Zox {t:Tb}(h:∀ i k,I64 (t i k)) (a b:Nat) (m:Int):∀ i k,I64 (Zgb t a b m i k):=by
 intro i k
 unfold Zgb
 split
 ·exact h i k
 ·have h1:=h i k
  have h2:=wrap_i64 (wrap64 (t i a+m)+t b k)
  unfold I64 at *
  simp only
  omega
theorem putT_i64 {t:Tb}(h:∀ i k,I64 (t i k)) (x:Nat × Nat × Int × Int):∀ i k,I64 (putT t x i k):=Zox (Zox h _ _ _) _ _ _
theorem Zsr:∀ (l:List (Nat × Nat × Int × Int)) (t:Tb),(∀ i k,I64 (t i k))→∀ i k,I64 (l.foldl putT t i k)
 | [],t,h=>h
 | x :: l,t,h=>Zsr l _ (putT_i64 h x)
theorem Zv8 (t:Ty) (s:Nat):∀ i k,I64 (Zaa t s i k):=Zsr _ _ fun i k=>by unfold Zcu;split <;> exact I64.small om_
theorem Zsk (p:Bool) (t:Ty) (i:Int):I64 (ofR p t i).1.1∧I64 (ofR p t i).1.2:=by
 have h0:I64 0:=I64.small om_
 unfold ofR
 split
 ·exact ⟨h0,h0⟩
 ·split
  ·exact ⟨h0,h0⟩
  ·split
   ·exact ⟨h0,h0⟩
   ·exact ⟨wrap_i64 _,Zv8 t _ _ _⟩
theorem popT_le (n:Nat):popT n≤9:=Nat.le_trans (List.length_filter_le _ _) sp_
theorem Zpf (t:Ty):I64 (Zbs t).1.1∧I64 (Zbs t).1.2:=by
 have h0:I64 0:=I64.small om_
 unfold Zbs
 split
 ·exact ⟨h0,h0⟩
 ·rename_i hk
  have hk:tyOk t=true:=by simpa using hk
  have h8:t.calls.length≤8:=by
   unfold tyOk at hk
   simp only [Bool.and_eq_true,decide_eq_true_eq] at hk
   omega
  split
  ·rename_i s hs
   have hm:=List.mem_of_find?_eq_some hs
   unfold setsT at hm
   obtain ⟨c,-,h2⟩:=List.mem_flatMap.1 hm
   have h3:=List.mem_range.1 (List.mem_filter.1 h2).1
   have h4:2 ^ t.calls.length≤2 ^ 8:=Nat.pow_le_pow_right om_ h8
   have h5:=popT_le s
   exact ⟨I64.small (by show -1000000≤((popT s:Nat):Int)∧((popT s:Nat):Int)≤1000000;omega),I64.small (by show -1000000≤(s:Int)∧(s:Int)≤1000000;omega)⟩
  ·exact ⟨h0,h0⟩
theorem Zji (f:Nat→Int) (m:Int):∀ n,n≤31→(0≤(Zfz f m n).1∧(Zfz f m n).1≤30)∧0≤(Zfz f m n).2∧(Zfz f m n).2≤30
 | 0,_=>by simp [Zfz]
 | n+1,h=>by
  have ih:=Zji f m n om_
  rw [Zfz]
  split
  ·simp only
   omega
  ·exact ih
theorem Zo8 (c:Cl) (i:Int):I64 (Zc6 c i).1.1∧I64 (Zc6 c i).1.2:=by
 have h0:I64 0:=I64.small om_
 unfold Zc6
 split
 ·exact ⟨h0,h0⟩
 ·split
  ·exact ⟨h0,h0⟩
  ·split
   ·exact ⟨h0,h0⟩
   ·have:=Zji (Zbg c.drift.toNat c.bs i.toNat (Zag c.bs)) c.mist 31 om_
    exact ⟨I64.small (show -1000000≤(Zfz (Zbg c.drift.toNat c.bs i.toNat (Zag c.bs)) c.mist 31).1∧(Zfz (Zbg c.drift.toNat c.bs i.toNat (Zag c.bs)) c.mist 31).1≤1000000 by omega),I64.small (show -1000000≤(Zfz (Zbg c.drift.toNat c.bs i.toNat (Zag c.bs)) c.mist 31).2∧(Zfz (Zbg c.drift.toNat c.bs i.toNat (Zag c.bs)) c.mist 31).2≤1000000 by omega)⟩
theorem Zwf (c:Cl) (i:Int):I64 (Zdi c i).1:=by
 unfold Zdi Zmr
 split
 ·simp only
  repeat' split
  all_goals exact I64.small om_
 ·exact I64.small om_
theorem more_i64 (c:Cl) (i:Int):I64 (Zgn c i).1:=by
 have h0:I64 0:=I64.small om_
 unfold Zgn
 split
 ·exact h0
 ·rename_i hk
  split
  ·exact h0
  ·rename_i hi
   split
   ·exact h0
   ·split
    ·rename_i n hn
     have hm:=List.mem_range.1 (List.mem_of_find?_eq_some hn)
     have hib:i.toNat < c.bs.length:=by omega
     have hk:clOk c=true:=by simpa using hk
     have hb:Ze3 (c.bs.getD i.toNat (0,0,0))=true:=by
      unfold clOk at hk
      simp only [Bool.and_eq_true] at hk
      have hall:c.bs.all Ze3=true:=by simp_all
      rw [List.getD_eq_getElem?_getD,List.getElem?_eq_getElem hib]
      exact List.all_eq_true.1 hall _ (List.getElem_mem hib)
     unfold Ze3 at hb
     simp only [decide_eq_true_eq] at hb
     exact I64.small om_
    ·exact h0
theorem Zmg (n m:Nat):I64 (Zhy n m):=by
 unfold Zhy
 repeat' split
 all_goals exact I64.small om_
theorem lo_le (l:List Nat):loL l≤62:=by
 have key:∀ (l:List Nat) (a:Nat),a≤62→l.foldl (fun m x=>min m (sz x)) a≤62:=by
  intro l
  induction l with
  | nil=>intro a h;exact h
  | cons x l ih=>intro a h;exact ih _ (by show min a (sz x)≤62;omega)
 exact key l _ (sz_lt _)
theorem hi_le (l:List Nat):hiL l≤62:=by
 have key:∀ (l:List Nat) (a:Nat),a≤62→l.foldl (fun m x=>max m (sz x)) a≤62:=by
  intro l
  induction l with
  | nil=>intro a h;exact h
  | cons x l ih=>intro a h;exact ih _ (by have:=sz_lt x;show max a (sz x)≤62;omega)
 exact key l _ (sz_lt _)
theorem Zj2 (f:Nat→Bool) {V:Nat}(hV:V≤8):I64 ((Zik f V:Nat):Int):=by
 have h1:=Zwb f V
 have h2:2 ^ V≤2 ^ 8:=Nat.pow_le_pow_right om_ hV
 exact I64.small om_
theorem Zs5 {b:Bn}{v:Bool}(h:Zdm b v=0):b.V.toNat≤8:=by
 have hv:valid b=true:=by
  cases hv:valid b with
  | true=>rfl
  | false=>unfold Zdm at h;simp [hv] at h
 have:=Zb6 hv
 omega
theorem Zdl (b:Ov) (l:List Nt) (k:Nat) (a:List Int):∀ n∈(askO b l k a).1,I64 n:=by
 have h0:I64 0:=I64.small om_
 have two:∀ {x y:Int},I64 x→I64 y→∀ n∈[x,y],I64 n:=fun hx hy n hn=>by
  simp at hn
  rcases hn with rfl|rfl
  ·exact hx
  ·exact hy
 have one:∀ {x:Int},I64 x→∀ n∈[x],I64 n:=fun hx n hn=>by
  simp at hn
  subst hn
  exact hx
 unfold askO
 split
 ·refine two ?_ ?_ <;> unfold Zc4 <;> split
  ·exact I64.small (by have:=lo_le (TL (bnO b l));show -1000000≤((loL _:Nat):Int)∧((loL _:Nat):Int)≤1000000;omega)
  ·exact h0
  ·exact I64.small (by have:=hi_le (TL (bnO b l));show -1000000≤((hiL _:Nat):Int)∧((hiL _:Nat):Int)≤1000000;omega)
  ·exact h0
 ·refine one ?_
  unfold Zei
  split
  ·exact Zmg _ _
  ·exact h0
 ·refine two ?_ ?_ <;> unfold Zd0 <;> split
  ·rename_i h;exact Zj2 _ (Zs5 h)
  ·exact h0
  ·rename_i h;exact Zj2 _ (Zs5 h)
  ·exact h0
 ·refine one ?_
  unfold Zcx
  split
  ·exact Zmg _ _
  ·exact h0
 ·refine two ?_ ?_ <;> unfold Zfx <;> split
  ·rename_i h
   split
   ·exact h0
   ·exact Zj2 _ (Zs5 h)
  ·exact h0
  ·rename_i h
   split
   ·exact h0
   ·exact Zj2 _ (Zs5 h)
  ·exact h0
 ·exact two (Zsk _ _ _).1 (Zsk _ _ _).2
 ·exact two (Zsk _ _ _).1 (Zsk _ _ _).2
 ·exact two (Zpf _).1 (Zpf _).2
 ·exact two (Zo8 _ _).1 (Zo8 _ _).2
 ·exact one (Zwf _ _)
 ·exact one (more_i64 _ _)
end Go.Proofs.YtbapgefodmmikaaGreatDoor
namespace Go.Proofs.YtbapgefodmmikaaGreatDoor
open Go.RowKit Go.Proofs Go.Ord Tryz
attribute [local irreducible] Ord.walk
attribute [local go_sem] Oper.semAt_some
def AskP (word:Bs) (x:List Int × Int) (w:World) (e:Ending) (w':World):Prop :=
 (x.2=0∧e=.returned (strV (Zam word x.1))∧w w')∨(x.2≠0∧Zy6 x.2 w e w')
theorem AskP.from {word:Bs}{x:List Int × Int}{w w1 w':World}{e:Ending}(h:AskP word x w1 e w') (hb:w w1):AskP word x w e w':=by
 rcases h with ⟨h0,h1,h2⟩ | ⟨h0,h1,h2⟩
 ·exact Or.inl ⟨h0,h1,hb.trans (h2.mono hb.size)⟩
 ·exact Or.inr ⟨h0,h1,hb.trans (h2.mono hb.size)⟩
theorem Zf1 (word:Bs) (l:List It) (x:List Int × Int) (hx:l.flatMap itN=x.1) (a:Option Addr) (c:Nat) (w:World) (hv:VarsOk w) (hr:RowsAt w a 1 itL l) (hw:word.length≤1000000) (hl:l.length≤1000) (hb:∀ n∈x.1,I64 n) :
  Calls prog 237 #[strV word,.int .i64 x.2,.slice a l.length c] w (AskP word x w):=by
 by_cases he:x.2=0
 ·rw [he]
  refine (Zw3 word l a c w hv hr hw hl (fun y hy n hn=>hb n (by rw [← hx];exact List.mem_flatMap.2 ⟨y,hy,hn⟩))).mono ?_
  rintro e w' ⟨rfl,h⟩
  exact Or.inl ⟨he,by rw [← hx],h⟩
 ·exact (Zw4 word x.2 _ w he).mono fun e w' h=>Or.inr ⟨he,h⟩
section
variable {w:World}{O:Nat}{b:Ov}{l:List Nt}{sa:Option Addr}{sc:Nat}{fa:Option Addr}{fc:Nat}{na:Option Addr}{nc:Nat}
theorem AskP.post (h:OvOk w O b l sa sc fa fc na nc) {k:Nat}{a:List Int}{e:Ending}{w':World}(hp:AskP (askW k) (askO b l k a) w e w'):DoPost O b sa sc fa fc na (doO b l a (.ask k)) w e w':=by
 unfold doO
 simp only
 rcases hp with ⟨h0,h1,h2⟩ | ⟨h0,h1,h2⟩
 ·rw [if_pos h0]
  exact Or.inl ⟨rfl,h1,Lets.of_below h2,na,nc,h.below h2,fun p e=>.inl e⟩
 ·rw [if_neg h0]
  exact Or.inr ⟨h0,h1,h2⟩
theorem Zpa (hl:l.length≤30):(bnO b l).gs.length≤40∧(bnO b l).ps.length≤40:=by
 constructor
 ·have h2:=List.length_filter_le (fun n:Nt=>decide (0≤n.1∧n.1≤0)) l
  show ((ofO l 0 0).map grpO).length≤_
  rw [List.length_map];unfold ofO;omega
 ·have h2:=List.length_filter_le (fun n:Nt=>decide (1≤n.1∧n.1≤1)) l
  show ((ofO l 1 1).map Zkn).length≤_
  rw [List.length_map];unfold ofO;omega
theorem _root_.Q9 {p:Prop}(h:p:=by
 rcases hP with ⟨h0,rfl,h2⟩ | ⟨h0,rfl,h2⟩
 ·unfold strV at hP2 ⊢
  go_wp2_with fail
  go_ret
  exact hP2
 ·exact ⟨rfl,hP2⟩):p:=h
theorem o_whites (h:OvOk w O b l sa sc fa fc na nc) (v:Value) (a:List Int) :
  Calls prog 153 #[.pointer O,v] w (AskP (askW 0) (askO b l 0 a) w):=by
 obtain ⟨hgl,hpl⟩:=Zpa (b:=b) h.inn.notes
 have HV:=hd_ (fun W (hb:Below w.heap.size w W)=>Zm8 (h.at_.below hb) h.inn)
 have HC:Hid (∀ ga gc pa pc W,GsAt W ga (bnO b l).gs→PsAt W pa (bnO b l).ps→Calls prog 31 #[bv (bnO b l) ga gc pa pc] W (Zat (.agg #[.int .i64 (Zc4 (bnO b l)).1,.int .i64 (Zc4 (bnO b l)).2.1]) (.int .i64 (Zc4 (bnO b l)).2.2) W)):=fun ga gc pa pc W h1 h2=>Zxo (bnO b l) ga gc pa pc W h1 h2 hgl hpl
 have HVar:=hd_ (fun W (hb:Below w.heap.size w W)=>h.at_.vars.below hb h.at_.vars.2.2.2.2)
 have hi:=Zdl b l 0 a
 have hq:askO b l 0 a=([(Zc4 (bnO b l)).1,(Zc4 (bnO b l)).2.1],(Zc4 (bnO b l)).2.2):=rfl
 rw [hq] at hi ⊢
 unfold bv at *
 generalize (Zc4 (bnO b l)).1=q1 at *
 generalize (Zc4 (bnO b l)).2.1=q2 at *
 generalize (Zc4 (bnO b l)).2.2=q3 at *
 generalize bnO b l=bn at *
 have HS:Hid (∀ W a c,Below w.heap.size w W→RowsAt W a 1 itL [((q1,some q2):It)]→Calls prog 237 #[strV (askW 0),q3,.slice a 1 c] W (AskP (askW 0) ([q1,q2],q3) W)):=fun W a c hb hr=>Zf1 (askW 0) [(q1,some q2)] ([q1,q2],q3) rfl a c W (HVar.out W hb) hr de_ sp_ hi
 clear h hq hi hgl hpl
 unfold strV at HS
 have ew:(⟨(askW 0).toArray⟩:ByteArray)=⟨#[119,104,105,116,101,115]⟩:=by rfl
 rw [ew] at HS
 clear ew
 go_enter func153,ntmps153
 go_wp2_with (first
  | (go_at_call 236;refine (HV.out _ br_).mono ?_;rintro e w3 ⟨ga,gc,pa,pc,rfl,hb3,hg,hp⟩)
  | (go_at_call 31;refine (HC.out _ _ _ _ _ hg hp).mono ?_;rintro e w4 ⟨rfl,hb4⟩;refine Za2 ?_))
 unfold Stop
 have hB4:w w4:=hb3.trans (hb4.mono hb3.size)
 clear hg hp hb3 hb4 HC HV
 have b5:Blk (w4.alloc (.cells #[(),()] 23)) w4.heap.size #[(),()] 23:=Blk.new _ _ _
 go_wp2_with (first
  | (refine Za1 23 (.tmp 5) (.tmp 12) Zav rfl rfl rfl rfl b5 rfl rfl (by simp [Value.oneCell']) ?_;intro w6 h6;have b6:=h6.blk;have hB6:w w6:=Za3 (hB4.alloc hB4.size _) ((Lets.refl _ _).rowed (X:=fun k _=>w.heap.size≤k) h6 hB4.size) nl_ (fun _ _ h e=>om_))
  | (refine Za0 23 (.tmp 5) Zav rfl rfl rfl b6 rfl ?_)
  | (go_at_call 237;refine Za2 ?_))
 unfold Stop
 have hBa:w (w6.alloc (.cells #[.iface 23 (.agg #[q1,q2])] 20)):=hB6.alloc hB6.size _
 refine (HS.out _ _ _ hBa (Zba w6 [((q1,some q2):It)] 20)).mono ?_
 rintro e w' hP
 have hP2:=hP.from hBa
 exact Q9
end
section
variable {w:World}{O:Nat}{b:Ov}{l:List Nt}{sa:Option Addr}{sc:Nat}{fa:Option Addr}{fc:Nat}{na:Option Addr}{nc:Nat}
theorem Zv4 (h:OvIn b l):(tyO b l).strays.length≤9223372036854775807∧(tyO b l).calls.length≤9223372036854775807:=by
 constructor
 ·have:=h.strays
  show b.strays.length≤_
  omega
 ·have:=h.notes
  have h2:=List.length_filter_le (fun n:Nt=>decide (2≤n.1∧n.1≤4)) l
  show ((ofO l 2 4).map Zk7).length≤_
  rw [List.length_map];unfold ofO;omega
theorem _root_.Q3a {p:Prop}(h:p:=by
 go_wp2_with (first
  | (go_at_call 237;refine Za2 ?_))
 unfold Stop
 have hBa:w (w4.alloc (.cells #[.iface 3 ↑q1,.iface 3 ↑q2] 20)):=hB4.alloc hB4.size _
 refine (HS.out _ _ _ hBa (Zba w4 [((q1,none):It),((q2,none):It)] 20)).mono ?_
 rintro e w' hP
 have hP2:=hP.from hBa
 exact Q9):p:=h
theorem o_known (h:OvOk w O b l sa sc fa fc na nc) (v:Value) (a:List Int) :
  Calls prog 155 #[.pointer O,v] w (AskP (askW 2) (askO b l 2 a) w):=by
 obtain ⟨hgl,hpl⟩:=Zpa (b:=b) h.inn.notes
 have HV:=hd_ (fun W (hb:Below w.heap.size w W)=>Zm8 (h.at_.below hb) h.inn)
 have HC:Hid (∀ ga gc pa pc W,GsAt W ga (bnO b l).gs→PsAt W pa (bnO b l).ps→Calls prog 33 #[bv (bnO b l) ga gc pa pc] W (Zfm (.int .i64 (Zd0 (bnO b l)).1) (.int .i64 (Zd0 (bnO b l)).2.1) (.int .i64 (Zd0 (bnO b l)).2.2) W)):=fun ga gc pa pc W h1 h2=>bb_Known (bnO b l) ga gc pa pc W h1 h2 hgl hpl
 have HVar:=hd_ (fun W (hb:Below w.heap.size w W)=>h.at_.vars.below hb h.at_.vars.2.2.2.2)
 have hi:=Zdl b l 2 a
 have hq:askO b l 2 a=([(Zd0 (bnO b l)).1,(Zd0 (bnO b l)).2.1],(Zd0 (bnO b l)).2.2):=rfl
 rw [hq] at hi ⊢
 unfold bv at *
 generalize (Zd0 (bnO b l)).1=q1 at *
 generalize (Zd0 (bnO b l)).2.1=q2 at *
 generalize (Zd0 (bnO b l)).2.2=q3 at *
 generalize bnO b l=bn at *
 have HS:Hid (∀ W a c,Below w.heap.size w W→RowsAt W a 1 itL [((q1,none):It),((q2,none):It)]→Calls prog 237 #[strV (askW 2),q3,.slice a 2 c] W (AskP (askW 2) ([q1,q2],q3) W)):=fun W a c hb hr=>Zf1 (askW 2) [((q1,none):It),((q2,none):It)] ([q1,q2],q3) rfl a c W (HVar.out W hb) hr de_ sp_ hi
 clear h hq hi hgl hpl
 unfold strV at HS
 have ew:(⟨(askW 2).toArray⟩:ByteArray)=⟨#[107,110,111,119,110]⟩:=by rfl
 rw [ew] at HS
 clear ew
 go_enter func155,ntmps155
 go_wp2_with (first
  | (go_at_call 236;refine (HV.out _ br_).mono ?_;rintro e w3 ⟨ga,gc,pa,pc,rfl,hb3,hg,hp⟩)
  | (go_at_call 33;refine (HC.out _ _ _ _ _ hg hp).mono ?_;rintro e w4 ⟨rfl,hb4⟩;refine Za2 ?_))
 unfold Stop
 have hB4:w w4:=hb3.trans (hb4.mono hb3.size)
 clear hg hp hb3 hb4 HC HV
 exact Q3a
theorem _root_.Q37 {p:Prop}(h:p:=by
 go_wp2_with (first
  | (go_at_call 237;refine Za2 ?_))
 unfold Stop
 have hBa:w (w4.alloc (.cells #[.iface 3 ↑q1] 20)):=hB4.alloc hB4.size _
 refine (HS.out _ _ _ hBa (Zba w4 [((q1,none):It)] 20)).mono ?_
 rintro e w' hP
 have hP2:=hP.from hBa
 exact Q9):p:=h
theorem o_passed (h:OvOk w O b l sa sc fa fc na nc) (v:Value) (a:List Int) :
  Calls prog 156 #[.pointer O,v] w (AskP (askW 3) (askO b l 3 a) w):=by
 obtain ⟨hgl,hpl⟩:=Zpa (b:=b) h.inn.notes
 have HV:=hd_ (fun W (hb:Below w.heap.size w W)=>Zm8 (h.at_.below hb) h.inn)
 have HC:Hid (∀ ga gc pa pc W,GsAt W ga (bnO b l).gs→PsAt W pa (bnO b l).ps→Calls prog 34 #[bv (bnO b l) ga gc pa pc] W (Zat (.int .i64 (Zcx (bnO b l)).1) (.int .i64 (Zcx (bnO b l)).2) W)):=fun ga gc pa pc W h1 h2=>Zxp (bnO b l) ga gc pa pc W h1 h2 hgl hpl
 have HVar:=hd_ (fun W (hb:Below w.heap.size w W)=>h.at_.vars.below hb h.at_.vars.2.2.2.2)
 have hi:=Zdl b l 3 a
 have hq:askO b l 3 a=([(Zcx (bnO b l)).1],(Zcx (bnO b l)).2):=rfl
 rw [hq] at hi ⊢
 unfold bv at *
 generalize (Zcx (bnO b l)).1=q1 at *
 generalize (Zcx (bnO b l)).2=q3 at *
 generalize bnO b l=bn at *
 have HS:Hid (∀ W a c,Below w.heap.size w W→RowsAt W a 1 itL [((q1,none):It)]→Calls prog 237 #[strV (askW 3),q3,.slice a 1 c] W (AskP (askW 3) ([q1],q3) W)):=fun W a c hb hr=>Zf1 (askW 3) [((q1,none):It)] ([q1],q3) rfl a c W (HVar.out W hb) hr de_ sp_ hi
 clear h hq hi hgl hpl
 unfold strV at HS
 have ew:(⟨(askW 3).toArray⟩:ByteArray)=⟨#[112,97,115,115,101,100]⟩:=by rfl
 rw [ew] at HS
 clear ew
 go_enter func156,ntmps156
 go_wp2_with (first
  | (go_at_call 236;refine (HV.out _ br_).mono ?_;rintro e w3 ⟨ga,gc,pa,pc,rfl,hb3,hg,hp⟩)
  | (go_at_call 34;refine (HC.out _ _ _ _ _ hg hp).mono ?_;rintro e w4 ⟨rfl,hb4⟩;refine Za2 ?_))
 unfold Stop
 have hB4:w w4:=hb3.trans (hb4.mono hb3.size)
 clear hg hp hb3 hb4 HC HV
 exact Q37
theorem Zw1 (h:OvOk w O b l sa sc fa fc na nc) (v:Value) (a:List Int) :
  Calls prog 160 #[.pointer O,v] w (AskP (askW 7) (askO b l 7 a) w):=by
 obtain ⟨hgl,hpl⟩:=Zv4 h.inn
 have HV:=hd_ (fun W (hb:Below w.heap.size w W)=>Zn2 (h.at_.below hb) h.inn)
 have HC:Hid (∀ ca cc W,RowsAt W sa 2 Zax (tyO b l).strays→RowsAt W ca 4 Zcn (tyO b l).calls→Calls prog 38 #[.agg (tyV (tyO b l) sa sc ca cc)] W (Zfm (.int .i64 (Zbs (tyO b l)).1.1) (.int .i64 (Zbs (tyO b l)).1.2) (.int .i64 (Zbs (tyO b l)).2) W)):=fun ca cc W h1 h2=>t_False (tyO b l) sa sc ca cc W h1 h2 hgl hpl
 have HVar:=hd_ (fun W (hb:Below w.heap.size w W)=>h.at_.vars.below hb h.at_.vars.2.2.2.2)
 have hi:=Zdl b l 7 a
 have hq:askO b l 7 a=([(Zbs (tyO b l)).1.1,(Zbs (tyO b l)).1.2],(Zbs (tyO b l)).2):=rfl
 rw [hq] at hi ⊢
 unfold tyV at *
 generalize (Zbs (tyO b l)).1.1=q1 at *
 generalize (Zbs (tyO b l)).1.2=q2 at *
 generalize (Zbs (tyO b l)).2=q3 at *
 generalize tyO b l=bn at *
 have HS:Hid (∀ W a c,Below w.heap.size w W→RowsAt W a 1 itL [((q1,none):It),((q2,none):It)]→Calls prog 237 #[strV (askW 7),q3,.slice a 2 c] W (AskP (askW 7) ([q1,q2],q3) W)):=fun W a c hb hr=>Zf1 (askW 7) [((q1,none):It),((q2,none):It)] ([q1,q2],q3) rfl a c W (HVar.out W hb) hr de_ sp_ hi
 clear h hq hi hgl hpl
 unfold strV at HS
 have ew:(⟨(askW 7).toArray⟩:ByteArray)=⟨#[102,97,108,115,101]⟩:=by rfl
 rw [ew] at HS
 clear ew
 go_enter func160,ntmps160
 go_wp2_with (first
  | (go_at_call 238;refine (HV.out _ br_).mono ?_;rintro e w3 ⟨ca,cc,rfl,hb3,hg,hp⟩)
  | (go_at_call 38;refine (HC.out _ _ _ hg hp).mono ?_;rintro e w4 ⟨rfl,hb4⟩;refine Za2 ?_))
 unfold Stop
 have hB4:w w4:=hb3.trans (hb4.mono hb3.size)
 clear hg hp hb3 hb4 HC HV
 exact Q3a
end
section
variable {w:World}{O:Nat}{b:Ov}{l:List Nt}{sa:Option Addr}{sc:Nat}{fa:Option Addr}{fc:Nat}{na:Option Addr}{nc:Nat}
theorem Zxd (h:OvIn b l):(clO b l).bs.length≤9223372036854775807:=by
 have h1:=Znz b l _ nl_
 rw [Zo0] at h1
 have h2:=h.fl
 show (Zkd b l).length≤_
 omega
theorem Zqz (h:OvAt w O b l sa sc fa fc na nc) (hI:OvIn b l) :
  Calls prog 239 #[.pointer O] w (fun e w'=>∃ ca cc,e=.returned (.agg (clV (clO b l) ca cc))∧Below w.heap.size w w'∧RowsAt w' ca 3 Zbf (clO b l).bs):=by
 have HV:=hd_ (fun W (hb:Below w.heap.size w W)=>Zm7 (h.below hb) hI)
 have hB1:w (w.alloc (.cells #[.slice none 0 0,(),(),()] 62)):=by exact bel_
 have b1:Blk (w.alloc (.cells #[.slice none 0 0,(),(),()] 62)) w.heap.size #[.slice none 0 0,(),(),()] 62:=Blk.new _ _ _
 clear h hI
 generalize clO b l=cl at *
 unfold clV at *
 go_enter func239,ntmps239
 go_wp2_with (first
  | (go_at_call 286;refine (HV.out _ hB1).mono ?_;rintro e w2 ⟨ca,cc,rfl,hb2,hr,hfr⟩;have b2:=b1.below hb2 b1.lt)
  | (refine Za1 62 (.tmp 2) (.tmp 6) Zah rfl rfl rfl rfl b2 rfl rfl (by simp [Value.oneCell']) ?_;intro w3 h3))
 refine bodyPost_ret (Za5 rfl _ Zah rfl h3.blk rfl) rfl ⟨ca,cc,rfl,?_,?_⟩
 ·exact Za3 (hB1.trans (hb2.mono hB1.size)) ((Lets.refl _ _).rowed (X:=fun k _=>k=w.heap.size) h3 rfl) nl_ (fun _ _ h e=>om_)
 ·intro i hi
  obtain ⟨gb,go,rfl,hq⟩:=hr i hi
  refine ⟨gb,go,rfl,fun j u hj=>?_⟩
  have hc:=hq j u hj
  have hne:gb≠w.heap.size:=fun e=>by
   have:=hfr _ rfl
   simp at this
   omega
  exact (World.cell?_of_block (((Lets.refl (fun k _=>k=w.heap.size) w2).rowed h3 rfl).block gb (bl_ w2 _ hc) hne)).trans hc
theorem _root_.Q3q {p:Prop}(h:p:=by
 unfold Stop
 have hB4:w w4:=hBd.trans (hb3.trans (hb4.mono hb3.size))
 clear hg hp hb3 hb4 HC HV hH3 hH4
 exact Q37):p:=h
theorem o_white (h:OvOk w O b l sa sc fa fc na nc) (x0:Int) (aa:Option Addr) (ac:Nat) (hr:RowsAt w aa 1 numL [x0]) :
  Calls prog 154 #[.pointer O,.slice aa 1 ac] w (AskP (askW 1) (askO b l 1 [x0]) w):=by
 obtain ⟨hgl,hpl⟩:=Zpa (b:=b) h.inn.notes
 have HV:=hd_ (fun W (hb:Below w.heap.size w W)=>Zm8 (h.at_.below hb) h.inn)
 have HC:Hid (∀ ga gc pa pc W,GsAt W ga (bnO b l).gs→PsAt W pa (bnO b l).ps→Calls prog 32 #[bv (bnO b l) ga gc pa pc,x0] W (Zat (.int .i64 (Zei (bnO b l) x0).1) (.int .i64 (Zei (bnO b l) x0).2) W)):=fun ga gc pa pc W h1 h2=>bb_White (bnO b l) ga gc pa pc W h1 h2 hgl hpl x0
 have HVar:=hd_ (fun W (hb:Below w.heap.size w W)=>h.at_.vars.below hb h.at_.vars.2.2.2.2)
 have hi:=Zdl b l 1 [x0]
 have hq:askO b l 1 [x0]=([(Zei (bnO b l) x0).1],(Zei (bnO b l) x0).2):=rfl
 rw [hq] at hi ⊢
 obtain ⟨gb,go,rfl,h0⟩:=hr 0 sp_
 have q0:=h0 0 _ rfl
 simp only [Nat.zero_mul,Nat.add_zero] at q0
 have lg:=bl_ w _ q0
 have hq0d:w.drew.cell? ⟨gb,go,none⟩=some (.int .i64 x0):=q0
 have hBd:w w.drew:=br_.drew
 clear h0 hr
 unfold bv at *
 generalize (Zei (bnO b l) x0).1=q1 at *
 generalize (Zei (bnO b l) x0).2=q3 at *
 generalize bnO b l=bn at *
 have HS:Hid (∀ W a c,Below w.heap.size w W→RowsAt W a 1 itL [((q1,none):It)]→Calls prog 237 #[strV (askW 1),q3,.slice a 1 c] W (AskP (askW 1) ([q1],q3) W)):=fun W a c hb hr=>Zf1 (askW 1) [((q1,none):It)] ([q1],q3) rfl a c W (HVar.out W hb) hr de_ sp_ hi
 clear h hq hi hgl hpl
 unfold strV at HS
 have ew:(⟨(askW 1).toArray⟩:ByteArray)=⟨#[119,104,105,116,101]⟩:=by rfl
 rw [ew] at HS
 clear ew
 go_enter func154,ntmps154
 go_upto_region 1 with fail
 refine Zyu [(0,0),(1,0),(3,1),(4,1),(5,1),(2,2),(6,2),(7,0),(8,0),(9,0),(10,0),(11,0)] (fun W=>W.cell? ⟨gb,go,none⟩=some (.int .i64 x0)) kr_ kr_ hq0d ?_
 go_wp2_with (first
  | ((with_reducible refine Zyp ?_);refine Za2 ?_)
  | (go_at_call 236;refine (HV.out _ hBd).mono ?_;rintro e w3 ⟨ga,gc,pa,pc,rfl,hb3,hg,hp⟩;have hH3:=Za4 hb3 hq0d)
  | (go_at_call 32;refine (HC.out _ _ _ _ _ hg hp).mono ?_;rintro e w4 ⟨rfl,hb4⟩;have hH4:=Za4 hb4 hH3)
  | (refine Zyf (by first|with_reducible exact hH3|with_reducible exact hH4) (fun _=>?_))
  | ((with_reducible refine Zye ?_);first|(refine Zyq (ad:=⟨gb,go,none⟩) ↑x0 rfl rfl ?_ ?_;(focus (intro W hW;simp [go_sem,hW];done));intro K hK)|(refine Zyw (.pointer (some ⟨gb,go,none⟩)) rfl ?_ ?_;(focus (intro W hW;simp [go_sem,];done));intro K hK))
  | (refine o_ ?_;intro K hK)|(with_reducible first|refine Zyo ?_ ?_|refine Zyj ?_|refine Zyf bn_ (fun _=>?_)))
 exact Q3q
theorem o_tell (h:OvOk w O b l sa sc fa fc na nc) (x0:Int) (aa:Option Addr) (ac:Nat) (hr:RowsAt w aa 1 numL [x0]) :
  Calls prog 157 #[.pointer O,.slice aa 1 ac] w (AskP (askW 4) (askO b l 4 [x0]) w):=by
 obtain ⟨hgl,hpl⟩:=Zpa (b:=b) h.inn.notes
 have HV:=hd_ (fun W (hb:Below w.heap.size w W)=>Zm8 (h.at_.below hb) h.inn)
 have HC:Hid (∀ ga gc pa pc W,GsAt W ga (bnO b l).gs→PsAt W pa (bnO b l).ps→Calls prog 35 #[bv (bnO b l) ga gc pa pc,x0] W (Zfm (.int .i64 (Zfx (bnO b l) x0).1) (.int .i64 (Zfx (bnO b l) x0).2.1) (.int .i64 (Zfx (bnO b l) x0).2.2) W)):=fun ga gc pa pc W h1 h2=>bb_Tell (bnO b l) ga gc pa pc W h1 h2 hgl hpl x0
 have HVar:=hd_ (fun W (hb:Below w.heap.size w W)=>h.at_.vars.below hb h.at_.vars.2.2.2.2)
 have hi:=Zdl b l 4 [x0]
 have hq:askO b l 4 [x0]=([(Zfx (bnO b l) x0).1,(Zfx (bnO b l) x0).2.1],(Zfx (bnO b l) x0).2.2):=rfl
 rw [hq] at hi ⊢
 obtain ⟨gb,go,rfl,h0⟩:=hr 0 sp_
 have q0:=h0 0 _ rfl
 simp only [Nat.zero_mul,Nat.add_zero] at q0
 have lg:=bl_ w _ q0
 have hq0d:w.drew.cell? ⟨gb,go,none⟩=some (.int .i64 x0):=q0
 have hBd:w w.drew:=br_.drew
 clear h0 hr
 unfold bv at *
 generalize (Zfx (bnO b l) x0).1=q1 at *
 generalize (Zfx (bnO b l) x0).2.1=q2 at *
 generalize (Zfx (bnO b l) x0).2.2=q3 at *
 generalize bnO b l=bn at *
 have HS:Hid (∀ W a c,Below w.heap.size w W→RowsAt W a 1 itL [((q1,none):It),((q2,none):It)]→Calls prog 237 #[strV (askW 4),q3,.slice a 2 c] W (AskP (askW 4) ([q1,q2],q3) W)):=fun W a c hb hr=>Zf1 (askW 4) [((q1,none):It),((q2,none):It)] ([q1,q2],q3) rfl a c W (HVar.out W hb) hr de_ sp_ hi
 clear h hq hi hgl hpl
 unfold strV at HS
 have ew:(⟨(askW 4).toArray⟩:ByteArray)=⟨#[116,101,108,108]⟩:=by rfl
 rw [ew] at HS
 clear ew
 go_enter func157,ntmps157
 go_upto_region 1 with fail
 refine Zyu [(0,0),(1,0),(3,1),(4,1),(5,1),(2,2),(6,2),(7,0),(8,0),(9,0),(10,0),(11,0),(12,0),(13,0)] (fun W=>W.cell? ⟨gb,go,none⟩=some (.int .i64 x0)) kr_ kr_ hq0d ?_
 go_wp2_with (first
  | ((with_reducible refine Zyp ?_);refine Za2 ?_)
  | (go_at_call 236;refine (HV.out _ hBd).mono ?_;rintro e w3 ⟨ga,gc,pa,pc,rfl,hb3,hg,hp⟩;have hH3:=Za4 hb3 hq0d)
  | (go_at_call 35;refine (HC.out _ _ _ _ _ hg hp).mono ?_;rintro e w4 ⟨rfl,hb4⟩;have hH4:=Za4 hb4 hH3)
  | (refine Zyf (by first|with_reducible exact hH3|with_reducible exact hH4) (fun _=>?_))
  | ((with_reducible refine Zye ?_);first|(refine Zyq (ad:=⟨gb,go,none⟩) ↑x0 rfl rfl ?_ ?_;(focus (intro W hW;simp [go_sem,hW];done));intro K hK)|(refine Zyw (.pointer (some ⟨gb,go,none⟩)) rfl ?_ ?_;(focus (intro W hW;simp [go_sem,];done));intro K hK))
  | (refine o_ ?_;intro K hK)|(with_reducible first|refine Zyo ?_ ?_|refine Zyj ?_|refine Zyf bn_ (fun _=>?_)))
 unfold Stop
 have hB4:w w4:=hBd.trans (hb3.trans (hb4.mono hb3.size))
 clear hg hp hb3 hb4 HC HV hH3 hH4
 exact Q3a
theorem o_keeps (h:OvOk w O b l sa sc fa fc na nc) (x0:Int) (aa:Option Addr) (ac:Nat) (hr:RowsAt w aa 1 numL [x0]) :
  Calls prog 162 #[.pointer O,.slice aa 1 ac] w (AskP (askW 9) (askO b l 9 [x0]) w):=by
 have hgl:=Zxd h.inn
 have HV:=hd_ (fun W (hb:Below w.heap.size w W)=>Zqz (h.at_.below hb) h.inn)
 have HC:Hid (∀ ca cc W,RowsAt W ca 3 Zbf (clO b l).bs→Calls prog 40 #[.agg (clV (clO b l) ca cc),x0] W (Zat (.int .i64 (Zdi (clO b l) x0).1) (.int .i64 (Zdi (clO b l) x0).2) W)):=fun ca cc W h1=>c_Keeps (clO b l) ca cc x0 W h1 hgl
 have HVar:=hd_ (fun W (hb:Below w.heap.size w W)=>h.at_.vars.below hb h.at_.vars.2.2.2.2)
 have hi:=Zdl b l 9 [x0]
 have hq:askO b l 9 [x0]=([(Zdi (clO b l) x0).1],(Zdi (clO b l) x0).2):=rfl
 rw [hq] at hi ⊢
 obtain ⟨gb,go,rfl,h0⟩:=hr 0 sp_
 have q0:=h0 0 _ rfl
 simp only [Nat.zero_mul,Nat.add_zero] at q0
 have lg:=bl_ w _ q0
 have hq0d:w.drew.cell? ⟨gb,go,none⟩=some (.int .i64 x0):=q0
 have hBd:w w.drew:=br_.drew
 clear h0 hr
 unfold clV at *
 generalize (Zdi (clO b l) x0).1=q1 at *
 generalize (Zdi (clO b l) x0).2=q3 at *
 generalize clO b l=bn at *
 have HS:Hid (∀ W a c,Below w.heap.size w W→RowsAt W a 1 itL [((q1,none):It)]→Calls prog 237 #[strV (askW 9),q3,.slice a 1 c] W (AskP (askW 9) ([q1],q3) W)):=fun W a c hb hr=>Zf1 (askW 9) [((q1,none):It)] ([q1],q3) rfl a c W (HVar.out W hb) hr de_ sp_ hi
 clear h hq hi hgl
 unfold strV at HS
 have ew:(⟨(askW 9).toArray⟩:ByteArray)=⟨#[107,101,101,112,115]⟩:=by rfl
 rw [ew] at HS
 clear ew
 go_enter func162,ntmps162
 go_upto_region 1 with fail
 refine Zyu [(0,0),(2,1),(3,1),(4,1),(1,2),(5,2),(6,0),(7,0),(8,0),(9,0),(10,0)] (fun W=>W.cell? ⟨gb,go,none⟩=some (.int .i64 x0)) kr_ kr_ hq0d ?_
 go_wp2_with (first
  | ((with_reducible refine Zyp ?_);refine Za2 ?_)
  | (go_at_call 239;refine (HV.out _ hBd).mono ?_;rintro e w3 ⟨ca,cc,rfl,hb3,hg⟩;have hp:True:=trivial;have hH3:=Za4 hb3 hq0d)
  | (go_at_call 40;refine (HC.out _ _ _ hg).mono ?_;rintro e w4 ⟨rfl,hb4⟩;have hH4:=Za4 hb4 hH3)
  | (refine Zyf (by first|with_reducible exact hH3|with_reducible exact hH4) (fun _=>?_))
  | ((with_reducible refine Zye ?_);first|(refine Zyq (ad:=⟨gb,go,none⟩) ↑x0 rfl rfl ?_ ?_;(focus (intro W hW;simp [go_sem,hW];done));intro K hK)|(refine Zyw (.pointer (some ⟨gb,go,none⟩)) rfl ?_ ?_;(focus (intro W hW;simp [go_sem,];done));intro K hK))
  | (refine o_ ?_;intro K hK)|(with_reducible first|refine Zyo ?_ ?_|refine Zyj ?_|refine Zyf bn_ (fun _=>?_)))
 exact Q3q
theorem o_more (h:OvOk w O b l sa sc fa fc na nc) (x0:Int) (aa:Option Addr) (ac:Nat) (hr:RowsAt w aa 1 numL [x0]) :
  Calls prog 163 #[.pointer O,.slice aa 1 ac] w (AskP (askW 10) (askO b l 10 [x0]) w):=by
 have hgl:=Zxd h.inn
 have HV:=hd_ (fun W (hb:Below w.heap.size w W)=>Zqz (h.at_.below hb) h.inn)
 have HC:Hid (∀ ca cc W,RowsAt W ca 3 Zbf (clO b l).bs→Calls prog 41 #[.agg (clV (clO b l) ca cc),x0] W (Zat (.int .i64 (Zgn (clO b l) x0).1) (.int .i64 (Zgn (clO b l) x0).2) W)):=fun ca cc W h1=>c_More (clO b l) ca cc x0 W h1 hgl
 have HVar:=hd_ (fun W (hb:Below w.heap.size w W)=>h.at_.vars.below hb h.at_.vars.2.2.2.2)
 have hi:=Zdl b l 10 [x0]
 have hq:askO b l 10 [x0]=([(Zgn (clO b l) x0).1],(Zgn (clO b l) x0).2):=rfl
 rw [hq] at hi ⊢
 obtain ⟨gb,go,rfl,h0⟩:=hr 0 sp_
 have q0:=h0 0 _ rfl
 simp only [Nat.zero_mul,Nat.add_zero] at q0
 have lg:=bl_ w _ q0
 have hq0d:w.drew.cell? ⟨gb,go,none⟩=some (.int .i64 x0):=q0
 have hBd:w w.drew:=br_.drew
 clear h0 hr
 unfold clV at *
 generalize (Zgn (clO b l) x0).1=q1 at *
 generalize (Zgn (clO b l) x0).2=q3 at *
 generalize clO b l=bn at *
 have HS:Hid (∀ W a c,Below w.heap.size w W→RowsAt W a 1 itL [((q1,none):It)]→Calls prog 237 #[strV (askW 10),q3,.slice a 1 c] W (AskP (askW 10) ([q1],q3) W)):=fun W a c hb hr=>Zf1 (askW 10) [((q1,none):It)] ([q1],q3) rfl a c W (HVar.out W hb) hr de_ sp_ hi
 clear h hq hi hgl
 unfold strV at HS
 have ew:(⟨(askW 10).toArray⟩:ByteArray)=⟨#[109,111,114,101]⟩:=by rfl
 rw [ew] at HS
 clear ew
 go_enter func163,ntmps163
 go_upto_region 1 with fail
 refine Zyu [(0,0),(2,1),(3,1),(4,1),(1,2),(5,2),(6,0),(7,0),(8,0),(9,0),(10,0)] (fun W=>W.cell? ⟨gb,go,none⟩=some (.int .i64 x0)) kr_ kr_ hq0d ?_
 go_wp2_with (first
  | ((with_reducible refine Zyp ?_);refine Za2 ?_)
  | (go_at_call 239;refine (HV.out _ hBd).mono ?_;rintro e w3 ⟨ca,cc,rfl,hb3,hg⟩;have hp:True:=trivial;have hH3:=Za4 hb3 hq0d)
  | (go_at_call 41;refine (HC.out _ _ _ hg).mono ?_;rintro e w4 ⟨rfl,hb4⟩;have hH4:=Za4 hb4 hH3)
  | (refine Zyf (by first|with_reducible exact hH3|with_reducible exact hH4) (fun _=>?_))
  | ((with_reducible refine Zye ?_);first|(refine Zyq (ad:=⟨gb,go,none⟩) ↑x0 rfl rfl ?_ ?_;(focus (intro W hW;simp [go_sem,hW];done));intro K hK)|(refine Zyw (.pointer (some ⟨gb,go,none⟩)) rfl ?_ ?_;(focus (intro W hW;simp [go_sem,];done));intro K hK))
  | (refine o_ ?_;intro K hK)|(with_reducible first|refine Zyo ?_ ?_|refine Zyj ?_|refine Zyf bn_ (fun _=>?_)))
 exact Q3q
end
end Go.Proofs.YtbapgefodmmikaaGreatDoor
