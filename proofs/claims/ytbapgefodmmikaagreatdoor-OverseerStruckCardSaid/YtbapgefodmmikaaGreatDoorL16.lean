/- Parts of a proof. -/
import Derived.Test.YtbapgefodmmikaaGreatDoorLMin
import Derived.Maps.Keyed
import Derived.Test.YtbapgefodmmikaaGreatDoorL15
set_option linter.unusedVariables false
set_option linter.unusedSimpArgs false
set_option maxHeartbeats 40000000
set_option maxRecDepth 100000
namespace Go.MapG
open Go.RowKit Go.Maps
structure MT (P:Program) (t k e:TypeId) {α β:Type}(kf:α→Value) (vf:β→Value) (ok:α→Prop) (z:Value):Prop where
 und:P.underlying t=some (.map k e)
 law:Keyed P k
 key:∀ {a:α},ok a→∃ l,keyOf P k (kf a)=some l
 inj:∀ {a b:α},kf a=kf b→a=b
 zero:∀ w:World,(zeroValue e).run P w=.ok z w
section
variable {α β:Type} [DecidableEq α] {kf:α→Value}{vf:β→Value}{ok:α→Prop}
def entsFrom (kf:α→Value) (vf:β→Value):Nat→List (α × β)→List MapEntry
 | _,[]=>[]
 | i,p :: l=>{ key:=kf p.1,val:=vf p.2,born:=i } :: entsFrom kf vf (i+1) l
def ents (kf:α→Value) (vf:β→Value) (l:List (α × β)):Array MapEntry:=(entsFrom kf vf 0 l).toArray
def MapAt (kf:α→Value) (vf:β→Value) (w:World) (m:Nat) (l:List (α × β)):Prop:=w.heap[m]? = some (.map (ents kf vf l) l.length)
def MapOk (ok:α→Prop) (l:List (α × β)):Prop:=(∀ p∈l,ok p.1)∧(l.map (·.1)).Nodup
def get (l:List (α × β)) (x:α):Option β:=(l.find? (fun p=>p.1 == x)).map (·.2)
def put (l:List (α × β)) (x:α) (v:β):List (α × β):=if x∈l.map (·.1) then l.map (fun p=>if p.1=x then (x,v) else p) else l ++ [(x,v)]
omit [DecidableEq α] in
theorem entsFrom_length (i:Nat) (l:List (α × β)):(entsFrom kf vf i l).length=l.length:=by
 induction l generalizing i with
 | nil=>rfl
 | cons p l ih=>simp [entsFrom,ih]
omit [DecidableEq α] in
theorem entsFrom_get (i:Nat) (l:List (α × β)) (j:Nat):(entsFrom kf vf i l)[j]? = l[j]?.map fun p=>{ key:=kf p.1,val:=vf p.2,born:=i+j }:=Q1w
omit [DecidableEq α] in
theorem entsFrom_mem {i:Nat}{l:List (α × β)}{e:MapEntry}(h:e∈entsFrom kf vf i l):∃ p∈l,e.key=kf p.1∧e.val=vf p.2:=Q1f
theorem get_at {l:List (α × β)}(h:MapOk ok l) {j:Nat}{p:α × β}(hj:l[j]? = some p):get l p.1=some p.2:=by
 unfold get
 exact Qj
theorem get_none {l:List (α × β)}{x:α}(h:∀ p∈l,p.1≠x):get l x=none:=by
 unfold get
 rw [List.find?_eq_none.2 (fun p hp=>by simpa using h p hp)]
 rfl
theorem get_mem {l:List (α × β)}{x:α}{v:β}(h:get l x=some v):(x,v)∈l:=by
 unfold get at h
 rw [Option.map_eq_some_iff] at h
 obtain ⟨p,h1,h2⟩:=h
 have h3:=List.find?_some h1
 have h4:=List.mem_of_find?_eq_some h1
 have:p.1=x:=by simpa using h3
 rw [← this,← h2]
 exact h4
end
section
variable {P:Program}{t k e:TypeId}{α β:Type} [DecidableEq α] {kf:α→Value}{vf:β→Value}{ok:α→Prop}{z:Value}
omit [DecidableEq α] in
theorem MT.keyed (T:MT P t k e kf vf ok z) {l:List (α × β)}(h:MapOk ok l):∀ x∈(ents kf vf l).toList,∃ n,keyOf P k x.key=some n:=by
 intro x hx
 obtain ⟨p,hp,hk,-⟩:=entsFrom_mem (show x∈entsFrom kf vf 0 l by simpa [ents] using hx)
 rw [hk]
 exact T.key (h.1 p hp)
omit [DecidableEq α] in
theorem MT.find (T:MT P t k e kf vf ok z) {l:List (α × β)}(h:MapOk ok l) {x:α}(hx:ok x) (w:World) :
  ((Instr.findKey k (kf x) (ents kf vf l).toList).run P w=.ok none w∧∀ p∈l,p.1≠x) ∨
  ∃ j p,(Instr.findKey k (kf x) (ents kf vf l).toList).run P w=.ok (some (j,vf p.2)) w∧l[j]? = some p∧p.1=x:=by
 obtain ⟨n,hk⟩:=T.key hx
 rcases T.law.find w hk (ents kf vf l).toList (T.keyed h) with ⟨h1,h2⟩ | ⟨j,y,h1,h2,h3⟩
 ·refine .inl ⟨h1,fun p hp he=>?_⟩
  obtain ⟨i,hi⟩:=List.getElem?_of_mem hp
  have:({ key:=kf p.1,val:=vf p.2,born:=0+i }:MapEntry)∈(ents kf vf l).toList:=by
   refine List.mem_of_getElem? (i:=i) ?_
   simp [ents,entsFrom_get,hi]
  exact h2 _ this (by rw [he])
 ·have h4:(entsFrom kf vf 0 l)[j]? = some y:=by simpa [ents] using h2
  rw [entsFrom_get] at h4
  cases hp:l[j]? with
  | none=>simp [hp] at h4
  | some p =>
   simp only [hp,Option.map_some,Option.some.injEq] at h4
   subst h4
   exact .inr ⟨j,p,h1,hp,T.inj (by simpa using h3)⟩
theorem MT.lookup (T:MT P t k e kf vf ok z) {w:World}{m:Nat}{l:List (α × β)}(hm:MapAt kf vf w m l) (h:MapOk ok l) {x:α}(hx:ok x) (c:Bool) :
  (Instr.lookup t (.map (some m)) (kf x) c).run P w=.ok (if c then .tuple #[((get l x).map vf).getD z,.bool (get l x).isSome] else ((get l x).map vf).getD z) w:=by
 obtain ⟨n,hk⟩:=T.key hx
 have hc:=fun em=>T.law.check w em hk
 rcases T.find h hx w with ⟨h1,h2⟩ | ⟨j,p,h1,h2,h3⟩
 ·simp [Instr.lookup,run_underlying T.und,MapKept.run_getObj_map hm,hc,h1,T.zero,get_none h2]
 ·subst h3
  simp [Instr.lookup,run_underlying T.und,MapKept.run_getObj_map hm,hc,h1,get_at h h2]
structure Turn (w:World) (b:Nat) (w':World):Prop where
 size:w'.heap.size=w.heap.size
 other:∀ {c:Nat},c≠b→w'.heap[c]? = w.heap[c]?
 cell:∀ {c i:Nat},c≠b→w'.cell? ⟨c,i,none⟩=w.cell? ⟨c,i,none⟩
 free:∀ {c i:Nat},c≠b→w'.frozen? ⟨c,i,none⟩=w.frozen? ⟨c,i,none⟩
 below:∀ {n:Nat}{W:World},Below n W w→n≤b→Below n W w'
theorem Turn.blk {w w':World}{b c:Nat}{A:Array Value}{t:TypeId}(h:Turn w b w') (hb:Blk w c A t) (hc:c≠b):Blk w' c A t:=(h.other hc).trans hb
theorem Turn.of {w w1:World}{b:Nat}{o:Obj}(hw:w1=w∨w1=w.drew) (hb:b < w.heap.size):Turn w b (Go.ChangeMaps.setBlock w1 b o)∧(Go.ChangeMaps.setBlock w1 b o).heap[b]? = some o:=by
 have hh:w1.heap=w.heap:=by rcases hw with rfl|rfl <;> rfl
 have hot:∀ {c:Nat},c≠b→(Go.ChangeMaps.setBlock w1 b o).heap[c]? = w.heap[c]?:=by
  intro c hc
  simp only [Go.ChangeMaps.setBlock]
  rw [Array.getElem?_setIfInBounds,if_neg (Ne.symm hc),hh]
 have hsz:(Go.ChangeMaps.setBlock w1 b o).heap.size=w.heap.size:=by simp [Go.ChangeMaps.setBlock,hh]
 refine ⟨⟨hsz,hot,fun hc=>World.cell?_of_block (a:=⟨_,_,none⟩) (hot hc),fun hc=>World.frozen?_of_block (a:=⟨_,_,none⟩) (hot hc),fun hB hn=>hB.trans ⟨?_,?_,?_,Nat.le_of_eq hsz.symm,fun k hk=>hot om_⟩⟩,?_⟩
 ·rcases hw with rfl|rfl <;> rfl
 ·rcases hw with rfl|rfl <;> rfl
 ·rcases hw with rfl|rfl <;> rfl
 ·exact Q2v
theorem put_old {l:List (α × β)}(h:MapOk ok l) {j:Nat}{p:α × β}(hj:l[j]? = some p) (v:β) :
  (ents kf vf l).modify j (fun e=>{ e with key:=kf p.1,val:=vf v })=ents kf vf (put l p.1 v)∧(put l p.1 v).length=l.length:=by
 have hm:p∈l:=List.mem_of_getElem? hj
 have hin:p.1∈l.map (·.1):=List.mem_map_of_mem hm
 unfold put
 exact Qo
theorem put_new {l:List (α × β)}{x:α}(hn:∀ p∈l,p.1≠x) (v:β) :
  (ents kf vf l).push { key:=kf x,val:=vf v,born:=l.length }=ents kf vf (put l x v)∧(put l x v).length=l.length+1:=by
 have hni:x ∉ l.map (·.1):=by
  intro h
  obtain ⟨p,hp,he⟩:=List.mem_map.1 h
  exact hn p hp he
 unfold put
 exact Q13
theorem MapOk.put {l:List (α × β)}(h:MapOk ok l) {x:α}(hx:ok x) (v:β):MapOk ok (put l x v):=by
 unfold MapG.put
 exact Qk
omit [DecidableEq α] in
theorem MapOk.nil:MapOk ok ([]:List (α × β)):=⟨(by intro p hp;cases hp),sp_⟩
theorem MT.update (T:MT P t k e kf vf ok z) {w:World}{m:Nat}{l:List (α × β)}(hm:MapAt kf vf w m l) (h:MapOk ok l) {x:α}(hx:ok x) (v:β) :
  ∃ w',(Instr.mapUpdate t (.map (some m)) (kf x) (vf v)).run P w=.ok () w'∧Turn w m w'∧MapAt kf vf w' m (put l x v):=by
 obtain ⟨n,hk⟩:=T.key hx
 have hc:=fun em=>T.law.check w em hk
 have hst:=T.law.stays w hk
 have hlt:m < w.heap.size:=by
  rcases Nat.lt_or_ge m w.heap.size with h'|h'
  ·exact h'
  ·unfold MapAt at hm;simp [Array.getElem?_eq_none h'] at hm
 rcases T.find h hx w with ⟨h1,h2⟩ | ⟨j,p,h1,h2,h3⟩
 ·obtain ⟨e1,e2⟩:=put_new (kf:=kf) (vf:=vf) h2 v
  obtain ⟨t1,t2⟩:=Turn.of (w:=w) (w1:=w) (b:=m) (o:=.map ((ents kf vf l).push { key:=kf x,val:=vf v,born:=l.length }) (l.length+1)) (.inl rfl) hlt
  refine ⟨_,?_,t1,?_⟩
  ·simp [Instr.mapUpdate,run_underlying T.und,MapKept.run_getObj_map hm,hc,h1,MapKept.run_setObj_map _ hm,Go.ChangeMaps.setBlock]
  ·unfold MapAt;rw [t2,e1,e2]
 ·subst h3
  obtain ⟨e1,e2⟩:=put_old (kf:=kf) (vf:=vf) h h2 v
  have hent:(ents kf vf l)[j]? = some { key:=kf p.1,val:=vf p.2,born:=0+j }:=by simp [ents,entsFrom_get,h2]
  obtain ⟨t1,t2⟩:=Turn.of (w:=w) (w1:=w) (b:=m) (o:=.map ((ents kf vf l).modify j fun e=>{ e with key:=kf p.1,val:=vf v }) l.length) (.inl rfl) hlt
  refine ⟨_,?_,t1,?_⟩
  ·simp [Instr.mapUpdate,run_underlying T.und,MapKept.run_getObj_map hm,hc,h1,hent,hst,MapKept.run_setObj_map _ hm,Go.ChangeMaps.setBlock]
  ·unfold MapAt;rw [t2,e1,e2]
end
section
variable {α β:Type}{kf:α→Value}{vf:β→Value}
theorem MapAt.lt {w:World}{m:Nat}{l:List (α × β)}(h:MapAt kf vf w m l):m < w.heap.size:=by
 rcases Nat.lt_or_ge m w.heap.size with h'|h'
 ·exact h'
 ·unfold MapAt at h;simp [Array.getElem?_eq_none h'] at h
theorem MapAt.alloc {w:World}{m:Nat}{l:List (α × β)}(h:MapAt kf vf w m l) (o:Obj):MapAt kf vf (w.alloc o) m l:=(Below.heap_alloc w o m h.lt).trans h
theorem MapAt.drew {w:World}{m:Nat}{l:List (α × β)}(h:MapAt kf vf w m l):MapAt kf vf w.drew m l:=h
theorem MapAt.below {w w':World}{m n:Nat}{l:List (α × β)}(h:MapAt kf vf w m l) (hb:Below n w w') (hn:m < n):MapAt kf vf w' m l:=(hb.block m hn).trans h
theorem MapAt.new (w:World):MapAt kf vf (w.alloc (.map #[] 0)) w.heap.size []:=by
 show (w.heap.push _)[w.heap.size]? = _
 simp [ents,entsFrom]
theorem ents_borns (i:Nat) (l:List (α × β)):(entsFrom kf vf i l).map (·.born)=List.range' i l.length:=by
 induction l generalizing i with
 | nil=>rfl
 | cons p l ih=>simp [entsFrom,ih,List.range'_succ]
end
section
variable {P:Program}{t k e:TypeId}{α β:Type} [DecidableEq α] {kf:α→Value}{vf:β→Value}{ok:α→Prop}{z:Value}
variable {ops:Array Oper}{rest:List Oper}{o:Oper}{a:Act}{w:World}{Q:Exit→Act→World→Prop}
theorem wpList_lookup (T:MT P t k e kf vf ok z) (x y:Operand) (c:Bool) (hgd:o.guard=none) (ho:o.op=.lookup t x y c) {m:Nat}(hx:a.eval x=.map (some m)) {n:α}(hy:a.eval y=kf n) {l:List (α × β)}(hm:MapAt kf vf w m l) (h:MapOk ok l) (hk:ok n)
  (hK:wpList P ops Q rest (a.put o.dst (if c then .tuple #[((get l n).map vf).getD z,.bool (get l n).isSome] else ((get l n).map vf).getD z)) w):wpList P ops Q (o :: rest) a w:=by
 refine wpList_plain hgd fun K' hK'=>?_
 unfold Oper.wp
 simp only [execOp,ho,hx,hy]
 simp [T.lookup hm h hk,Result.andThen]
 exact hK' _ _ hK
theorem Zby (T:MT P t k e kf vf ok z) (x y u:Operand) (hgd:o.guard=none) (ho:o.op=.mapUpdate t x y u∨o.op=.insert t x y u) {m:Nat}(hx:a.eval x=.map (some m)) {n:α}(hy:a.eval y=kf n) {v:β}(hz:a.eval u=vf v) {l:List (α × β)}(hm:MapAt kf vf w m l) (h:MapOk ok l) (hk:ok n)
  (hK:∀ w',Turn w m w'→MapAt kf vf w' m (put l n v)→wpList P ops Q rest (a.put o.dst undef) w'):wpList P ops Q (o :: rest) a w:=by
 refine wpList_plain hgd fun K' hK'=>?_
 obtain ⟨w',h1,h2,h3⟩:=T.update hm h hk v
 unfold Oper.wp
 rcases ho with ho|ho <;> simp only [execOp,ho,hx,hy,hz] <;> simp [h1,Result.andThen] <;> exact hK' _ _ (hK w' h2 h3)
end
end Go.MapG
namespace Go.Proofs.YtbapgefodmmikaaGreatDoor
open Go.RowKit Go.Proofs Go.Ord Tryz
attribute [local irreducible] Ord.walk
open Go.MapG
abbrev KeyC:=Nat × Nat × Bool
def kfC (k:KeyC):Value:=.agg #[.int .u64 (k.1:Int),.int .i64 (k.2.1:Int),.bool k.2.2]
def vfC (f:Nat→Int):Value:=.agg (cs f)
def okC (k:KeyC):Prop:=k.1 < 64∧k.2.1 < 6
def dC (c:Cl):Nat:=c.drift.toNat
def goodC (c:Cl) (p:KeyC × (Nat→Int)):Prop:=p.1.2.1 < c.bs.length∧p.2=toC (dC c) c.bs p.1.1 p.1.2.1 p.1.2.2
def Zbf (b:Int × Int × Int):List Value:=[.int .i64 b.1,.int .i64 b.2.1,.int .i64 b.2.2]
def tabV (c:Cl) (ba:Option Addr) (bc mb:Nat):Array Value:=#[.slice ba c.bs.length bc,c.may,c.drift,c.mist,.map (some mb)]
structure TabAt (w:World) (T:Nat) (c:Cl) (ba:Option Addr) (bc mb:Nat):Prop where
 blk:Blk w T (tabV c ba bc mb) 178
 rows:RowsAt w ba 3 Zbf c.bs
def KeptC (w:World) (mb:Nat) (c:Cl):Prop:=∃ l,MapAt kfC vfC w mb l∧MapG.MapOk okC l∧∀ p∈l,goodC c p
def Ln (W0:World) (mb:Nat) (c:Cl) (W:World):Prop:=KeptC W mb c∧Lets (fun k _=>k=mb) W0 W
def Zcw (W0:World) (mb:Nat) (c:Cl) (v:Value) (w:World) (e:Ending) (w':World):Prop:=e=.returned v∧Ln W0 mb c w'∧Lets (fun k _=>k=mb) w w'
structure Zc3 (c:Cl):Prop where
 len:1≤c.bs.length∧c.bs.length≤6
 may:0≤c.may∧c.may≤30
 drift:0≤c.drift∧c.drift≤30
 mist:0≤c.mist∧c.mist≤6
 bales:∀ b∈c.bs,Ze4 b
theorem KeptC.lets {X:Nat→Option Obj→Prop}{w w':World}{mb:Nat}{c:Cl}(h:KeptC w mb c) (hl:Lets X w w') (hx:∀ o,¬ X mb o):KeptC w' mb c:=by
 obtain ⟨l,h1,h2⟩:=h
 exact ⟨l,(hl.block mb h1.lt (hx _)).trans h1,h2⟩
theorem Ln.lets {W0 W W':World}{mb:Nat}{c:Cl}{X:Nat→Option Obj→Prop}(h:Ln W0 mb c W) (hl:Lets X W W') (hmb:mb < W0.heap.size) (hX:∀ k o,X k o→W0.heap.size≤k):Ln W0 mb c W' :=
 ⟨h.1.lets hl (fun o e=>by have:=hX _ _ e;omega),h.2.next hl fun i hi _ e=>by have:=hX _ _ e;omega⟩
theorem Ln.below {W0 W W':World}{mb:Nat}{c:Cl}(h:Ln W0 mb c W) (hb:W W') (hmb:mb < W0.heap.size):Ln W0 mb c W':=h.lets (X:=fun _ _=>False) (Lets.of_below hb) hmb (fun _ _ e=>e.elim)
theorem Ln.drew {W0 W:World}{mb:Nat}{c:Cl}(h:Ln W0 mb c W):Ln W0 mb c W.drew:=⟨h.1,h.2.drew⟩
structure Zb4 (W0:World) (T:Nat) (c:Cl) (ba:Option Addr) (bc mb:Nat):Prop where
 tab:TabAt W0 T c ba bc mb
 kept:KeptC W0 mb c
namespace Zb4
variable {W0 W:World}{T:Nat}{c:Cl}{ba:Option Addr}{bc mb:Nat}
theorem noCells (h:Zb4 W0 T c ba bc mb) {cs:Array Value}{t:TypeId}{f:Nat × Nat}{k:Nat}(hk:W0.heap[k]? = some (.cells cs t f)):k≠mb:=by
 rintro rfl
 obtain ⟨l,h1,-⟩:=h.kept
 rw [show W0.heap[k]? = _ from h1] at hk
 cases hk
theorem mb_lt (h:Zb4 W0 T c ba bc mb):mb < W0.heap.size:=by
 obtain ⟨l,h1,-⟩:=h.kept
 exact h1.lt
theorem T_lt (h:Zb4 W0 T c ba bc mb):T < W0.heap.size:=h.tab.blk.lt
theorem T_ne (h:Zb4 W0 T c ba bc mb):T≠mb:=h.noCells h.tab.blk
theorem _root_.Q2a {p:Prop}(h:p:=by
 refine ⟨?_,bl_ W0 _ hc⟩
 rintro e
 obtain ⟨l,h1,-⟩:=h.kept
 rw [← e] at h1
 simp [World.cell?,show W0.heap[a.block]? = _ from h1] at hc):p:=h
theorem cell_ne (h:Zb4 W0 T c ba bc mb) {a:Addr}{v:Value}(hc:W0.cell? a=some v):a.block≠mb∧a.block < W0.heap.size:=Q2a
theorem at_ (h:Zb4 W0 T c ba bc mb) (hw:Ln W0 mb c W):TabAt W T c ba bc mb:=by
 refine ⟨hw.2.blk h.tab.blk h.T_ne,fun i hi=>?_⟩
 obtain ⟨gb,go,h0,h1⟩:=h.tab.rows i hi
 exact ⟨gb,go,h0,fun j u hu=>hw.2.cell (h1 j u hu) (h.cell_ne (h1 j u hu)).1⟩
end Zb4
theorem Ln.start {W0:World}{T:Nat}{c:Cl}{ba:Option Addr}{bc mb:Nat}(h:Zb4 W0 T c ba bc mb):Ln W0 mb c W0:=⟨h.kept,Lets.refl _ _⟩
theorem Zt6:Zdw prog 287 5:=⟨_,underlying287,rfl,by kernel_rfl⟩
theorem taken_eq:∀ set:Nat,set < 64→∀ n:Nat,n < 6→(bits .and .u64 ((set:Int) / 2 ^ n) 1 == 1)=Zcz set n:=by decide +kernel
theorem c_step {w:World}{T:Nat}{c:Cl}{ba:Option Addr}{bc mb:Nat}(h:TabAt w T c ba bc mb) (hlen:c.bs.length≤6) (n:Nat) (hn:n < c.bs.length) (set:Nat) (hs:set < 64) :
  Calls prog 211 #[.pointer T,n,.int .u64 (set:Int)] w (Zak (.agg (Zce c.drift (c.bs.getD n (0,0,0)) (Zcz set n))) w):=by
 have rT:=h.blk.cell
 obtain ⟨gb,go,rfl,hr⟩:=h.rows n hn
 have hg:c.bs.getD n (0,0,0)=c.bs[n]:=by rw [List.getD_eq_getElem?_getD,List.getElem?_eq_getElem hn];rfl
 rw [hg]
 have q0:=hr 0 _ rfl
 have q1:=hr 1 _ rfl
 have q2:=hr 2 _ rfl
 have lg:gb < w.heap.size:=bl_ w _ q0
 have lT:=h.blk.lt
 rw [Nat.add_zero] at q0
 clear hr hg
 obtain ⟨F,hF⟩:∃ F,c.bs[n].1=F:=⟨_,rfl⟩
 obtain ⟨L,hL⟩:∃ L,c.bs[n].2.1=L:=⟨_,rfl⟩
 obtain ⟨W,hW⟩:∃ W,c.bs[n].2.2=W:=⟨_,rfl⟩
 rw [hF] at q0
 rw [hL] at q1
 rw [hW] at q2
 unfold Zce
 rw [hF,hL,hW]
 clear hF hL hW
 have hni:(n:Int) < (c.bs.length:Int):=by omega
 obtain ⟨d,hd⟩:∃ d,c.drift=d:=⟨_,rfl⟩
 unfold tabV at rT
 rw [hd] at rT
 rw [hd]
 clear hd
 generalize c.bs.length=nl at *
 go_enter func211,ntmps211
 go_wp2_with fail
 refine Zyu [(0,0),(1,0),(2,0),(3,0),(4,0),(5,0),(6,0),(7,0),(8,0),(9,0),(10,0),(11,0),(12,0),(13,0),(14,0),(15,0),(16,0),(17,0),(18,0),(19,0),(20,2)] (fun _=>True) kr_ kr_ trivial ?_
 go_wp2_with (first
  | (with_reducible refine Zyp ?_)
  | (refine o_ ?_;intro K hK)|(with_reducible first|refine Zyo ?_ ?_|refine Zyj ?_|refine Zyf bn_ (fun _=>?_)))
 rw [taken_eq set hs n om_]
 refine bodyPost_ret (v:=.agg #[.int .i64 d,.int .i64 F,.int .i64 L,.int .i64 W,.bool (Zcz set n)]) (Za5 rfl _ Zt6 rfl (Blk.new _ _ _).drew rfl) rfl ⟨rfl,(br_.alloc nl_ _).drew⟩
theorem Zp7:laidOutB prog=true:=by kernel_rfl
theorem kc_law:WideMaps.KeyLaw prog 292 :=
 deep_law_gate Zp7 (of_decide_eq_true kr_) (of_decide_eq_true kr_) kr_ (by rw [underlying292])
theorem kc_key {x:KeyC}(h:okC x):∃ l,keyOf prog 292 (kfC x)=some l:=by
 obtain ⟨s,n,b⟩:=x
 obtain ⟨hs,hn⟩:=h
 simp only at hs hn
 have hk:prog.keyType 292=true:=by kernel_rfl
 obtain ⟨m,hm⟩:∃ m,prog.types.size+1=m+4:=⟨prog.types.size - 3,by have:3≤prog.types.size:=of_decide_eq_true kr_;omega⟩
 unfold keyOf
 rw [underlying292]
 simp only [hk,hm]
 have c1:prog.cellsOf 292=3:=by kernel_rfl
 have c3:prog.cellsOf 3=1:=by kernel_rfl
 have c4:prog.cellsOf 151=1:=by kernel_rfl
 have c5:prog.cellsOf 4=1:=by kernel_rfl
 have hform:(kfC (s,n,b)).formed prog 292=true:=by
  simp [Value.formed,underlying292,c1,kfC]
 rw [hform]
 have hw:∀ n:Int,0≤n∧n < 1000000→(Lit.int .i64 n).wf=true:=fun n hn=>by have:IntKind.i64.min = -9223372036854775808:=rfl;have h2:IntKind.i64.max=9223372036854775807:=rfl;simp [Lit.wf,this,h2];omega
 have hu:∀ n:Int,0≤n∧n < 1000000→(Lit.int .u64 n).wf=true:=fun n hn=>by have:IntKind.u64.min=0:=rfl;have h2:IntKind.u64.max=18446744073709551615:=rfl;simp [Lit.wf,this,h2];omega
 have e1:=hu (s:Int) om_
 have e2:=hw (n:Int) om_
 simp [Program.keyLits,underlying292,underlying3,underlying151,underlying4,kfC,c1,c3,c4,c5,Value.cells,e1,e2]
theorem kc_inj {a b:KeyC}(h:kfC a=kfC b):a=b:=by
 obtain ⟨a1,a2,a3⟩:=a
 obtain ⟨b1,b2,b3⟩:=b
 simp only [kfC,Value.agg.injEq,Array.mk.injEq,List.cons.injEq,Value.int.injEq,Value.bool.injEq,true_and,and_true] at h
 obtain ⟨h1,h2,h3⟩:=h
 have:a1=b1:=by omega
 have:a2=b2:=by omega
 simp_all
theorem _root_.Q1r {p:Prop}(h:p:=by
 rw [hi] at h
 simp only [Option.map_some,Option.some.injEq] at h
 simp [zeroValue,typeInfo,hi,h]):p:=h
theorem kc_zero (w:World):(zeroValue 182).run prog w=.ok (.agg (cs fun _=>0)) w:=by
 have h:(prog.info? 182).map (·.zero)=some (some (.agg (cs fun _=>0))):=by kernel_rfl
 cases hi:prog.info? 182 with
 | none=>rw [hi] at h;cases h
 | some i =>exact Q1r
theorem kc_mt:MT prog 176 292 182 kfC vfC okC (.agg (cs fun _=>0)) where
 und:=underlying176
 law:=Go.Maps.Keyed.of_law kc_law
 key:=kc_key
 inj:=kc_inj
 zero:=kc_zero
theorem Zm5 {b:Int × Int × Int}(hb:Ze4 b) (tk:Bool):∀ i,i < 31→0≤ownC b tk i∧ownC b tk i≤65536:=by
 intro i hi
 obtain ⟨F,L,W⟩:=b
 obtain ⟨h1,h2,h3,h4,h5,h6⟩:=hb
 simp only at h1 h2 h3 h4 h5 h6
 simp only [ownC]
 split
 ·omega
 ·split <;> omega
theorem Znl {c:Nat→Int}(d:Nat) (hc:∀ i,i < 31→0≤c i∧c i≤65536):∀ i,i < 31→0≤Zen d c i∧Zen d c i≤65536:=by
 intro i hi
 unfold Zen
 obtain ⟨j,hj,e⟩:=Zmd c (i - d) (min 30 (i+d) - (i - d))
 rw [e]
 exact hc _ om_
theorem Zvo {c o:Nat→Int}(hc:∀ i,i < 31→0≤c i∧c i≤65536) (ho:∀ i,i < 31→0≤o i∧o i≤65536):∀ i,i < 31→0≤Zn1 c o i∧Zn1 c o i≤65536:=by
 intro i hi
 have:=hc i hi
 have:=ho i hi
 unfold Zn1 sum2
 omega
theorem Zcy {c:Cl}(h:Zc3 c) {n:Nat}(hn:n < c.bs.length):Ze4 (c.bs.getD n (0,0,0)):=by
 rw [List.getD_eq_getElem?_getD,List.getElem?_eq_getElem hn]
 exact h.bales _ (List.getElem_mem hn)
theorem toF_in {c:Cl}(h:Zc3 c) (set:Nat):∀ n,n < c.bs.length→∀ i,i < 31→0≤toF (dC c) c.bs set n i∧toF (dC c) c.bs set n i≤65536
 | 0,hn=>Zm5 (Zcy h hn) _
 | n+1,hn=>Zvo (Znl _ (toF_in h set n om_)) (Zm5 (Zcy h hn) _)
theorem toB_in {c:Cl}(h:Zc3 c) (set:Nat):∀ k,k < c.bs.length→∀ i,i < 31→0≤toB (dC c) c.bs set k i∧toB (dC c) c.bs set k i≤65536
 | 0,hn=>Zm5 (Zcy h om_) _
 | k+1,hn=>Zvo (Znl _ (toB_in h set k om_)) (Zm5 (Zcy h om_) _)
theorem Zs6 {c:Cl}(h:Zc3 c) (set n:Nat) (hn:n < c.bs.length) (back:Bool):∀ i,i < 31→0≤toC (dC c) c.bs set n back i∧toC (dC c) c.bs set n back i≤65536:=by
 unfold toC
 cases back
 ·simpa using toF_in h set n hn
 ·simpa using toB_in h set (c.bs.length - 1 - n) om_
theorem Zsb {c:Nat→Int}(h:∀ i,i < 31→0≤c i∧c i≤65536):Zya c:=fun i hi=>by have:=h i hi;omega
theorem toC_f0 (d:Nat) (bs:List (Int × Int × Int)) (set:Nat):toC d bs set 0 false=ownC (bs.getD 0 (0,0,0)) (Zcz set 0):=by simp [toC,toF]
theorem toC_fs (d:Nat) (bs:List (Int × Int × Int)) (set n:Nat):toC d bs set (n+1) false=Zhg d (bs.getD (n+1) (0,0,0)) (Zcz set (n+1)) (toC d bs set n false):=by simp [toC,toF]
theorem toC_b0 (d:Nat) (bs:List (Int × Int × Int)) (set:Nat):toC d bs set (bs.length - 1) true=ownC (bs.getD (bs.length - 1) (0,0,0)) (Zcz set (bs.length - 1)):=by simp [toC,toB]
theorem toC_bs (d:Nat) (bs:List (Int × Int × Int)) (set n:Nat) (hn:n+1 < bs.length):toC d bs set n true=Zhg d (bs.getD n (0,0,0)) (Zcz set n) (toC d bs set (n+1) true):=by
 obtain ⟨k,hk⟩:∃ k,bs.length - 1 - n=k+1:=⟨bs.length - 2 - n,om_⟩
 have h1:bs.length - 1 - (n+1)=k:=by omega
 have h2:bs.length - 1 - (k+1)=n:=by omega
 simp only [toC,if_true,hk,h1]
 rw [toB,h2]
abbrev Zo7:Array Value:=#[(),(),(),(),(),(),(),(),(),(),(),(),(),(),(),(),(),(),(),(),(),(),(),(),(),(),(),(),(),(),()]
theorem Zkg:Zdw prog 292 3:=⟨_,underlying292,rfl,by kernel_rfl⟩
theorem c_after (d:Nat) (hd:d≤30) (b:Int × Int × Int) (tk:Bool) (hb:Ze4 b) (c:Nat→Int) (hc:∀ i,i < 31→0≤c i∧c i≤65536) (w:World) :
  Calls prog 360 #[.agg (Zce d b tk),.agg (cs c)] w (Zak (.agg (cs (Zhg d b tk c))) w):=by
 have HD:=hd_ (fun W=>c_drift d hd c W)
 have HO:=hd_ (fun W=>c_own d b tk hb W)
 have HP:=hd_ (fun W=>c_plus (Zen d c) (ownC b tk) (Zsb (Znl d hc)) (Zsb (Zm5 hb tk)) W)
 rw [show Zn1 (Zen d c) (ownC b tk)=Zhg d b tk c from rfl] at HP
 generalize Zen d c=D at *
 generalize ownC b tk=O at *
 generalize Zhg d b tk c=R at *
 clear hc hb
 obtain ⟨F,L,W⟩:=b
 go_enter func360,ntmps360
 go_wp2_with fail
 obtain ⟨w1,hw1⟩:∃ w1,((w.alloc (.cells (Zce d (F,L,W) tk) 287)).alloc (.cells (cs c) 182)).alloc (.cells Zo7 182)=w1:=⟨_,rfl⟩
 rw [hw1]
 have b1:Blk w1 w.heap.size (Zce d (F,L,W) tk) 287:=by rw [← hw1];exact ((Blk.new _ _ _).alloc _).alloc _
 have b2:Blk w1 (w.heap.size+1) (cs c) 182:=by rw [← hw1];exact (Blk.new' _ _ _ _ sp_).alloc _
 have b3:Blk w1 (w.heap.size+1+1) (cs fun _=>0) 182:=by rw [← hw1];exact Blk.new' _ _ _ _ sp_
 have hB:Below w.heap.size w w1:=by rw [← hw1];exact bel_
 have hs:w1.heap.size=w.heap.size+3:=by rw [← hw1];simp
 clear hw1
 have r1:=b1.cell
 have hl1:Lets (fun k _=>k=w.heap.size+1+1) w1 w1.drew:=(Lets.refl _ _).drew
 refine Zyu [(0,1),(1,0),(2,0),(3,0),(5,1),(4,2),(6,2),(7,2),(8,2)] (fun W=>Lets (fun k _=>k=w.heap.size+1+1) w1 W) kr_ kr_ hl1 ?_
 go_wp2_with (first
  | (with_reducible refine Zyp ?_)
  | (refine Za0 182 (.tmp 3) Za7 rfl rfl rfl b2.drew (Za9 _) ?_)
  | ((with_reducible refine Zye ?_);refine Zyq (ad:=⟨w.heap.size,0,none⟩) (.agg (Zce d (F,L,W) tk)) rfl rfl ?_ ?_;(focus (intro W hW;exact Zbo Zt6 (hW.blk b1 om_) rfl));intro K hK)
  | (go_at_call 359;refine (HD.out _).mono ?_;rintro e w2 ⟨rfl,hb2⟩;have hl2:=hl1.trans (Lets.of_below hb2))
  | (go_at_call 212;refine (HO.out _).mono ?_;rintro e w3 ⟨rfl,hb3⟩;have hl3:=hl2.trans (Lets.of_below hb3))
  | (go_at_call 361;refine (HP.out _).mono ?_;rintro e w4 ⟨rfl,hb4⟩;have hl4:=hl3.trans (Lets.of_below hb4);refine Za2 ?_)
  | (refine o_ ?_;intro K hK)|(with_reducible first|refine Zyo ?_ ?_|refine Zyj ?_|refine Zyf bn_ (fun _=>?_)))
 unfold Stop
 have b34:Blk w4 (w.heap.size+1+1) (cs fun _=>0) 182:=((b3.drew.below hb2 (by simp;omega)).below hb3 (by have:=hb2.size;simp at this;omega)).below hb4 (by have:=hb2.size;have:=hb3.size;simp at *;omega)
 go_wp2_with (first
  | (refine Za1 182 (.tmp 4) (.tmp 13) Za7 rfl rfl rfl rfl b34 (Za9 _) (Za9 _) (Zck _) ?_;intro w6 h6;have hl6:=hl4.rowed h6 rfl)
  | (with_reducible refine Zyp ?_)
  | (refine o_ ?_;intro K hK)|(with_reducible first|refine Zyo ?_ ?_|refine Zyj ?_|refine Zyf bn_ (fun _=>?_)))
 refine bodyPost_ret (v:=.agg (cs R)) (Za5 rfl _ Za7 rfl h6.blk (Za9 _)) rfl ⟨rfl,hB.trans ((hl6.below (n:=w.heap.size) om_ (fun k hk e=>om_)))⟩
end Go.Proofs.YtbapgefodmmikaaGreatDoor
