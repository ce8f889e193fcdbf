/- Parts of a proof. -/
import Derived.Test.YtbapgefodmmikaaGreatDoorKMin
import Derived.Test.YtbapgefodmmikaaGreatDoorK06
import Derived.Laws.AppendOwnNone
import Derived.RangeFuncLeaves
import Derived.Scope
import Derived.Laws.CopyOwn
set_option linter.unusedVariables false
set_option linter.unusedSimpArgs false
set_option maxHeartbeats 40000000
set_option maxRecDepth 100000
namespace Go.Proofs.YtbapgefodmmikaaGreatDoor
open Go.RowKit Go.Proofs Go.Ord Tryz
attribute [local irreducible] Ord.walk
theorem bit_u64z (vo v:Nat) (h:vo < 2 ^ 62):(bits .and .u64 ((vo:Int) / 2 ^ v) 1 == 0) = !hasB vo v:=by
 have h1:((vo:Int) / 2 ^ v)=((vo / 2 ^ v:Nat):Int):=by simp
 have h2:vo / 2 ^ v≤vo:=Nat.div_le_self _ _
 have h3:(1:Int)=((1:Nat):Int):=rfl
 rw [h1]
 conv=>lhs;arg 1;rw [h3]
 rw [u64_and_nat _ _ om_ om_,nat_mask1]
 unfold hasB
 rw [Bool.eq_iff_iff,beq_iff_eq,Bool.not_eq_true',beq_eq_false_iff_ne]
 omega
def Zeh (gs:List Gr):List Value:=gs.flatMap fun g=>[.int .u64 g.1,.int .i64 g.2.1,.int .i64 g.2.2]
theorem Zqk (gs:List Gr) (g:Gr):Zeh (gs ++ [g])=Zeh gs ++ [.int .u64 g.1,.int .i64 g.2.1,.int .i64 g.2.2]:=by simp [Zeh]
theorem Zoo:∀ (gs:List Gr) (i:Nat),(h:i < gs.length)→(Zeh gs)[i * 3]? = some (.int .u64 gs[i].1)∧(Zeh gs)[i * 3+1]? = some (.int .i64 gs[i].2.1)∧(Zeh gs)[i * 3+2]? = some (.int .i64 gs[i].2.2)
 | g :: gs,0,_=>⟨rfl,rfl,rfl⟩
 | g :: gs,i+1,h=>by
  have ih:=Zoo gs i (by simpa using h)
  have e:∀ k,(Zeh (g :: gs))[(i+1) * 3+k]? = (Zeh gs)[i * 3+k]?:=fun k=>by
   show (([.int .u64 g.1,.int .i64 g.2.1,.int .i64 g.2.2]:List Value) ++ Zeh gs)[_]? = _
   rw [List.getElem?_append_right (by simp;omega)]
   congr 1
   simp;omega
  exact ⟨(e 0).trans ih.1,(e 1).trans ih.2.1,(e 2).trans ih.2.2⟩
def GOwn (w:World) (base:Nat) (v:Value) (gs:List Gr):Prop:=w.ownsRow base 234 3 v gs.length (Zeh gs)
theorem GOwn.at {w:World}{base:Nat}{v:Value}{gs:List Gr}(h:GOwn w base v gs) (hp:0 < gs.length):∃ gb gc,v=.slice (some ⟨gb,0,none⟩) gs.length gc∧base≤gb∧GrAt w (some ⟨gb,0,none⟩) gs:=by
 obtain ⟨hl,⟨-,h0⟩ | ⟨g,cap,cur,hv,hg,hh,hn,hc,hs,ht⟩⟩:=h
 ·omega
 refine ⟨g,cap,hv,hg,fun i hi=>⟨g,0,rfl,?_⟩⟩
 have hcell:∀ k u,(Zeh gs)[k]? = some u→w.cell? ⟨g,k,none⟩=some u:=fun k u hk=>by
  rw [cell_of_row w g k cur _ (0,0) hh]
  rw [← ht,List.getElem?_take] at hk
  split at hk
  ·simpa using hk
  ·cases hk
 obtain ⟨h1,h2,h3⟩:=Zoo gs i hi
 simp only [Nat.zero_add]
 exact ⟨hcell _ _ h1,hcell _ _ h2,hcell _ _ h3⟩
def Zhb (ks:List Kn) (set:Nat) (ws:List Kn) (i:Nat):List Kn:=if i≤ks.length then Ze5 ks set i else Ze5 ks set ks.length ++ ws.take (i - ks.length)
theorem Zo5 (ks:List Kn) (set:Nat) (ws:List Kn):Zhb ks set ws (ks.length+ws.length)=sel ks set ws:=by
 unfold Zhb sel
 split
 ·rename_i h
  have:ws=[]:=List.eq_nil_of_length_eq_zero om_
  subst this;simp
 ·rw [Nat.add_sub_cancel_left,List.take_length]
theorem Zd3 (ks:List Kn) (set i:Nat) (h:i < ks.length):Ze5 ks set (i+1)=Ze5 ks set i ++ if hasB set i then [ks[i]] else []:=by
 unfold Ze5
 rw [List.range_succ,List.flatMap_append]
 simp [h]
theorem Zrp (ks:List Kn) (set:Nat) (ws:List Kn) (i:Nat) (h:i < ks.length) (hb:hasB set i=false):Zhb ks set ws (i+1)=Zhb ks set ws i:=by
 unfold Zhb
 rw [if_pos om_,if_pos om_,Zd3 ks set i h,hb];simp
theorem Zo4 (ks:List Kn) (set:Nat) (ws:List Kn) (i:Nat) (x:Kn) (hx:(ks ++ ws)[i]? = some x) (hb:i < ks.length→hasB set i=true):Zhb ks set ws (i+1)=Zhb ks set ws i ++ [x]:=by
 unfold Zhb
 by_cases h:i < ks.length
 ·rw [if_pos om_,if_pos om_,Zd3 ks set i h,hb h,if_pos rfl]
  rw [List.getElem?_append_left h,List.getElem?_eq_getElem h] at hx
  rw [Option.some.inj hx]
 ·rw [List.getElem?_append_right om_] at hx
  have hl:=(List.getElem?_eq_some_iff.1 hx).1
  have h2:=(List.getElem?_eq_some_iff.1 hx).2
  rw [if_neg om_]
  have e:i+1 - ks.length=(i - ks.length)+1:=by omega
  rw [e,List.take_succ_eq_append_getElem hl,h2]
  by_cases h3:i≤ks.length
  ·have:i=ks.length:=by omega
   subst this
   rw [if_pos om_];simp
  ·rw [if_neg h3];simp
theorem Zt9 (L:List Kn) (g0:Gr) (x:Kn):Zgw (L ++ [x]) g0=Zfx (Zgw L g0) x:=by simp [Zgw]
theorem Zta (L M:List Kn) (g0:Gr) (h:Zgw L g0=none):Zgw (L ++ M) g0=none:=by
 unfold Zgw at *
 rw [List.foldl_append,h]
 induction M with
 | nil=>rfl
 | cons x M ih=>exact ih
theorem Zkp (ks:List Kn) (set:Nat) (ws:List Kn):∀ (n i:Nat),i+n=ks.length+ws.length→∃ M,sel ks set ws=Zhb ks set ws i ++ M
 | 0,i,h=>⟨[],by rw [List.append_nil,← Zo5];congr 1;omega⟩
 | n+1,i,h=>by
  obtain ⟨M,hM⟩:=Zkp ks set ws n (i+1) om_
  have hi:i < (ks ++ ws).length:=by simp;omega
  by_cases hb:i < ks.length∧hasB set i=false
  ·rw [Zrp ks set ws i hb.1 hb.2] at hM
   exact ⟨M,hM⟩
  ·rw [Zo4 ks set ws i (ks ++ ws)[i] (List.getElem?_eq_getElem hi) (fun h=>by simpa using fun e=>hb ⟨h,e⟩),List.append_assoc] at hM
   exact ⟨_,hM⟩
def TiOk (t:Ti):Prop:=∀ i,i < 8→(t i).1 < 8
theorem TiOk.free:TiOk Zhp:=fun i h=>h
theorem TiOk.tied {t:Ti}(h:TiOk t) {A B:Nat}(hA:A < 8) (hB:B < 8) (s:Bool):TiOk (Zcw t A B s):=by
 intro i hi
 unfold Zcw
 have h1:=h A hA
 have h2:=h B hB
 split
 ·exact h i hi
 ·simp only [Zb9,toT]
  rw [if_pos hi]
  have h3:=h i hi
  split
  ·show min _ _ < 8;omega
  ·exact h3
theorem Zan:Zds prog 142 9:=⟨_,underlying142,rfl,by kernel_rfl⟩
theorem Ztb:(prog.info? 234).map (fun i=>(i.zero,i.size,i.bytes))=some (some (.agg #[.int .u64 0,(),()]),3,24):=by kernel_rfl
theorem _root_.Q1t {p:Prop}(h:p:=by
 obtain ⟨hl,h | ⟨g,cap,cur,hv,hg,hh,hn,hc,hs,ht⟩⟩:=h
 ·exact ⟨hl,.inl h⟩
 ·exact ⟨hl,.inr ⟨g,cap,cur,hv,hg,(hk g hg (lt_of_block hh)).trans hh,hn,hc,hs,ht⟩⟩):p:=h
theorem GOwn.of_heap {w w':World}{base:Nat}{v:Value}{gs:List Gr}(h:GOwn w base v gs) (hk:∀ g,base≤g→g < w.heap.size→w'.heap[g]? = w.heap[g]?):GOwn w' base v gs:=Q1t
theorem GOwn.row {w:World}{base:Nat}{v:Value}{gs:List Gr}(h:GOwn w base v gs) {g:Nat}(hg:v.ownBlock=some g):base≤g∧∀ A t,Blk w g A t→t=234:=by
 obtain ⟨hl,⟨rfl,-⟩ | ⟨g',cap,cur,rfl,hg',hh,hn,hc,hs,ht⟩⟩:=h
 ·cases hg
 ·simp only [Value.ownBlock,Option.some.injEq] at hg
  subst hg
  refine ⟨hg',fun A t hb=>?_⟩
  rw [show w.heap[g']? = _ from hb] at hh
  simp only [Option.some.injEq,Obj.cells.injEq] at hh
  exact hh.2.1
theorem GOwn.setCell {w:World}{base gp:Nat}{v:Value}{gs:List Gr}{A:Array Value}{t:TypeId}(h:GOwn w base v gs) (hb:Blk w gp A t) (ht:t≠234) (i:Nat) (u:Value):GOwn (w.setCell ⟨gp,i,none⟩ u) base v gs:=by
 obtain ⟨hl,h0 | ⟨g,cap,cur,hv,hg,hh,hn,hc,hs,htk⟩⟩:=h
 ·exact ⟨hl,.inl h0⟩
 ·refine ⟨hl,.inr ⟨g,cap,cur,hv,hg,(Below.heap_setCell w _ u g (fun e=>?_)).trans hh,hn,hc,hs,htk⟩⟩
  simp only at e
  subst e
  rw [show w.heap[g]? = _ from hb] at hh
  simp only [Option.some.injEq,Obj.cells.injEq] at hh
  exact ht hh.2.1
theorem Zmr {w:World}{b:Nat}{A:Array Value}{t:TypeId}(h:Blk w b A t):∀ (j:Nat) (u:Value),A.toList[j]? = some u→w.cell? ((⟨b,0,none⟩:Addr).add j)=some u:=by
 intro j u hu
 have:(⟨b,0,none⟩:Addr).add j=⟨b,j,none⟩:=by simp [Addr.add];try omega
 rw [this,h.cell]
 simpa using hu
theorem Off.grown {T:List Nat}{n:Nat}{w w' w'':World}{row:Option Nat}(h:Off T n w w') (hg:w'.grownBy w'' row) (hn:n≤w'.heap.size) (hr:∀ g,row=some g→g∈T∨n≤g):Off T n w w'' :=
 h.trans ⟨hg.os,hg.tape,hg.output,hg.size,fun k hk ht=>hg.block k om_ (fun e=>by rcases hr k e.symm with h|h;exact ht h;omega)⟩
def Stop (p:Prop):Prop:=p
theorem Za2 {p:Prop}(h:Stop p):p:=h
structure L1 (ks:List Kn) (set:Nat) (ws:List Kn) (g0:Gr) (W:World) (base bt gp:Nat) (i:Nat) (w:World) (t:Ti) (gs:List Gr) (vs:Value):Prop where
 off:Off [bt] base W w
 size:W.heap.size≤w.heap.size
 fold:Zgw (Zhb ks set ws i) g0=some (t,gs)
 b8:Blk w bt (Zaj t) 240
 b10:Blk w gp #[vs] 242
 own:GOwn w base vs gs
 ok:TiOk t
 pos:0 < gs.length
 len:gs.length≤i+1
theorem Zwb {u0 u2 u4 u5 u7 u9 u11 u12 u13 u14 u15 u16 u17 u18 u19 u20 u21 u22 u23 u24 u25 u26 u27 u28 u29 u30 u31 u32 u33 u34 u35 u36 u37 u38 u39 u40 u41 u42 u43 u44 u45 u46 u47 u48 u49 u50 u51 u52 u53 u54 u55 u56 u57 u58 u59 u60 u61 u65 u66 u67 u68 u69 u70 u71 u72 u73 u74 u75 u76 u77 u78 u79 u80 u81 u82 u83 u84 u85 u86 u87 u88 u89 u90 u91 u92 u93 u94 u95 u96 u97 u98 u99 u100 u101 u102 u103 u104 u105 u106 u107 u108 u109 u110 u111 u112 u113 u114 u115 u116 u117 u118 u119 u120 u121 u122 u123 u124 u125 u126 u127 u128 u129 u130 u131 u132 u133 u134 u135 u136 u137 u138 u139 u140 u141 u142 u143 u144 u145 u146 u147 u148 u149 u150 u151 u152 u153 u154 u155 u156 u157 u158 u159 u160 u161 u162 u163 u164 u165 u166 u167 u168 u169 u170 u171 u172 u173 u174 u175 u176 u177 u178 u179 u180 u181 u182 u183 u184 u185 u186 u187 u188 u189 u190:Value}{ds:List Deferred}(Q:Exit→Act→World→Prop) (W:World) (base v nb bt gp ob kb:Nat) (ka:Option Addr) (kc oc:Nat) (ks ws:List Kn) (set:Nat) (g0:Gr) (KA:Array Value) (vs0:Value)
  (hkl:ks.length≤8) (hwl:ws.length≤2) (hset:set < 2 ^ 62) (hok:∀ x∈ks ++ ws,knOk x)
  (b3:Blk W nb #[.pointer v] 143) (v6:W.cell? ⟨v,6,none⟩=some (.slice ka ks.length kc))
  (bo:Blk W ob (Zay fun _=>0) 142) (bk:Blk W kb KA 154) (hKA:∀ (i:Nat) (x:Kn),(ks ++ ws)[i]? = some x→KA[i]? = some (knV x))
  (l1:nb < base) (l2:v < base) (l3:ob < base) (l4:kb < base) (l5:bt < base) (lb:base≤gp) (d1:nb≠bt) (d2:v≠bt) (d3:ob≠bt) (d4:kb≠bt)
  (h0:L1 ks set ws g0 W base bt gp 0 W Zhp [g0] vs0)
  (hexit:∀ (x9 x11 x12 x13 x14 x64 x65 x66 x67 x68 x69 x70 x71 x72 x73 x74 x75 x76 x77 x78 x79 x80 x81 x82 x83 x84 x85 x86 x87 x88 x89 x90 x91 x92 x93 x94 x95 x96 x97 x98 x99 x100 x101 x102:Value) W' t gs vs,L1 ks set ws g0 W base bt gp (ks.length+ws.length) W' t gs vs →
   Q (.exit 0) ⟨(u0 :: .int .u64 set :: u2 :: .pointer nb :: u4 :: u5 :: .pointer ob :: u7 :: .pointer bt :: x9 :: .pointer gp :: x11 :: x12 :: x13 :: x14 :: u15 :: u16 :: u17 :: u18 :: u19 :: u20 :: u21 :: u22 :: u23 :: u24 :: u25 :: u26 :: u27 :: u28 :: u29 :: u30 :: u31 :: u32 :: u33 :: u34 :: u35 :: u36 :: u37 :: u38 :: u39 :: u40 :: u41 :: u42 :: u43 :: u44 :: u45 :: u46 :: u47 :: u48 :: u49 :: u50 :: u51 :: u52 :: u53 :: u54 :: u55 :: u56 :: u57 :: u58 :: u59 :: u60 :: u61 :: .slice kb (ks.length+ws.length) oc :: .int .i64 (ks.length+ws.length) :: x64 :: x65 :: x66 :: x67 :: x68 :: x69 :: x70 :: x71 :: x72 :: x73 :: x74 :: x75 :: x76 :: x77 :: x78 :: x79 :: x80 :: x81 :: x82 :: x83 :: x84 :: x85 :: x86 :: x87 :: x88 :: x89 :: x90 :: x91 :: x92 :: x93 :: x94 :: x95 :: x96 :: x97 :: x98 :: x99 :: x100 :: x101 :: x102 :: u103 :: u104 :: u105 :: u106 :: u107 :: u108 :: u109 :: u110 :: u111 :: u112 :: u113 :: u114 :: u115 :: u116 :: u117 :: u118 :: u119 :: u120 :: u121 :: u122 :: u123 :: u124 :: u125 :: u126 :: u127 :: u128 :: u129 :: u130 :: u131 :: u132 :: u133 :: u134 :: u135 :: u136 :: u137 :: u138 :: u139 :: u140 :: u141 :: u142 :: u143 :: u144 :: u145 :: u146 :: u147 :: u148 :: u149 :: u150 :: u151 :: u152 :: u153 :: u154 :: u155 :: u156 :: u157 :: u158 :: u159 :: u160 :: u161 :: u162 :: u163 :: u164 :: u165 :: u166 :: u167 :: u168 :: u169 :: u170 :: u171 :: u172 :: u173 :: u174 :: u175 :: u176 :: u177 :: u178 :: u179 :: u180 :: u181 :: u182 :: u183 :: u184 :: u185 :: u186 :: u187 :: u188 :: u189 :: u190 :: []).toArray,ds⟩ W')
  (hret:∀ (x9 x11 x12 x13 x14 x64 x65 x66 x67 x68 x69 x70 x71 x72 x73 x74 x75 x76 x77 x78 x79 x80 x81 x82 x83 x84 x85 x86 x87 x88 x89 x90 x91 x92 x93 x94 x95 x96 x97 x98 x99 x100 x101 x102:Value) W',Off [bt,ob] base W W'→W.heap.size≤W'.heap.size→Blk W' ob (Zay fun _=>0) 142→Zgw (sel ks set ws) g0=none →
   Q .ret ⟨(u0 :: .int .u64 set :: u2 :: .pointer nb :: u4 :: u5 :: .pointer ob :: u7 :: .pointer bt :: x9 :: .pointer gp :: x11 :: x12 :: x13 :: x14 :: u15 :: u16 :: u17 :: u18 :: u19 :: u20 :: u21 :: u22 :: u23 :: u24 :: u25 :: u26 :: u27 :: u28 :: u29 :: u30 :: u31 :: u32 :: u33 :: u34 :: u35 :: u36 :: u37 :: u38 :: u39 :: u40 :: u41 :: u42 :: u43 :: u44 :: u45 :: u46 :: u47 :: u48 :: u49 :: u50 :: u51 :: u52 :: u53 :: u54 :: u55 :: u56 :: u57 :: u58 :: u59 :: u60 :: u61 :: .slice kb (ks.length+ws.length) oc :: .int .i64 (ks.length+ws.length) :: x64 :: x65 :: x66 :: x67 :: x68 :: x69 :: x70 :: x71 :: x72 :: x73 :: x74 :: x75 :: x76 :: x77 :: x78 :: x79 :: x80 :: x81 :: x82 :: x83 :: x84 :: x85 :: x86 :: x87 :: x88 :: x89 :: x90 :: x91 :: x92 :: x93 :: x94 :: x95 :: x96 :: x97 :: x98 :: x99 :: x100 :: x101 :: x102 :: u103 :: u104 :: u105 :: u106 :: u107 :: u108 :: u109 :: u110 :: u111 :: u112 :: u113 :: u114 :: u115 :: u116 :: u117 :: u118 :: u119 :: u120 :: u121 :: u122 :: u123 :: u124 :: u125 :: u126 :: u127 :: u128 :: u129 :: u130 :: u131 :: u132 :: u133 :: u134 :: u135 :: u136 :: u137 :: u138 :: u139 :: u140 :: u141 :: u142 :: u143 :: u144 :: u145 :: u146 :: u147 :: u148 :: u149 :: u150 :: u151 :: u152 :: u153 :: u154 :: u155 :: u156 :: u157 :: u158 :: u159 :: u160 :: u161 :: u162 :: u163 :: u164 :: u165 :: u166 :: u167 :: u168 :: u169 :: u170 :: u171 :: u172 :: u173 :: u174 :: u175 :: u176 :: u177 :: u178 :: u179 :: u180 :: u181 :: u182 :: u183 :: u184 :: u185 :: u186 :: u187 :: u188 :: u189 :: u190 :: []).toArray,ds⟩ W') :
  cA.wp prog Q ⟨(u0 :: .int .u64 set :: u2 :: .pointer nb :: u4 :: u5 :: .pointer ob :: u7 :: .pointer bt :: u9 :: .pointer gp :: u11 :: u12 :: u13 :: u14 :: u15 :: u16 :: u17 :: u18 :: u19 :: u20 :: u21 :: u22 :: u23 :: u24 :: u25 :: u26 :: u27 :: u28 :: u29 :: u30 :: u31 :: u32 :: u33 :: u34 :: u35 :: u36 :: u37 :: u38 :: u39 :: u40 :: u41 :: u42 :: u43 :: u44 :: u45 :: u46 :: u47 :: u48 :: u49 :: u50 :: u51 :: u52 :: u53 :: u54 :: u55 :: u56 :: u57 :: u58 :: u59 :: u60 :: u61 :: .slice kb (ks.length+ws.length) oc :: .int .i64 (ks.length+ws.length) :: ↑() :: u65 :: u66 :: u67 :: u68 :: u69 :: u70 :: u71 :: u72 :: u73 :: u74 :: u75 :: u76 :: u77 :: u78 :: u79 :: u80 :: u81 :: u82 :: u83 :: u84 :: u85 :: u86 :: u87 :: u88 :: u89 :: u90 :: u91 :: u92 :: u93 :: u94 :: u95 :: u96 :: u97 :: u98 :: u99 :: u100 :: u101 :: u102 :: u103 :: u104 :: u105 :: u106 :: u107 :: u108 :: u109 :: u110 :: u111 :: u112 :: u113 :: u114 :: u115 :: u116 :: u117 :: u118 :: u119 :: u120 :: u121 :: u122 :: u123 :: u124 :: u125 :: u126 :: u127 :: u128 :: u129 :: u130 :: u131 :: u132 :: u133 :: u134 :: u135 :: u136 :: u137 :: u138 :: u139 :: u140 :: u141 :: u142 :: u143 :: u144 :: u145 :: u146 :: u147 :: u148 :: u149 :: u150 :: u151 :: u152 :: u153 :: u154 :: u155 :: u156 :: u157 :: u158 :: u159 :: u160 :: u161 :: u162 :: u163 :: u164 :: u165 :: u166 :: u167 :: u168 :: u169 :: u170 :: u171 :: u172 :: u173 :: u174 :: u175 :: u176 :: u177 :: u178 :: u179 :: u180 :: u181 :: u182 :: u183 :: u184 :: u185 :: u186 :: u187 :: u188 :: u189 :: u190 :: []).toArray,ds⟩ W:=by
 have HE:=hd_ hexit
 have HR:=hd_ hret
 clear hexit hret
 obtain ⟨gi,hgi,hgz0,hgz1,hgz2⟩:=info_parts Ztb
 conv=>arg 2;whnf
 go_loopw [64] (fun i wr=>∃ (k:Nat) (t:Ti) (gs:List Gr) (vs:Value),k≤ks.length+ws.length∧i=↑k∧L1 ks set ws g0 W base bt gp k wr t gs vs) (fun i _=>ks.length+ws.length - (intOf i).toNat)
 case atStart=>exact ⟨0,Zhp,[g0],vs0,om_,rfl,h0⟩
 case round =>
  clear h0
  obtain ⟨k,t,gs,vs,hk,rfl,h⟩:=hrel
  obtain ⟨ho,hsz,hfold,b8,b10,hown,hti,hpos,hlen⟩:=h
  have e3:=ho.blk b3 l1 (by simpa using d1)
  have e6:wr.cell? ⟨v,6,none⟩=some (.slice ka ks.length kc):=(ho.cell (a:=⟨v,6,none⟩) l2 (by simpa using d2)).trans v6
  have eo:=ho.blk bo l3 (by simpa using d3)
  have ek:=ho.blk bk l4 (by simpa using d4)
  have r3:=e3.cell
  have hbw:base≤wr.heap.size:=by have:=b10.lt;omega
  by_cases hlt:k < ks.length+ws.length
  ·have hlti:(k:Int) < (ks.length:Int)+(ws.length:Int):=by omega
   have hlti2:(k:Int) < ((ks.length+ws.length:Nat):Int):=by omega
   obtain ⟨x,hx⟩:∃ x,(ks ++ ws)[k]? = some x:=⟨(ks ++ ws)[k]'(by simp;omega),List.getElem?_eq_getElem _⟩
   have hcx:=(ek.cell k).trans (hKA k x hx)
   have hxo:=hok x (List.mem_of_getElem? hx)
   have hbz:=bit_u64z set k hset
   have q1:=Zbg t
   have q2:=Zda t
   have HG:=hd_ b_gties
   have HPT:=hd_ Zwv
   by_cases hskip:k < ks.length∧hasB set k=false
   ·obtain ⟨hs1,hb⟩:=hskip
    have hfold2:=Zrp ks set ws k hs1 hb
    have hbz2:(bits .and .u64 ((set:Int) / 2 ^ k) 1 == 0)=true:=by rw [hbz,hb];rfl
    rw [← hfold2] at hfold
    clear hbz hb hfold2 hx HG HPT q1 q2
    go_wp2_with fail
    refine ⟨⟨k+1,t,gs,vs,om_,by go_num,⟨ho,hsz,hfold,b8,b10,hown,hti,hpos,om_⟩⟩,by simp [intOf];omega⟩
   ·have hb:k < ks.length→hasB set k=true:=fun h=>by simpa using fun e=>hskip ⟨h,e⟩
    have hfold2:=Zo4 ks set ws k x hx hb
    have hks:=Zt9 (Zhb ks set ws k) g0 x
    rw [← hfold2,hfold] at hks
    have HKS:=hd_ hks
    clear hks hfold2 hskip hfold hx
    have hsel:(k < ks.length∧(bits .and .u64 ((set:Int) / 2 ^ k) 1 == 0)=false)∨ks.length≤k:=by
     by_cases h:k < ks.length
     ·exact .inl ⟨h,by rw [hbz,hb h];rfl⟩
     ·exact .inr om_
    clear hbz hb
    cases x with
    | g vo lo hi =>
     have hcx':wr.cell? ⟨kb,k,none⟩=some (.iface 234 (.agg #[.int .u64 vo,lo,hi])):=hcx
     clear hcx
     have hm : ∀ w, (method 551 234 (.agg #[.int .u64 vo, ↑lo, ↑hi]) "shearworks/bean.ties").run prog w = .ok (356, .agg #[.int .u64 vo, ↑lo, ↑hi]) w := fun _ => by kernel_rfl
     have hta:∀ w,(Instr.typeAssert (.iface 234 (.agg #[.int .u64 vo,lo,hi])) 154 234 true).run prog w=.ok (.tuple #[.agg #[.int .u64 vo,lo,hi],.bool true]) w:=fun _=>by kernel_rfl
     rcases hsel with ⟨hs1,hs2⟩|hs1
     all_goals go_wp2_with (first
      | (go_at_call 356;refine (HG.out _ _ _ _ _).mono ?_;rintro e w1 ⟨rfl,hb1⟩)
      | (refine Za0 240 (.tmp 8) Zb3 rfl rfl rfl b8 q1 ?_)
      | (refine Za1 240 (.tmp 8) (.tmp 87) Zb3 rfl rfl rfl rfl (b8.below hb1 b8.lt) q1 q1 q2 ?_;intro w2 h2;have b10':=h2.other (b10.below hb1 b10.lt) om_;have c10:=b10'.cell;have hlt10:=b10'.lt;have hown2:GOwn w2 base vs gs:=(hown.of_heap (fun g h1 h2'=>hb1.block g h2')).of_heap (fun g h1 h2'=>h2.heap g om_))
      | (at_builtin;refine Za2 ?_))
     all_goals (unfold Stop)
     all_goals (refine wpList_append_own _ rfl (.tmp 98) (.tmp 100) 242 rfl base 234 gi (.agg #[.int .u64 0,(),()]) 3 24 underlying242 hgi hgz0 hgz1 hgz2 rfl de_ vs gs.length (Zeh gs) rfl ((World.ownsRow.alloc hown2 _).alloc _) ⟨w2.heap.size+1,0,none⟩ 1 1 [.int .u64 vo,↑lo,↑hi] rfl rfl (Zmr (A:=#[.int .u64 vo,lo,hi]) (Blk.new' _ _ _ _ sp_)) (by simp [Value.oneCell']) (by unfold maxLen;omega) om_ ar_ ?_)
     all_goals (intro v5 w5 hown5 hgrow5 _)
     all_goals (have hown5':GOwn w5 base v5 (gs ++ [(vo,lo,hi)]):=by (unfold GOwn;rw [List.length_append,Zqk];exact hown5))
     all_goals (obtain ⟨gb5,gc5,rfl,hgb5,-⟩:=hown5'.at sp_)
     all_goals (have b10w5:Blk w5 gp #[vs] 242:=(hgrow5.block gp ar_ (fun e=>absurd ((hown2.row e.symm).2 _ _ b10') de_)).trans ((b10'.alloc _).alloc _))
     all_goals (have c10w:=b10w5.cell)
     all_goals (have f10w:=b10w5.free)
     all_goals go_wp2_with fail
     all_goals (have hO2:Off [bt] base W w2:=(ho.trans (Off.of_below hb1 om_)).rowed h2 (.inl sp_))
     all_goals (have hO5:Off [bt] base W w5:=(((hO2.alloc om_ _).alloc ar_ _).grown hgrow5 ar_ (fun g hg=>.inr (hown2.row hg).1)))
     all_goals (have hsz2:W.heap.size≤w2.heap.size:=by have:=hb1.size;have:=h2.size;omega)
     all_goals (have hsz5:=hgrow5.size)
     all_goals (have b8w5:Blk w5 bt (Zaj t) 240:=(hgrow5.block bt ar_ (fun e=>by have:=(hown2.row e.symm).1;omega)).trans ((h2.blk.alloc _).alloc _))
     all_goals refine ⟨⟨k+1,t,gs ++ [(vo,lo,hi)],.slice gb5 (gs ++ [(vo,lo,hi)]).length gc5,om_,by go_num,⟨hO5.setCell (.inr lb) _,by simp at hsz5 ⊢;omega,HKS.out,b8w5.other (by show bt≠gp;omega) _,?_,hown5'.setCell b10w5 de_ 0 _,hti,sp_,by simp;omega⟩⟩,by simp [intOf];omega⟩
     all_goals (rw [List.length_append];exact b10w5.set 0 _)
    | p A B sm =>
     obtain ⟨hA,hB⟩:=hxo
     have hcx':wr.cell? ⟨kb,k,none⟩=some (.iface 236 (.agg #[.int .u64 0,(),(),A,B,.bool sm])):=hcx
     clear hcx
     have hm : ∀ w, (method 551 236 (.agg #[.int .u64 0, ↑(), ↑(), ↑A, ↑B, .bool sm]) "shearworks/bean.ties").run prog w = .ok (357, .agg #[.int .u64 0, ↑(), ↑(), ↑A, ↑B, .bool sm]) w := fun _ => by kernel_rfl
     have hta:∀ w,(Instr.typeAssert (.iface 236 (.agg #[.int .u64 0,(),(),A,B,.bool sm])) 154 234 true).run prog w=.ok (.tuple #[.agg #[.int .u64 0,(),()],.bool false]) w:=fun _=>by kernel_rfl
     have q3:=Zbg (Zcw t A B sm)
     have q4:=Zda (Zcw t A B sm)
     have hP0:=Zwv t A B hA hB hti sm
     have hti2:=hti.tied hA hB sm
     cases hto:Zef t A B sm
     ·rw [hto] at hP0
      have HP:=hd_ hP0
      have hks:Zgw (Zhb ks set ws (k+1)) g0=none:=by rw [HKS.out];simp [Zfx,hto]
      have HN:Hid (Zgw (sel ks set ws) g0=none):=by
       obtain ⟨M,hM⟩:=Zkp ks set ws (ks.length+ws.length - (k+1)) (k+1) om_
       show _=_
       rw [hM];exact Zta _ _ _ hks
      clear hks hP0 hto HPT HKS
      generalize Zaj (Zcw t A B sm)=T2 at *
      have o1:(Zay fun _=>0).size=9:=rfl
      have o2:(Zay fun _=>0).all (·.oneCell')=true:=by simp [Zay,Value.oneCell']
      generalize hOC:(Zay fun _=>0)=OC at *
      have HOC:=hd_ hOC
      clear hOC
      have hob:ob≠bt:=d3
      rcases hsel with ⟨hs1,hs2⟩|hs1
      all_goals go_wp2_with (first
       | (go_at_call 357;refine (HP.out _).mono ?_;rintro e w1 ⟨rfl,hb1⟩)
       | (refine Za0 240 (.tmp 8) Zb3 rfl rfl rfl b8 q1 ?_)
       | (refine Za1 240 (.tmp 8) (.tmp 87) Zb3 rfl rfl rfl rfl (b8.below hb1 b8.lt) q1 q3 q4 ?_;intro w2 h2;have eo2:=h2.other (eo.below hb1 eo.lt) hob)
       | (refine Za0 142 (.tmp 6) Zan rfl rfl rfl eo2 o1 ?_)
       | (refine Za1 142 (.tmp 6) (.tmp 91) Zan rfl rfl rfl rfl eo2 o1 o1 o2 ?_;intro w3 h3))
      all_goals go_frame
      all_goals (have hO3:Off [bt,ob] base W w3:=((((ho.trans (Off.of_below hb1 hbw)).rowed h2 (.inl sp_)).mono nl_ (by simp;intro x _ e;exact .inl e)).rowed h3 (.inl sp_)))
      all_goals (have hs3:W.heap.size≤w3.heap.size:=by have:=hb1.size;have:=h2.size;have:=h3.size;omega)
      all_goals (have hb3:=h3.blk)
      all_goals (refine HR.out _ _ _ _ _ _ _ _ _ _ _ _ _ _ _ _ _ _ _ _ _ _ _ _ _ _ _ _ _ _ _ _ _ _ _ _ _ _ _ _ _ _ _ _ w3 hO3 hs3 hb3 HN.out)
     ·rw [hto] at hP0
      have HP:=hd_ hP0
      have hks:Zgw (Zhb ks set ws (k+1)) g0=some (Zcw t A B sm,gs):=by rw [HKS.out];simp [Zfx,hto]
      have HK2:=hd_ hks
      clear hks hP0 hto HPT HKS
      generalize Zcw t A B sm=t2 at *
      rcases hsel with ⟨hs1,hs2⟩|hs1
      all_goals go_wp2_with (first
       | (go_at_call 357;refine (HP.out _).mono ?_;rintro e w1 ⟨rfl,hb1⟩)
       | (refine Za0 240 (.tmp 8) Zb3 rfl rfl rfl b8 q1 ?_)
       | (refine Za1 240 (.tmp 8) (.tmp 87) Zb3 rfl rfl rfl rfl (b8.below hb1 b8.lt) q1 q3 q4 ?_;intro w2 h2))
      all_goals (have hown2:GOwn w2 base vs gs:=(hown.of_heap (fun g h1 h2'=>hb1.block g h2')).of_heap (fun g h1 h2'=>h2.heap g om_))
      all_goals (have hO2:Off [bt] base W w2:=(ho.trans (Off.of_below hb1 hbw)).rowed h2 (.inl sp_))
      all_goals (have hsz2:W.heap.size≤w2.heap.size:=by have:=hb1.size;have:=h2.size;omega)
      all_goals (have hb2:base≤w2.heap.size:=by have:=hb1.size;have:=h2.size;omega)
      all_goals (have b10w:=h2.other (b10.below hb1 b10.lt) om_)
      all_goals refine ⟨⟨k+1,t2,gs,vs,om_,by go_num,⟨hO2.alloc hb2 _,by simp;omega,HK2.out,h2.blk.alloc _,b10w.alloc _,World.ownsRow.alloc hown2 _,hti2,hpos,om_⟩⟩,by simp [intOf];omega⟩
  ·have hkl:k=ks.length+ws.length:=by omega
   subst hkl
   go_wp2_with fail
   exact HE.out _ _ _ _ _ _ _ _ _ _ _ _ _ _ _ _ _ _ _ _ _ _ _ _ _ _ _ _ _ _ _ _ _ _ _ _ _ _ _ _ _ _ _ _ wr t gs vs ⟨ho,hsz,hfold,b8,b10,hown,hti,hpos,om_⟩
def Zmq (Q:Exit→Act→World→Prop):Exit→Act→World→Prop
 | .panic _,_,_=>False
 | e,a,w=>Q e a w
theorem Zd0 {P:Program}{c:Code}{Q:Exit→Act→World→Prop}{a:Act}{w:World}(h:c.wp P (Zmq Q) a w):c.wp P Q a w :=
 wp_mono h fun e a w q=>by cases e <;> first|exact q|exact q.elim
theorem Zm0:(prog.info? 154).map (fun i=>(i.zero,i.size,i.bytes))=some (some .nilIface,1,16):=by kernel_rfl
theorem Zmt (k:Kn):(knV k).oneCell'=true:=by cases k <;> rfl
theorem _root_.Q23 {p:Prop}(h:p:=by
 rcases hk with rfl|rfl <;> rcases (show V=0∨V=1∨V=2∨V=3∨V=4∨V=5∨V=6∨V=7∨V=8 by omega) with rfl|rfl|rfl|rfl|rfl|rfl|rfl|rfl|rfl <;> kernel_rfl):p:=h
theorem run_shl {k:IntKind}(hk:k=.u64∨k=.i64) (V:Nat) (h:V≤8) (t:TypeId) (w:World):(Go.binOp .shl t (.int k 1) ↑V).run prog w=.ok (.int k ((2 ^ V:Nat):Int)) w:=Q23
theorem run_sub1 {k:IntKind}(hk:k=.u64∨k=.i64) (V:Nat) (h:V≤8) (t:TypeId) (w:World):(Go.binOp .sub t (.int k ((2 ^ V:Nat):Int)) (.int k 1)).run prog w=.ok (.int k ((2 ^ V - 1:Nat):Int)) w:=Q23
theorem y_shl {k:IntKind}(hk:k=.u64∨k=.i64) (V:Nat) (h:V≤8) {d:Option Tmp}{t t' ty:TypeId}{pos:String}{af:Array Edge}{g:Option (Nat × Bool)}{x y:Operand}{a:Act}(hx:a.eval x=.int k 1) (hy:a.eval y=↑V) (W:World) :
  Zxq prog ⟨d,.binOp .shl t x y t',ty,pos,af,g⟩ a W (.int k ((2 ^ V:Nat):Int)):=by
 have h2:=run_shl hk V h t W
 generalize ((2 ^ V:Nat):Int)=P2 at *
 unfold Zxq
 simp [execOp,eqGuard,hx,hy,h2,Result.andThen,Zxr]
theorem y_sub1 {k:IntKind}(hk:k=.u64∨k=.i64) (V:Nat) (h:V≤8) {d:Option Tmp}{t t' ty:TypeId}{pos:String}{af:Array Edge}{g:Option (Nat × Bool)}{x y:Operand}{a:Act}(hx:a.eval x=.int k ((2 ^ V:Nat):Int)) (hy:a.eval y=.int k 1) (W:World) :
  Zxq prog ⟨d,.binOp .sub t x y t',ty,pos,af,g⟩ a W (.int k ((2 ^ V - 1:Nat):Int)):=by
 have h2:=run_sub1 hk V h t W
 generalize ((2 ^ V:Nat):Int)=P2 at *
 generalize ((2 ^ V - 1:Nat):Int)=P3 at *
 unfold Zxq
 simp [execOp,eqGuard,hx,hy,h2,Result.andThen,Zxr]
theorem kn_src {w w':World}{ka:Option Addr}{ks:List Kn}(h:KnAt w ka ks) (hb:w w'):∀ ad,ka=some ad→∀ (j:Nat) (u:Value),(ks.map knV)[j]? = some u→w'.cell? (ad.add j)=some u:=by
 intro ad ha j u hu
 rw [List.getElem?_map] at hu
 cases hj:ks[j]? with
 | none=>simp [hj] at hu
 | some x =>
  simp only [hj,Option.map_some,Option.some.injEq] at hu
  have hjl:=(List.getElem?_eq_some_iff.1 hj).1
  obtain ⟨kb,ko,hka,hc⟩:=h j hjl
  have hx:=(List.getElem?_eq_some_iff.1 hj).2
  rw [hx,hu] at hc
  rw [ha] at hka
  obtain rfl:=Option.some.inj hka
  have:(⟨kb,ko,none⟩:Addr).add j=⟨kb,ko+j,none⟩:=by simp [Addr.add]
  rw [this]
  exact (hb.cell (bl_ w _ hc)).trans hc
theorem own_blk {w:World}{base g k:Nat}{e:TypeId}{xs:List Value}(h:w.ownsRow base e 1 (.slice g k k) k xs):Blk w g xs.toArray e:=by
 obtain ⟨hl,⟨h0,-⟩ | ⟨g',cap,cur,hv,hg,hh,hn,hc,hs,ht⟩⟩:=h
 ·cases h0
 ·simp only [Value.slice.injEq,Option.some.injEq,Addr.mk.injEq] at hv
  obtain ⟨⟨rfl,-,-⟩,-,rfl⟩:=hv
  have:cur=xs.toArray:=by
   apply Array.toList_inj.1
   rw [← ht,List.take_of_length_le (by simp [hs])]
  rw [← this];exact hh
def isG:Kn→Bool
 | .g _ _ _=>true
 | .p _ _ _=>false
def grOf:Kn→Option Gr
 | .g vo lo hi=>some (vo,lo,hi)
 | .p _ _ _=>none
theorem Zqg (L:List Kn):L.foldl Zfx none=none:=by
 induction L with
 | nil=>rfl
 | cons x L ih=>exact ih
theorem Zmv:∀ (L:List Kn) (t t':Ti) (gs gs':List Gr),L.foldl Zfx (some (t,gs))=some (t',gs')→gs'=gs ++ L.filterMap grOf
 | [],t,t',gs,gs',h=>by
  simp only [List.foldl_nil,Option.some.injEq,Prod.mk.injEq] at h
  rw [← h.2];simp
 | x :: L,t,t',gs,gs',h=>by
  rw [List.foldl_cons] at h
  cases x with
  | g vo lo hi =>
   simp only [Zfx] at h
   rw [Zmv L _ _ _ _ h,List.filterMap_cons]
   simp [grOf]
  | p A B sm =>
   simp only [Zfx] at h
   split at h
   ·rw [Zmv L _ _ _ _ h,List.filterMap_cons]
    rfl
   ·rw [Zqg] at h;cases h
theorem Ztc (L:List Kn):(L.filterMap grOf).length=L.countP isG:=by
 induction L with
 | nil=>rfl
 | cons x L ih=>cases x <;> simp [List.filterMap_cons,List.countP_cons,grOf,isG,ih]
theorem Zqh (g0:Gr) (L:List Kn) (t:Ti) (gs:List Gr) (h:Zgw L g0=some (t,gs)):gs[0]? = some g0∧gs.length=1+L.countP isG∧∀ g∈gs,g=g0∨Kn.g g.1 g.2.1 g.2.2∈L:=by
 have hg:=Zmv L _ _ _ _ h
 subst hg
 refine ⟨rfl,?_,fun g hg=>?_⟩
 ·rw [List.length_append,Ztc];rfl
 ·simp only [List.cons_append,List.nil_append,List.mem_cons,List.mem_filterMap] at hg
  rcases hg with rfl | ⟨x,hx,he⟩
  ·exact .inl rfl
  ·cases x with
   | g vo lo hi=>simp only [grOf,Option.some.injEq] at he;subst he;exact .inr hx
   | p A B sm=>cases he
theorem Zpx (ks:List Kn) (set k:Nat):(Ze5 ks set k).countP isG≤(ks.take k).countP isG:=by
 induction k with
 | zero=>simp [Ze5]
 | succ k ih =>
  by_cases h:k < ks.length
  ·rw [Zd3 ks set k h,List.take_succ_eq_append_getElem h,List.countP_append,List.countP_append]
   split
   ·omega
   ·simp;omega
  ·have:Ze5 ks set (k+1)=Ze5 ks set k:=by
    unfold Ze5
    rw [List.range_succ,List.flatMap_append]
    simp [h]
   rw [this,List.take_of_length_le om_]
   rw [List.take_of_length_le om_] at ih
   exact ih
theorem sel_mem {ks:List Kn}{set:Nat}{ws:List Kn}{x:Kn}(h:x∈sel ks set ws):x∈ks ++ ws:=by
 unfold sel at h
 rcases List.mem_append.1 h with h|h
 ·unfold Ze5 at h
  rw [List.mem_flatMap] at h
  obtain ⟨i,-,hi⟩:=h
  cases hk:ks[i]? with
  | none=>simp [hk] at hi
  | some y =>
   simp only [hk] at hi
   split at hi
   ·simp only [List.mem_singleton] at hi;subst hi
    exact List.mem_append_left _ (List.mem_of_getElem? hk)
   ·cases hi
 ·exact List.mem_append_right _ h
def x0:SL:=[0,0,0,0,0,0,0]
theorem rep_x0:Rep (putM [] x0 1) [x0]:=by
 have:=Rep.nil.add (y:=x0) ⟨rfl,by simp [x0]⟩ 1
 simpa [getM] using this
theorem post_ret {P:Program}{fn:Func}{v:Value}{a:Act}{w:World}{R:Ending→World→Prop}(hd:a.defers=[]) (h:(results fn a.tmps).run P w=.ok v w) (hr:R (.returned v) w):Exit.noGoto (Zmq (bodyPostM Fence.wide 0 P fn R)) .ret a w:=by
 show LeavesInM _ _ _ _ _ _ a.defers _ _
 rw [hd]
 exact ⟨v,h,hr⟩
theorem Zuq {P:Program}{fn:Func}{v:Value}{a:Act}{w:World}{R:Ending→World→Prop}{base:Nat}(hm:Marks base a.defers w)
  (h:∀ w' Ds,(∀ D∈Ds,base≤D∧w.heap[D]? = some (.deferred (some [])))→Off Ds w.heap.size w w'→(results fn a.tmps).run P w'=.ok v w'∧R (.returned v) w'):Exit.noGoto (Zmq (bodyPostM Fence.wide 0 P fn R)) .ret a w:=by
 show LeavesInM _ _ _ _ _ _ a.defers _ _
 obtain ⟨Ds,h1,h2,h3⟩:=hm
 rw [h1]
 refine Zib (base:=base) Ds w h2 h3 fun w' hw'=>?_
 have:=h w' Ds h3 hw'
 exact ⟨v,this.1,this.2⟩
theorem b_counts (v:Nat) (b:Bn) (V:Nat) (hV:b.V=(V:Int)) (hV8:V≤8) (hlo:0≤b.lo) (hhi:b.hi≤8) (ga:Option Addr) (gc:Nat) (pa:Option Addr) (pc:Nat) (ka:Option Addr) (kc:Nat) (ks ws:List Kn) (set:Nat) (wa:Option Addr) (wcap:Nat) (w:World)
  (hv:VoteAt w v b ga gc pa pc ka ks.length kc) (hk:KnAt w ka ks) (hw:KnAt w wa ws) (hkl:ks.length≤8) (hwl:ws.length≤2) (hset:set < 2 ^ 62) (hok:∀ x∈ks ++ ws,knOk x) (hwc:wa=none→wcap=0) (hgn:ks.countP isG≤4) :
  Calls prog 92 #[.pointer (some ⟨v,0,none⟩),.int .u64 set,.slice wa ws.length wcap] w (Zal (cv (Za6 V b.lo b.hi (sel ks set ws))) w):=by
 refine callsIn_wide.1 (callsIn_of_wp_marks (F:=Fence.wide) (n:=0) func92 rfl trivial (wpIn_wide.2 ?_) rfl)
 simp only [ntmps92,List.size_toArray,List.length_cons,List.length_nil,Nat.reduceAdd,Nat.reduceSub,Array.replicate_succ,
   Array.replicate_zero,List.push_toArray,List.append_toArray,List.nil_append,List.cons_append]
 obtain ⟨h0,h1,h2,h3,h4,h5,h6⟩:=hv
 rw [hV] at h0
 generalize hblo:b.lo=lo at *
 generalize hbhi:b.hi=hi at *
 clear hV
 obtain ⟨i0,hi0,hz0,hz1,hz2⟩:=info_parts Zm0
 go_wp2_with fail
 refine Zd0 ?_
 refine wp_scope_straight ?_
 go_wp2_with fail
 obtain ⟨W1,hW1⟩:∃ W1,W1=(w.alloc (.cells #[.pointer (some ⟨v,0,none⟩)] 143)).alloc (.cells #[(),(),(),(),(),(),(),(),()] 142):=⟨_,rfl⟩
 rw [← hW1]
 generalize hn:w.heap.size=n at *
 have hvn:v < n:=by rw [← hn];exact bl_ w _ h0
 have b3:Blk W1 n #[.pointer (some ⟨v,0,none⟩)] 143:=by rw [hW1];exact (Blk.new' _ _ _ _ hn).alloc _
 have b6:Blk W1 (n+1) #[(),(),(),(),(),(),(),(),()] 142:=by rw [hW1];exact Blk.new' _ _ _ _ (by simp [hn])
 have hB1:Below n w W1:=by rw [hW1];exact bel_
 have hs1:W1.heap.size=n+2:=by rw [hW1];simp [hn]
 clear hW1
 have k3:=b3.cell
 have hi2:i0.bytes * (ks.length+ws.length)≤281474976710656:=by rw [hz2];omega
 have hml:ks.length+ws.length≤maxLen:=by unfold maxLen;omega
 have g6:W1.cell? ⟨v,6,none⟩=some (.slice ka ks.length kc):=(hB1.cell hvn).trans h6
 go_cut [7] from 25 to 38 (fun p wx=>p=.slice ↑(n+2) ks.length (ks.length+ws.length)∧Below (n+2) W1 wx∧wx.heap.size=n+3 ∧
  Blk wx (n+2) (Array.replicate (ks.length+ws.length) .nilIface) 154)
 case first =>
  refine Ord.wp_region [(0,0),(1,0),(2,0),(3,0),(4,0),(5,0),(6,0),(7,0),(8,0),(9,0),(10,0),(11,0),(12,0),(13,2),(14,0)] (fun _=>True) kr_ kr_ (fun c a d v w h=>by cases d <;> exact h) trivial ?_
  go_wp2_with (first
   | ((with_reducible refine Zxf ?_);refine Zxj rfl rfl (fun K hK=>?_))|with_reducible refine Zxg rfl rfl (fun K hK=>?_)|((with_reducible refine Zxd ?_);first|refine Zxk rfl rfl (fun W=>by simp [go_sem];rfl) (fun K hK=>?_)|refine Zxl rfl rfl (fun K hK=>?_)|refine Zxm rfl rfl (fun K hK=>?_))|with_reducible refine Zxh rfl (by first|(simp;done)|assumption|(go_simp;done)|exact bel_) (fun K hK=>?_)|with_reducible refine Zxn ?_ ?_|with_reducible refine Zxi ?_|(with_reducible refine Zxe (by first|(simp;done)|(go_simp;done)|exact bel_) (fun _=>?_))
   | (refine Zc6 rfl (.tmp 29) (.tmp 37) 230 rfl 154 i0 .nilIface underlying230 hi0 hz0 hz1 rfl .i64 .i64 _ _ ks.length (ks.length+ws.length) rfl rfl rfl rfl ?_ hi2 hml ?_;(focus omega)))
  go_meet
  refine ⟨rfl,by exact bel_,by simp [hs1],?_⟩
  exact Blk.new' _ _ _ _ hs1
 case rest =>
  obtain ⟨rfl,hB2,hs2,b7⟩:=hcut
  replace b3:=b3.below hB2 om_
  replace b6:=b6.below hB2 om_
  have k3':=b3.cell
  have g6':wc.cell? ⟨v,6,none⟩=some (.slice ka ks.length kc):=(hB2.cell (by show v < n+2;omega)).trans g6
  have hBw:Below n w wc:=hB1.trans (hB2.mono om_)
  clear k3 g6 hB1 hs1
  have hsrc:0 < (ks.map knV).length→(some ⟨n+2,0,none⟩:Option Addr)=some ⟨n+2,0,none⟩∧∃ ad,ka=some ad∧∀ j u,(ks.map knV)[j]? = some u→wc.cell? (ad.add j)=some u:=by
   intro hp
   obtain ⟨kb,ko,hka,-⟩:=hk 0 (by simpa using hp)
   refine ⟨rfl,⟨kb,ko,none⟩,hka,fun j u hu=>?_⟩
   rw [List.getElem?_map] at hu
   cases hj:ks[j]? with
   | none=>simp [hj] at hu
   | some x =>
    simp only [hj,Option.map_some,Option.some.injEq] at hu
    have hjl:=(List.getElem?_eq_some_iff.1 hj).1
    obtain ⟨kb2,ko2,hka2,hc⟩:=hk j hjl
    rw [hka] at hka2
    simp only [Option.some.injEq,Addr.mk.injEq] at hka2
    obtain ⟨rfl,rfl,-⟩:=hka2
    have hx:=(List.getElem?_eq_some_iff.1 hj).2
    rw [hx,hu] at hc
    have:(⟨kb,ko,none⟩:Addr).add j=⟨kb,ko+j,none⟩:=by simp [Addr.add]
    rw [this]
    exact (hBw.cell (by show kb < n;rw [← hn];exact bl_ w _ hc)).trans hc
  have q1:(prog.info? 154).map (·.size)=some 1:=by rw [hi0];simp [hz1]
  have q2:wc.heap[n+2]? = some (.cells (List.replicate (ks.length+ws.length) Value.nilIface).toArray 154 (0,0)):=by
   have:(List.replicate (ks.length+ws.length) Value.nilIface).toArray=Array.replicate (ks.length+ws.length) .nilIface:=by simp
   rw [this];exact b7
  have q3:(ks.map knV).length=Nat.min ks.length ks.length:=by simp [Nat.min_def]
  have q4:0+(ks.map knV).length≤(List.replicate (ks.length+ws.length) Value.nilIface).length:=by simp
  have q6:(List.replicate (ks.length+ws.length) Value.nilIface).length=ks.length+ws.length:=by simp
  have q5:∀ u∈ks.map knV,u.oneCell'=true:=by
   intro u hu
   obtain ⟨x,-,rfl⟩:=List.mem_map.1 hu
   exact Zmt x
  obtain ⟨KV,hKV⟩:∃ KV,KV=ks.map knV:=⟨_,rfl⟩
  rw [← hKV] at hsrc q3 q4 q5
  have HKV:=hd_ hKV
  clear hKV
  generalize List.replicate (ks.length+ws.length) Value.nilIface=NL at *
  have HF:=hd_ b_free
  go_wp2_with (first
   | (go_at_call 191;refine (HF.out _).mono ?_;rintro e w8 ⟨rfl,hb8⟩;obtain ⟨c8,f8,z8⟩:=after hb8 rfl)
   | (refine Za1 240 (.tmp 8) (.tmp 45) Zb3 rfl rfl rfl rfl (Blk.new _ _ _) rfl (Zbg _) (Zda _) ?_;intro w9 h9)
   | (refine wpList_copy_splice rfl (.tmp 39) (.tmp 43) 230 230 rfl 154 underlying230 q1 _ _ _ _ _ _ rfl rfl (n+2) 0 NL 154 q2 KV q3 hsrc q4 q5 (n+2) wc br_ nl_ ?_;intro w4 h4 hB4))
  obtain ⟨m,hm⟩:∃ m,w8.heap.size=m:=⟨_,rfl⟩
  have hs4:n+3≤w4.heap.size:=by have:=hB4.size;omega
  have z8':n+3≤m:=by omega
  rw [hm] at h9
  have b3w:Blk w9 n #[.pointer (some ⟨v,0,none⟩)] 143:=h9.other (((b3.below hB4 om_).below hb8 om_).alloc _) om_
  have b6w:=h9.other (((b6.below hB4 om_).below hb8 om_).alloc _) (show n+1≠m by omega)
  have b7w:Blk w9 (n+2) (splice NL 0 KV).toArray 154:=h9.other (((show Blk w4 (n+2) (splice NL 0 KV).toArray 154 from h4.out).below hb8 om_).alloc _) om_
  have b8w:=h9.blk
  have hBw9:Below n w w9:=h9.below ((hBw.trans (hB4.mono om_)).trans (hb8.mono om_) |>.alloc om_ _) om_
  have hs9:w9.heap.size=m+1:=by rw [h9.size];simp [hm]
  have v0:w9.cell? ⟨v,0,none⟩=some (.int .i64 V):=(hBw9.cell hvn).trans h0
  have v2:w9.cell? ⟨v,2,none⟩=some (.int .i64 lo):=(hBw9.cell hvn).trans h2
  have v3:w9.cell? ⟨v,3,none⟩=some (.int .i64 hi):=(hBw9.cell hvn).trans h3
  have v6:w9.cell? ⟨v,6,none⟩=some (.slice ka ks.length kc):=(hBw9.cell hvn).trans h6
  have k3w:=b3w.cell
  clear h9 c8 f8 z8 hb8 hB4 h4 b3 b6 b7 k3' g6' q2 hs4
  go_cut [10] from 46 to 59 (fun p wx=>∃ gb gp:Nat,p=.pointer gp∧m+1≤gb∧m+1≤gp∧gb≠gp∧wx.heap.size=m+3∧Below (m+1) w9 wx ∧
   Blk wx gb #[.int .u64 (2 ^ V - 1:Nat),lo,hi] 234∧Blk wx gp #[.slice gb 1 1] 242)
  case first =>
   refine Ord.wp_fork [(0,1),(1,1),(2,1),(3,1),(4,1),(5,1),(6,1),(7,1),(8,1),(9,1),(10,1),(11,1),(12,1)] 13 [(14,2),(15,2)] 14 [(13,2),(15,2)] (fun W=>Below (m+1) w9 W) kr_ kr_ (fun c a d v w h=>by cases d <;> exact h) br_.drew ?_
   go_wp2_with (first
    | ((with_reducible refine Zxf ?_);refine Zxj rfl rfl (fun K hK=>?_))|with_reducible refine Zxg rfl rfl (fun K hK=>?_)|((with_reducible refine Zxd ?_);first|refine Zxk rfl rfl (fun W=>by simp [go_sem];rfl) (fun K hK=>?_)|refine Zxl rfl rfl (fun K hK=>?_)|refine Zxm rfl rfl (fun K hK=>?_))|with_reducible refine Zxh rfl (by first|(simp;done)|assumption|(go_simp;done)|exact bel_) (fun K hK=>?_)|with_reducible refine Zxn ?_ ?_|with_reducible refine Zxi ?_|(with_reducible refine Zxe (by first|(simp;done)|(go_simp;done)|exact bel_) (fun _=>?_))
    | ((with_reducible refine Zxd ?_);first|(refine Zxp (ad:=⟨n,0,none⟩) (.pointer (some ⟨v,0,none⟩)) rfl rfl ?_ ?_;(focus (intro W hW;obtain ⟨cW,_,zW⟩:=Zba hW rfl;simp [go_sem,cW,↓IntWalk.iteOmega,k3w];done));intro K hK)|(refine Zxp (ad:=⟨v,0,none⟩) ↑V rfl rfl ?_ ?_;(focus (intro W hW;obtain ⟨cW,_,zW⟩:=Zba hW rfl;simp [go_sem,cW,↓IntWalk.iteOmega,v0];done));intro K hK)|(refine Zxp (ad:=⟨v,2,none⟩) (.agg #[lo,hi]) rfl rfl ?_ ?_;(focus (intro W hW;obtain ⟨cW,_,zW⟩:=Zba hW rfl;simp [go_sem,cW,↓IntWalk.iteOmega,v2,v3];done));intro K hK)|(refine Ord.wild_bin (.int .u64 (2 ^ V:Nat)) rfl ?_ ?_;(focus (intro W hW;exact y_shl (.inl rfl) V hV8 rfl rfl W));intro K hK)|(refine Ord.wild_bin (.int .u64 (2 ^ V - 1:Nat)) rfl ?_ ?_;(focus (intro W hW;exact y_sub1 (.inl rfl) V hV8 rfl rfl W));intro K hK))
    | ((with_reducible refine Zxd ?_);refine Ord.wild_build (.agg #[.int .u64 (2 ^ V - 1:Nat),lo,hi]) rfl ?_ ?_;(focus (intro W hW;simp [go_sem];done));intro K hK))
   all_goals go_meet
   all_goals (first
    | exact ⟨m+1,m+1+1,rfl,om_,om_,om_,by simp [hs9],by exact bel_,((Blk.new' _ _ _ _ hs9).alloc _).drew,(Blk.new' _ _ _ _ (by simp [hs9])).drew⟩
    | exact ⟨m+1+1,m+1,rfl,om_,om_,om_,by simp [hs9],by exact bel_,(Blk.new' _ _ _ _ (by simp [hs9])).drew,((Blk.new' _ _ _ _ hs9).alloc _).drew⟩)
  case rest =>
   obtain ⟨gb,gp,rfl,hgb,hgp,hgne,hsA,hBA,ca,cb⟩:=hcut
   replace b3w:=b3w.below hBA om_
   replace b6w:=b6w.below hBA om_
   replace b7w:=b7w.below hBA om_
   replace b8w:=b8w.below hBA om_
   have hBnA:Below n w wc:=hBw9.trans (hBA.mono om_)
   have u0:wc.cell? ⟨v,0,none⟩=some (.int .i64 V):=(hBnA.cell hvn).trans h0
   have u6:wc.cell? ⟨v,6,none⟩=some (.slice ka ks.length kc):=(hBnA.cell hvn).trans h6
   clear v0 v2 v3 v6 k3w hBw9 hBw h0 h1 h2 h3 h4 h5 h6 hsrc
   have hspl:(splice NL 0 KV).length=ks.length+ws.length:=by rw [length_splice NL 0 KV q4,q6]
   have hspt:(splice NL 0 KV).take ks.length=KV:=by
    have h3:KV.length=ks.length:=by rw [q3];simp [Nat.min_def]
    unfold splice;rw [List.take_zero,List.nil_append,← h3,List.take_left]
   have hownK:wc.ownsRow (n+2) 154 1 (.slice ↑(n+2) ks.length (ks.length+ws.length)) ks.length KV:=by
    have:=Zt1 b7w nl_ (k:=ks.length) (m:=ks.length+ws.length) (by simp [hspl]) om_ hml
    simpa [hspt] using this
   have hnone:wa=none→ws.length=0∧wcap=0:=by
    intro h
    refine ⟨?_,hwc h⟩
    rcases Nat.eq_zero_or_pos ws.length with h'|h'
    ·exact h'
    ·obtain ⟨_,_,h2,-⟩:=hw 0 h'
     rw [h] at h2;cases h2
   have hnews:=kn_src hw (hn ▸ hBnA)
   have hones:∀ u∈ws.map knV,u.oneCell'=true:=by
    intro u hu
    obtain ⟨x,-,rfl⟩:=List.mem_map.1 hu
    exact Zmt x
   have HNW:=hd_ hnews
   have HON:=hd_ hones
   clear hnews hones
   generalize hWV:ws.map knV=WV at *
   have hWVl:WV.length=ws.length * 1:=by rw [← hWV];simp
   have HWV:=hd_ hWV
   clear hWV
   go_wp2_with (first
    | (at_builtin;refine wpList_append_fits_any _ rfl (.tmp 60) (.tmp 61) 230 rfl (n+2) 154 i0 1 underlying230 hi0 hz1 (n+2) ks.length (ks.length+ws.length) KV rfl hownK wa ws.length wcap WV rfl hWVl hnone HNW.out HON.out nl_ ?_;refine Za2 ?_))
   unfold Stop
   intro w5 hown5 hgrow5
   go_wp2_with fail
   have hg0:GOwn w5 (m+1) (.slice gb 1 1) [((2 ^ V - 1:Nat),lo,hi)] :=
    ⟨rfl,.inr ⟨gb,1,_,rfl,hgb,(hgrow5.block gb (by rw [hsA];have:=ca.lt;omega) (fun e=>by simp at e;omega)).trans ca,Nat.le_refl _,by unfold maxLen;omega,rfl,rfl⟩⟩
   have hO5:Off [n+2] wc.heap.size wc w5:=(Off.refl _ _ _).grown hgrow5 nl_ (fun g hg=>.inl (by simp at hg;simp [hg]))
   have b3x:=hO5.blk b3w b3w.lt sp_
   have b6x:=hO5.blk b6w b6w.lt sp_
   have b8x:=hO5.blk b8w b8w.lt (by simp;omega)
   have cbx:=hO5.blk cb cb.lt (by simp;omega)
   have u0x:w5.cell? ⟨v,0,none⟩=some (.int .i64 V):=(hO5.cell (a:=⟨v,0,none⟩) (by show v < _;omega) (by simp;omega)).trans u0
   have u6x:w5.cell? ⟨v,6,none⟩=some (.slice ka ks.length kc):=(hO5.cell (a:=⟨v,6,none⟩) (by show v < _;omega) (by simp;omega)).trans u6
   have bkx:=own_blk hown5
   have hBn5:Below n w w5:=hBnA.trans (hO5.below om_ sp_)
   have hKA:∀ (i:Nat) (x:Kn),(ks ++ ws)[i]? = some x→(KV ++ WV).toArray[i]? = some (knV x):=by
    intro i x hx
    rw [HKV.out,← HWV.out,← List.map_append,List.getElem?_toArray,List.getElem?_map,hx];rfl
   have hs5:wc.heap.size≤w5.heap.size:=hgrow5.size
   refine Zwb _ w5 (m+1) v n m gp (n+1) (n+2) ka kc (ks.length+ws.length) ks ws set (2 ^ V - 1,lo,hi) (KV ++ WV).toArray (.slice gb 1 1) hkl hwl hset hok b3x u6x b6x bkx hKA om_ om_ om_ om_ om_ hgp om_ om_ om_ om_
    ⟨Off.refl _ _ _,Nat.le_refl _,rfl,b8x,cbx,hg0,TiOk.free,sp_,sp_⟩ ?_ ?_
   ·intro x9 x11 x12 x13 x14 x64 x65 x66 x67 x68 x69 x70 x71 x72 x73 x74 x75 x76 x77 x78 x79 x80 x81 x82 x83 x84 x85 x86 x87 x88 x89 x90 x91 x92 x93 x94 x95 x96 x97 x98 x99 x100 x101 x102 w6 t gs vs h1
    have hfold:=h1.fold
    rw [Zo5] at hfold
    obtain ⟨hgs0,hgl,hgm⟩:=Zqh _ _ _ _ hfold
    have hgl7:gs.length≤7:=by
     have:=Zpx ks set ks.length
     rw [List.take_length] at this
     have h2:(sel ks set ws).countP isG≤ks.countP isG+ws.length:=by
      unfold sel;rw [List.countP_append]
      have:=List.countP_le_length (p:=isG) (l:=ws)
      omega
     omega
    have hvo:∀ g∈gs,g.1 < 2 ^ 62:=by
     intro g hg
     rcases hgm g hg with rfl|h
     ·show 2 ^ V - 1 < 2 ^ 62
      have:=Nat.pow_le_pow_right (show 0 < 2 by omega) (show V≤62 by omega)
      omega
     ·have:=hok _ (sel_mem h)
      simp only [knOk] at this
      omega
    have hcN:Hid (∀ S,S.Perm (Zav gs t V V)→Za6 V lo hi (sel ks set ws)=outN gs S):=by
     intro S hS
     funext j
     unfold Za6
     rw [hfold]
     exact (Zod hS j).symm
    clear hgm hfold hgl
    obtain ⟨gb2,gc2,rfl,hgb2,bg2⟩:=h1.own.at h1.pos
    have hO6:=h1.off
    have b3y:=hO6.blk b3x om_ (by simp;omega)
    have b6y:=hO6.blk b6x om_ (by simp;omega)
    have u0y:w6.cell? ⟨v,0,none⟩=some (.int .i64 V):=(hO6.cell (a:=⟨v,0,none⟩) (by show v < _;omega) (by simp;omega)).trans u0x
    have b8y:=h1.b8
    have b10y:=h1.b10
    have hBn6:Below n w w6:=hBn5.trans (hO6.below om_ (by simp;omega))
    have hpos:=h1.pos
    have hm6:m+1≤w6.heap.size:=by have:=b10y.lt;omega
    clear h1
    have hmm:=@run_makeMap prog
    go_wp2_with (first
     | (refine Zd6 (.tmp 103) (.tmp 104) (.const (.int .i64 1)) rfl (.inr rfl) rfl (k:=x0) rfl (v:=1) rfl (MapIs.new _) MapOk.nil ⟨rfl,by simp [x0]⟩ ?_;intro w7 ht7 hm7;have HT7:=hd_ ht7;clear ht7;refine Za2 ?_))
    unfold Stop
    have hO7:Off [] w6.heap.size w6 w7:=((Off.refl _ _ _).alloc nl_ _).turn HT7.out (.inr nl_)
    have hs7:w7.heap.size=w6.heap.size+1:=by rw [HT7.out.size];simp
    have b3z:=hO7.blk b3y b3y.lt sp_
    have b6z:=hO7.blk b6y b6y.lt sp_
    have u0z:w7.cell? ⟨v,0,none⟩=some (.int .i64 V):=(hO7.cell (a:=⟨v,0,none⟩) (bl_ w6 _ u0y) sp_).trans u0y
    have b8z:=hO7.blk b8y b8y.lt sp_
    have b10z:=hO7.blk b10y b10y.lt sp_
    have bg2z:=bg2.off hO7 (by
     obtain ⟨b,o,h0,h1,-⟩:=bg2 0 hpos
     simp only [Option.some.injEq,Addr.mk.injEq] at h0
     obtain ⟨rfl,-,-⟩:=h0
     exact bl_ w6 _ h1) sp_
    have hBn7:Below n w w7:=hBn6.trans (hO7.below om_ sp_)
    have c3z:=b3z.cell
    have HS7:=hd_ hs7
    clear hs7
    go_wp2_with fail
    refine wp_label ?_
    go_wp2_with fail
    refine Zwa _ ?_ w7 (m+1) v n V m gp gb2 gc2 w6.heap.size t gs (putM [] x0 1) hV8 hgl7 hvo ⟨b3z,u0z,b8z,b10z,bg2z,hpos⟩ hm7 rep_x0 (by simp [putM,x0]) (by simp [putM]) (Marks.nil _ _) (by have:=HS7.out;omega) ?_
    ·exact fun c a w h=>h
    intro ds' y16 y17 y18 y19 y111 y112 y113 y114 y115 y116 y117 y118 y119 y120 y121 y122 y123 y124 y125 y126 y127 y128 y166 y167 w8 sm' l hmk hO8 hm8 hl8 hll8 hsm
    have hsm8:=hm8.lt
    have hs78:=hO8.size
    go_wp2_with (first
     | (refine Zel (.tmp 168) rfl rfl rfl hm8 ?_;intro w9x hw9 hit9 hm9;have HW9:=hd_ hw9;clear hw9;refine Za2 ?_))
    unfold Stop
    have hO9:Off [] w8.heap.size w8 w9x:=by rw [HW9.out];exact (Off.refl _ _ _).alloc nl_ _
    have b6a:=hO9.blk (hO8.blk b6z b6z.lt sp_) (by have:=b6z.lt;omega) sp_
    have b10a:=hO9.blk (hO8.blk b10z b10z.lt sp_) (by have:=b10z.lt;omega) sp_
    have hgb2z:gb2 < w7.heap.size:=by
     obtain ⟨b,o,h0,h1,-⟩:=bg2z 0 hpos
     simp only [Option.some.injEq,Addr.mk.injEq] at h0
     obtain ⟨rfl,-,-⟩:=h0
     exact bl_ w7 _ h1
    have bg2a:=(bg2z.off hO8 hgb2z sp_).off hO9 om_ sp_
    have hmk9:=hmk.off hO9 sp_
    have hBn9:Below n w w9x:=(hBn7.trans (hO8.below om_ sp_)).trans (hO9.below om_ sp_)
    go_wp2_with fail
    refine Zw7 _ ?_ w9x (n+1) gp gb2 gc2 w8.heap.size sm' gs l (Zav gs t V V) hgl7 ⟨_,hgs0,hlo,hhi⟩ b10a bg2a om_ om_ hl8 (Nat.le_trans (Zer gs t V V) (by have:=Nat.pow_le_pow_right (show 0 < 2 by omega) hV8;simpa using this)) hll8
     ⟨Off.refl _ _ _,hit9,List.nodup_nil,sp_,hm9,b6a⟩ ?_
    ·exact fun c a w h=>h
    intro z23 z24 z170 z171 z172 z173 z174 z175 z176 z177 z178 z179 z180 z181 z182 z183 z184 z185 z186 z187 z188 z189 wE ho10 hbo10
    have o1:(Zay (outN gs (Zav gs t V V))).size=9:=rfl
    have o2:(Zay (outN gs (Zav gs t V V))).all (·.oneCell')=true:=by simp [Zay,Value.oneCell']
    have hmkE:Marks (m+1) ds' wE:=hmk9.off ho10 (by
     intro k hk x
     simp at hk
     rcases hk with rfl|rfl
     ·rw [show w9x.heap[n+1]? = _ from b6a];simp
     ·exact hit9.noD x)
    have hBnE:Below n w wE:=hBn9.trans (ho10.below (by have:=hBn9.size;omega) (by simp;omega))
    clear hit9 hm9 hm8
    generalize hOC:Zay (outN gs (Zav gs t V V))=OC at *
    have HOC:=hd_ hOC
    clear hOC
    go_wp2_with (first
     | (refine Za0 142 (.tmp 6) Zan rfl rfl rfl hbo10 o1 ?_)
     | (refine Za1 142 (.tmp 6) (.tmp 190) Zan rfl rfl rfl rfl hbo10 o1 o1 o2 ?_;intro wF hF))
    go_frame
    have hmF:Marks (m+1) ds' wF:=hmkE.off (T:=[n+1]) ((Off.refl _ _ _).rowed hF (.inl sp_)) (by
     intro k hk x
     simp at hk;subst hk
     rw [show wE.heap[n+1]? = _ from hbo10];simp)
    have hBnF:Below n w wF:=hF.below hBnE om_
    refine Zuq hmF fun w' Ds hDs hO=>⟨Za5 (p:=6) rfl _ Zan rfl (hO.blk hF.blk hF.blk.lt (fun e=>by have:=(hDs _ e).1;omega)) o1,by rw [hcN.out _ (List.Perm.refl _),← HOC.out];rfl,?_⟩
    rw [hn]
    exact hBnF.trans (hO.below (by have:=hBnF.size;omega) (fun D hD=>by have:=(hDs D hD).1;omega))
   ·intro x9 x11 x12 x13 x14 x64 x65 x66 x67 x68 x69 x70 x71 x72 x73 x74 x75 x76 x77 x78 x79 x80 x81 x82 x83 x84 x85 x86 x87 x88 x89 x90 x91 x92 x93 x94 x95 x96 x97 x98 x99 x100 x101 x102 w6 ho6 hs6 hbo6 hkf
    have hcN:Za6 V lo hi (sel ks set ws)=fun _=>0:=by funext j;unfold Za6;rw [hkf]
    have hBn6:Below n w w6:=hBn5.trans (ho6.below om_ (by simp;omega))
    go_wp2_with fail
    rw [hcN]
    exact post_ret rfl (Za5 (p:=6) rfl _ Zan rfl hbo6 rfl) ⟨rfl,by rw [hn];exact hBn6⟩
end Go.Proofs.YtbapgefodmmikaaGreatDoor
