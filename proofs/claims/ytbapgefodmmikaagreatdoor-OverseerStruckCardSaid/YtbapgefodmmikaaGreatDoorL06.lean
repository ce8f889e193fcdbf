/- Parts of a proof. -/
import Derived.Test.YtbapgefodmmikaaGreatDoorLMin
import Derived.Test.YtbapgefodmmikaaGreatDoorL05
import Derived.WalkSpells
import Derived.Laws.AppendOwnNone
import Derived.Test.YtbapgefodmmikaaGreatDoorL05
set_option linter.unusedVariables false
set_option linter.unusedSimpArgs false
set_option maxHeartbeats 40000000
set_option maxRecDepth 100000
namespace Go.Proofs.YtbapgefodmmikaaGreatDoor
open Go.RowKit Go.Proofs Go.Ord Tryz
attribute [local irreducible] Ord.walk
structure GEnv (W:World) (v nb bt gp gb gc V:Nat) (t:Ti) (gs:List Gr):Prop where
 b3:Blk W nb #[.pointer v] 143
 vV:W.cell? ⟨v,0,none⟩=some (.int .i64 V)
 b8:Blk W bt (Zaj t) 240
 b10:Blk W gp #[.slice gb gs.length gc] 242
 bg:GrAt W gb gs
 hg1:0 < gs.length
theorem GEnv.off {W W':World}{T:List Nat}{v nb bt gp gb gc V:Nat}{t:Ti}{gs:List Gr}(h:GEnv W v nb bt gp gb gc V t gs) (ho:Off T W.heap.size W W') (hT:∀ k∈T,NoC W k):GEnv W' v nb bt gp gb gc V t gs:=by
 have hblk:∀ {b:Nat}{A:Array Value}{u:TypeId},Blk W b A u→b ∉ T:=fun hb e=>(hT _ e).blk hb rfl
 have hcel:∀ {a:Addr}{x:Value},W.cell? a=some x→a.block ∉ T:=fun hc e=>(hT _ e).cell hc rfl
 obtain ⟨b,o,h0,h1,-⟩:=h.bg 0 h.hg1
 simp only [Option.some.injEq,Addr.mk.injEq] at h0
 obtain ⟨rfl,-,-⟩:=h0
 exact ⟨ho.blk h.b3 h.b3.lt (hblk h.b3),(ho.cell (bl_ W _ h.vV) (hcel h.vV)).trans h.vV,ho.blk h.b8 h.b8.lt (hblk h.b8),ho.blk h.b10 h.b10.lt (hblk h.b10),
  h.bg.off ho (bl_ W _ h1) (hcel h1),h.hg1⟩
theorem GEnv.renv {W:World}{v nb bt gp gb gc V:Nat}{t:Ti}{gs:List Gr}(h:GEnv W v nb bt gp gb gc V t gs) {fb first:Nat}(hb:Blk W fb #[first] 3):REnv W v nb bt gp gb gc fb V first t gs:=⟨h.b3,h.vV,h.b8,h.b10,h.bg,h.hg1,hb⟩
theorem Zev (gs:List Gr) (t:Ti) (V k:Nat):(Zaz gs t V k).length≤2 ^ k:=by
 induction k with
 | zero=>simp [Zaz]
 | succ k ih =>
  rw [Zaz,Nat.pow_succ]
  split
  ·have:=Zni (fun x=>[Zai gs t V k false x,Zai gs t V k true x]) 2 (Zaz gs t V k) (fun q _=>sp_)
   omega
  ·omega
theorem Zx6 {u0 u1 u2 u4 u5 u6 u7 u9 u11 u12 u13 u14 u16 u17 u18 u19 u20 u21 u22 u23 u24 u25 u26 u27 u28 u29 u30 u31 u32 u33 u34 u35 u36 u37 u38 u39 u40 u41 u42 u43 u44 u45 u46 u47 u48 u49 u50 u51 u52 u53 u54 u55 u56 u57 u58 u59 u60 u61 u62 u63 u64 u65 u66 u67 u68 u69 u70 u71 u72 u73 u74 u75 u76 u77 u78 u79 u80 u81 u82 u83 u84 u85 u86 u87 u88 u89 u90 u91 u92 u93 u94 u95 u96 u97 u98 u99 u100 u101 u102 u103 u104 u105 u106 u107 u108 u109 u112 u113 u114 u115 u116 u117 u118 u119 u120 u121 u122 u123 u124 u125 u126 u127 u128 u129 u130 u131 u132 u133 u134 u135 u136 u137 u138 u139 u140 u141 u142 u143 u144 u145 u146 u147 u148 u149 u150 u151 u152 u153 u154 u155 u156 u157 u158 u159 u160 u161 u162 u163 u164 u165 u166 u167 u168 u169 u170 u171 u172 u173 u174 u175 u176 u177 u178 u179 u180 u181 u182 u183 u184 u185 u186 u187 u188 u189 u190:Value}{ds:List Deferred}(Q:Exit→Act→World→Prop) (hP:∀ c a w,¬ Q (.panic c) a w) (W:World) (base v nb V bt gp gb gc sm:Nat) (t:Ti) (gs:List Gr) (l0:List (SL × Nat))
  (hV:V≤8) (hgl:gs.length≤7) (hvo:∀ g∈gs,g.1 < 2 ^ 62)
  (env:GEnv W v nb bt gp gb gc V t gs) (hm:MapIs W sm l0) (hl0:Rep l0 (Zaz gs t V 0)) (hk0:∀ p∈l0,∀ i∈p.1,i≤0) (hll0:l0.length≤1) (hmk:Marks base ds W) (hbase:base≤W.heap.size)
  (hexit:∀ ds' (x16 x17 x18 x19 x111 x112 x113 x114 x115 x116 x117 x118 x119 x120 x121 x122 x123 x124 x125 x126 x127 x128 x166 x167:Value) W' sm' l,Marks base ds' W'→Off [] W.heap.size W W'→MapIs W' sm' l→Rep l (Zaz gs t V V)→l.length≤256→sm≤sm' →
   Q (.exit 2) ⟨(u0 :: u1 :: u2 :: .pointer nb :: u4 :: u5 :: u6 :: u7 :: .pointer bt :: u9 :: .pointer gp :: u11 :: u12 :: u13 :: u14 :: .map (some sm') :: x16 :: x17 :: x18 :: x19 :: u20 :: u21 :: u22 :: u23 :: u24 :: u25 :: u26 :: u27 :: u28 :: u29 :: u30 :: u31 :: u32 :: u33 :: u34 :: u35 :: u36 :: u37 :: u38 :: u39 :: u40 :: u41 :: u42 :: u43 :: u44 :: u45 :: u46 :: u47 :: u48 :: u49 :: u50 :: u51 :: u52 :: u53 :: u54 :: u55 :: u56 :: u57 :: u58 :: u59 :: u60 :: u61 :: u62 :: u63 :: u64 :: u65 :: u66 :: u67 :: u68 :: u69 :: u70 :: u71 :: u72 :: u73 :: u74 :: u75 :: u76 :: u77 :: u78 :: u79 :: u80 :: u81 :: u82 :: u83 :: u84 :: u85 :: u86 :: u87 :: u88 :: u89 :: u90 :: u91 :: u92 :: u93 :: u94 :: u95 :: u96 :: u97 :: u98 :: u99 :: u100 :: u101 :: u102 :: u103 :: u104 :: u105 :: u106 :: u107 :: u108 :: u109 :: ↑V :: x111 :: x112 :: x113 :: x114 :: x115 :: x116 :: x117 :: x118 :: x119 :: x120 :: x121 :: x122 :: x123 :: x124 :: x125 :: x126 :: x127 :: x128 :: u129 :: u130 :: u131 :: u132 :: u133 :: u134 :: u135 :: u136 :: u137 :: u138 :: u139 :: u140 :: u141 :: u142 :: u143 :: u144 :: u145 :: u146 :: u147 :: u148 :: u149 :: u150 :: u151 :: u152 :: u153 :: u154 :: u155 :: u156 :: u157 :: u158 :: u159 :: u160 :: u161 :: u162 :: u163 :: u164 :: u165 :: x166 :: x167 :: u168 :: u169 :: u170 :: u171 :: u172 :: u173 :: u174 :: u175 :: u176 :: u177 :: u178 :: u179 :: u180 :: u181 :: u182 :: u183 :: u184 :: u185 :: u186 :: u187 :: u188 :: u189 :: u190 :: []).toArray,ds'⟩ W') :
  cB.wp prog Q ⟨(u0 :: u1 :: u2 :: .pointer nb :: u4 :: u5 :: u6 :: u7 :: .pointer bt :: u9 :: .pointer gp :: u11 :: u12 :: u13 :: u14 :: .map (some sm) :: u16 :: u17 :: u18 :: u19 :: u20 :: u21 :: u22 :: u23 :: u24 :: u25 :: u26 :: u27 :: u28 :: u29 :: u30 :: u31 :: u32 :: u33 :: u34 :: u35 :: u36 :: u37 :: u38 :: u39 :: u40 :: u41 :: u42 :: u43 :: u44 :: u45 :: u46 :: u47 :: u48 :: u49 :: u50 :: u51 :: u52 :: u53 :: u54 :: u55 :: u56 :: u57 :: u58 :: u59 :: u60 :: u61 :: u62 :: u63 :: u64 :: u65 :: u66 :: u67 :: u68 :: u69 :: u70 :: u71 :: u72 :: u73 :: u74 :: u75 :: u76 :: u77 :: u78 :: u79 :: u80 :: u81 :: u82 :: u83 :: u84 :: u85 :: u86 :: u87 :: u88 :: u89 :: u90 :: u91 :: u92 :: u93 :: u94 :: u95 :: u96 :: u97 :: u98 :: u99 :: u100 :: u101 :: u102 :: u103 :: u104 :: u105 :: u106 :: u107 :: u108 :: u109 :: ↑V :: ↑() :: u112 :: u113 :: u114 :: u115 :: u116 :: u117 :: u118 :: u119 :: u120 :: u121 :: u122 :: u123 :: u124 :: u125 :: u126 :: u127 :: u128 :: u129 :: u130 :: u131 :: u132 :: u133 :: u134 :: u135 :: u136 :: u137 :: u138 :: u139 :: u140 :: u141 :: u142 :: u143 :: u144 :: u145 :: u146 :: u147 :: u148 :: u149 :: u150 :: u151 :: u152 :: u153 :: u154 :: u155 :: u156 :: u157 :: u158 :: u159 :: u160 :: u161 :: u162 :: u163 :: u164 :: u165 :: u166 :: u167 :: u168 :: u169 :: u170 :: u171 :: u172 :: u173 :: u174 :: u175 :: u176 :: u177 :: u178 :: u179 :: u180 :: u181 :: u182 :: u183 :: u184 :: u185 :: u186 :: u187 :: u188 :: u189 :: u190 :: []).toArray,ds⟩ W:=by
 have hcode:cB=.loop (sI cB):=rfl
 rw [hcode]
 have HE:=hd_ hexit
 clear hexit
 refine wp_loop (fun a w=>∃ (x15 x16 x17 x18 x19 x111 x112 x113 x114 x115 x116 x117 x118 x119 x120 x121 x122 x123 x124 x125 x126 x127 x128 x166 x167:Value) (ds':List Deferred) (k sm':Nat) (l:List (SL × Nat)),
  ((k≤V∧x111=↑k∧x15=.map (some sm')∧sm≤sm')∧Marks base ds' w∧Off [] W.heap.size W w∧MapIs w sm' l∧Rep l (Zaz gs t V k)∧(∀ p∈l,∀ i∈p.1,i≤8 * k)∧l.length≤2 ^ k) ∧
  a=⟨(u0 :: u1 :: u2 :: .pointer nb :: u4 :: u5 :: u6 :: u7 :: .pointer bt :: u9 :: .pointer gp :: u11 :: u12 :: u13 :: u14 :: x15 :: x16 :: x17 :: x18 :: x19 :: u20 :: u21 :: u22 :: u23 :: u24 :: u25 :: u26 :: u27 :: u28 :: u29 :: u30 :: u31 :: u32 :: u33 :: u34 :: u35 :: u36 :: u37 :: u38 :: u39 :: u40 :: u41 :: u42 :: u43 :: u44 :: u45 :: u46 :: u47 :: u48 :: u49 :: u50 :: u51 :: u52 :: u53 :: u54 :: u55 :: u56 :: u57 :: u58 :: u59 :: u60 :: u61 :: u62 :: u63 :: u64 :: u65 :: u66 :: u67 :: u68 :: u69 :: u70 :: u71 :: u72 :: u73 :: u74 :: u75 :: u76 :: u77 :: u78 :: u79 :: u80 :: u81 :: u82 :: u83 :: u84 :: u85 :: u86 :: u87 :: u88 :: u89 :: u90 :: u91 :: u92 :: u93 :: u94 :: u95 :: u96 :: u97 :: u98 :: u99 :: u100 :: u101 :: u102 :: u103 :: u104 :: u105 :: u106 :: u107 :: u108 :: u109 :: ↑V :: x111 :: x112 :: x113 :: x114 :: x115 :: x116 :: x117 :: x118 :: x119 :: x120 :: x121 :: x122 :: x123 :: x124 :: x125 :: x126 :: x127 :: x128 :: u129 :: u130 :: u131 :: u132 :: u133 :: u134 :: u135 :: u136 :: u137 :: u138 :: u139 :: u140 :: u141 :: u142 :: u143 :: u144 :: u145 :: u146 :: u147 :: u148 :: u149 :: u150 :: u151 :: u152 :: u153 :: u154 :: u155 :: u156 :: u157 :: u158 :: u159 :: u160 :: u161 :: u162 :: u163 :: u164 :: u165 :: x166 :: x167 :: u168 :: u169 :: u170 :: u171 :: u172 :: u173 :: u174 :: u175 :: u176 :: u177 :: u178 :: u179 :: u180 :: u181 :: u182 :: u183 :: u184 :: u185 :: u186 :: u187 :: u188 :: u189 :: u190 :: []).toArray,ds'⟩) (fun a _=>V - (intOf (a.tmps.getD 111 undef)).toNat)
  ⟨_,u16,u17,u18,u19,_,u112,u113,u114,u115,u116,u117,u118,u119,u120,u121,u122,u123,u124,u125,u126,u127,u128,u166,u167,ds,0,sm,l0,⟨⟨om_,rfl,rfl,Nat.le_refl _⟩,hmk,Off.refl _ _ _,hm,hl0,by simpa using hk0,by simpa using hll0⟩,rfl⟩ ?_
 rintro a w ⟨x15,x16,x17,x18,x19,x111,x112,x113,x114,x115,x116,x117,x118,x119,x120,x121,x122,x123,x124,x125,x126,x127,x128,x166,x167,ds',k,sm',l,⟨⟨hk,rfl,rfl,hsmle⟩,hmk,ho,hm,hl,hkb,hll⟩,rfl⟩
 have env:=env.off ho sp_
 have hos:=ho.size
 have hmlt:=hm.lt
 have hp2:2 ^ k≤256:=by have:=Nat.pow_le_pow_right (show 0 < 2 by omega) (show k≤8 by omega);simpa using this
 have hSl:(Zaz gs t V k).length≤256:=Nat.le_trans (Zev gs t V k) hp2
 conv=>arg 2;whnf
 by_cases hlt:k < V
 ·have hlti:(k:Int) < V:=by omega
  have hk8:(k:Int) < 8:=by omega
  have hc1:=Zdc t k om_
  have hix:=Zhx t k om_
  have HST:Hid (Zaz gs t V (k+1)=if (t k).1=k then (Zaz gs t V k).flatMap fun x=>[Zai gs t V k false x,Zai gs t V k true x] else Zaz gs t V k):=rfl
  have r8:=env.b8.cell
  generalize Zaj t=TC at hc1 hix r8
  go_wp2_with fail
  obtain ⟨w3,hw3⟩:∃ w3,w3=w.alloc (.cells #[k] 3):=⟨_,rfl⟩
  have b16:Blk w3 w.heap.size #[k] 3:=by rw [hw3];exact Blk.new _ _ _
  have ho3:Off [] w.heap.size w w3:=by rw [hw3];exact (Off.refl _ _ _).alloc nl_ _
  have hs3:w3.heap.size=w.heap.size+1:=by rw [hw3];simp
  rw [← hw3]
  clear hw3
  have env3:=env.off ho3 sp_
  have hm3:=ho3.map hm hmlt sp_
  have hmk3:=hmk.off ho3 sp_
  have c16:=b16.cell
  have c8:∀ o,w3.cell? ⟨bt,o,none⟩=w.cell? ⟨bt,o,none⟩:=fun o=>ho3.cell (a:=⟨bt,o,none⟩) env.b8.lt sp_
  generalize hws:w.heap.size=fb at *
  have HWS:=hd_ hws
  have HS3:=hd_ hs3
  clear hws hs3
  by_cases hf:(t k).1=k
  ·have hfi:(((t k).1:Int) != (k:Int))=false:=by simp [hf]
   have hst:=HST.out
   rw [if_pos hf] at hst
   clear HST hf
   have HS:=hd_ hst
   clear hst
   refine Ord.wp_region [(0,0),(1,0),(2,0),(3,0),(4,0),(5,0)] (fun _=>True) kr_ kr_ (fun c a d v w h=>(hP _ _ _ h).elim) trivial ?_
   have hmm:=@run_makeMap prog
   go_wp2_with (first
    | (refine Zeq (.tmp 121) rfl rfl rfl ((hm3.alloc _).alloc _).drew ?_;intro w4 hw4 hit4 hm4;have HW4:=hd_ hw4;clear hw4)
    | (refine o_ ?_;intro K hK)|(with_reducible first|refine Zyo ?_ ?_|refine Zyj ?_|refine Zyf bn_ (fun _=>?_)))
   have hw4:=HW4.out
   have hs3:=HS3.out
   have hws:=HWS.out
   have e17:Blk w4 (w3.heap.size+1) #[.map (some w3.heap.size)] 249:=by rw [hw4];exact ((Blk.new' _ _ _ _ sp_).drew).alloc _
   have hmn4:MapIs w4 w3.heap.size []:=by rw [hw4];exact ((((MapIs.new w3).alloc _).drew).alloc _)
   have ho4:Off [] w3.heap.size w3 w4:=by rw [hw4];exact ((((Off.refl _ _ _).alloc nl_ _).alloc sp_ _).drew).alloc (by simp;omega) _
   have hs4:w4.heap.size=w3.heap.size+3:=by rw [hw4];simp
   have hr:((w3.alloc (.map #[] 0)).alloc (.cells #[.map (some w3.heap.size)] 249)).drew.heap.size=w3.heap.size+2:=by simp
   rw [hr] at hit4
   have env4:=(env3.off ho4 sp_).renv (ho4.blk b16 b16.lt sp_)
   have hmk4:=hmk3.off ho4 sp_
   have HS4:=hd_ hs4
   have HR:=hd_ hr
   have hml3:=hm3.lt
   clear hw4 HW4 hs3 hws hs4 hr
   go_wp2_with fail
   have hws:=HWS.out
   have hs3:=HS3.out
   have hs4:=HS4.out
   go_frame
   rw [HR.out]
   refine Zx5 _ w4 base v nb V bt gp gb gc fb (w3.heap.size+1) (w3.heap.size+2) sm' w3.heap.size k (8 * k) t gs l (Zaz gs t V k) hV hgl hvo om_ env4 e17 hl hSl om_ hkb om_
    ⟨hmk4,Off.refl _ _ _,hit4,List.nodup_nil,sp_,hm4,hmn4,Rep.nil,sp_,sp_⟩ om_ ?_
   intro ds5 y18 y19 y123 y124 y125 y126 y127 y128 w5 cur hmk5 ho5 hmn5 hl5 hkb5 hll5
   have c17:=(ho5.blk e17 om_ sp_).cell
   have HO5:Off [] W.heap.size W w5:=ho.trans ((ho3.mono om_ sp_).trans ((ho4.mono om_ sp_).trans (ho5.mono om_ (by simp;omega))))
   clear hs3 hs4 hws
   go_wp2_with fail
   refine ⟨⟨_,_,_,_,_,_,_,_,_,_,_,_,_,_,_,_,_,_,_,_,_,_,_,_,_,ds5,k+1,w3.heap.size,cur,⟨⟨om_,by go_num,rfl,by have:=HWS.out;have:=HS3.out;omega⟩,hmk5,HO5,hmn5,by rw [HS.out];exact hl5,fun p hp i hi=>by have:=hkb5 p hp i hi;omega,by rw [Nat.pow_succ];omega⟩,rfl⟩,by simp [intOf];omega⟩
  ·have hfi:(((t k).1:Int) != (k:Int))=true:=by simp;omega
   have hst:=HST.out
   rw [if_neg hf] at hst
   clear HST hf
   have HS:=hd_ hst
   clear hst
   refine Ord.wp_region [(0,0),(1,0),(2,0),(3,0),(4,0),(5,0)] (fun _=>True) kr_ kr_ (fun c a d v w h=>(hP _ _ _ h).elim) trivial ?_
   go_wp2_with (first|(refine o_ ?_;intro K hK)|(with_reducible first|refine Zyo ?_ ?_|refine Zyj ?_|refine Zyf bn_ (fun _=>?_)))
   refine ⟨⟨_,_,_,_,_,_,_,_,_,_,_,_,_,_,_,_,_,_,_,_,_,_,_,_,_,ds',k+1,sm',l,⟨⟨om_,by go_num,rfl,hsmle⟩,hmk3,(ho.trans (ho3.mono (by have:=HWS.out;omega) sp_)).drew,hm3.drew,by rw [HS.out];exact hl,fun p hp i hi=>by have:=hkb p hp i hi;omega,by rw [Nat.pow_succ];omega⟩,rfl⟩,by simp [intOf];omega⟩
 ·have hkl:k=V:=by omega
  subst hkl
  go_wp2_with fail
  exact HE.out _ _ _ _ _ _ _ _ _ _ _ _ _ _ _ _ _ _ _ _ _ _ _ _ _ _ _ _ hmk ho hm hl om_ hsmle
def Zb2 (c:Nat→Nat):Array Value:=#[(c 0),(c 1),(c 2),(c 3),(c 4),(c 5),(c 6),(c 7),(c 8)]
theorem Zw0 (c:Nat→Nat) (i:Nat) (h:i < 9):(Zb2 c)[i]? = some (.int .i64 (c i)):=Zpo c i h
theorem Ztt (c:Nat→Nat) (i n:Nat) (h:i < 9):(Zb2 c).setIfInBounds i ↑n=Zb2 (fun j=>if j=i then n else c j):=by
 rcases (show i=0∨i=1∨i=2∨i=3∨i=4∨i=5∨i=6∨i=7∨i=8 by omega) with rfl|rfl|rfl|rfl|rfl|rfl|rfl|rfl|rfl <;> simp [Zb2]
theorem Zr4 {x:SL}(h:x.length=7):(Zaq x)[0]? = some (.int .i64 (f7 x 0)):=by
 rw [← Zew x h];rfl
theorem outN_add (gs:List Gr) (S:List SL) (x:SL) (n j:Nat):outN gs (S ++ List.replicate n x) j=outN gs S j+if Ziv gs (f7 x)=true∧f7 x 0=j then n else 0:=by
 unfold outN
 rw [List.countP_append,List.countP_replicate]
 congr 1
 simp only [Bool.and_eq_true,beq_iff_eq]
theorem Zp0 {gs:List Gr}{S T:List SL}(h:S.Perm T) (j:Nat):outN gs S j=outN gs T j:=h.countP_eq _
theorem Zvx (gs:List Gr) (S:List SL) (j:Nat):outN gs S j≤S.length:=List.countP_le_length
def been (l:List (SL × Nat)) (seen:List Nat):List SL:=(seen.map fun i=>l.getD i ([],0)).flatMap fun p=>List.replicate p.2 p.1
theorem Zxn {l:List (SL × Nat)}{seen:List Nat}{i:Nat}{p:SL × Nat}(hp:l[i]? = some p):been l (seen ++ [i])=been l seen ++ List.replicate p.2 p.1:=by
 unfold been
 have:l.getD i ([],0)=p:=by rw [List.getD_eq_getElem?_getD,hp];rfl
 rw [List.map_append,List.flatMap_append,List.map_singleton,List.flatMap_singleton,this]
structure L5 (gs:List Gr) (W:World) (ob r sm:Nat) (l:List (SL × Nat)) (w:World) (seen:List Nat):Prop where
 off:Off [ob,r] W.heap.size W w
 it:IterIs w r sm l.length seen
 nd:seen.Nodup
 lt:∀ i∈seen,i < l.length
 src:MapIs w sm l
 out:Blk w ob (Zb2 (outN gs (been l seen))) 142
theorem been_len {l:List (SL × Nat)}{S:List SL}(hl:Rep l S) (hS:S.length≤256) (hll:l.length≤256) {seen:List Nat}(hn:seen.Nodup) (hlt:∀ i∈seen,i < l.length):(been l seen).length≤256 * 256:=by
 have h4:=Zni (fun p:SL × Nat=>List.replicate p.2 p.1) 256 (seen.map fun i=>l.getD i ([],0)) (fun q hq=>by
  obtain ⟨i,hi,rfl⟩:=List.mem_map.1 hq
  have hil:=hlt i hi
  have:l[i]? = some (l.getD i ([],0)):=by rw [List.getD_eq_getElem?_getD];simp [hil]
  have h6:=hl.val_le this
  rw [List.length_replicate];omega)
 rw [List.length_map] at h4
 have h2:=Zgx hn hlt
 have h5:seen.length * 256≤256 * 256:=Nat.mul_le_mul_right _ om_
 exact Nat.le_trans h4 h5
theorem L5.done {gs:List Gr}{W:World}{ob r sm:Nat}{l:List (SL × Nat)}{w:World}{seen:List Nat}{S:List SL}(h:L5 gs W ob r sm l w seen) (hl:Rep l S) (hall:∀ i,i < l.length→i∈seen):outN gs (been l seen)=outN gs S:=by
 funext j
 have h1:=(Zor l ([],0) seen h.nd h.lt hall).flatMap_right fun p:SL × Nat=>List.replicate p.2 p.1
 exact Zp0 (h1.trans hl.expand) j
theorem L5.step {gs:List Gr}{W:World}{ob r sm:Nat}{l:List (SL × Nat)}{w w':World}{seen:List Nat}{i:Nat}{p:SL × Nat}(h:L5 gs W ob r sm l w seen) (hp:l[i]? = some p) (hi:i ∉ seen)
  (ho:Off [ob,r] W.heap.size W w') (hit:IterIs w' r sm l.length (seen ++ [i])) (hs:MapIs w' sm l) (hb:Blk w' ob (Zb2 (fun j=>outN gs (been l seen) j+if Ziv gs (f7 p.1)=true∧f7 p.1 0=j then p.2 else 0)) 142):L5 gs W ob r sm l w' (seen ++ [i]):=by
 have hil:=(List.getElem?_eq_some_iff.1 hp).1
 refine ⟨ho,hit,?_,?_,hs,?_⟩
 ·exact Q2z
 ·intro j hj
  rcases List.mem_append.1 hj with hj|hj
  ·exact h.lt j hj
  ·simp at hj;omega
 ·have:(outN gs (been l (seen ++ [i])))=fun j=>outN gs (been l seen) j+if Ziv gs (f7 p.1)=true∧f7 p.1 0=j then p.2 else 0:=by
   funext j
   rw [Zxn hp,outN_add]
  rw [this];exact hb
theorem Zwx {gs:List Gr}{s:St}{g:Gr}(h:Ziv gs s=true) (h0:gs[0]? = some g):(s 0:Int)≤g.2.2:=by
 unfold Ziv Zf6 at h
 rw [List.all_eq_true] at h
 have hl:=(List.getElem?_eq_some_iff.1 h0).1
 have:=h 0 (List.mem_range.2 hl)
 simp only [h0] at this
 unfold inB at this
 simp at this
 exact this.2
theorem _root_.Q2p {p:Prop}(h:p:=by
 rcases Nat.eq_zero_or_pos gs.length with h|h
 ·rw [List.length_eq_zero_iff.1 h] at hg00;cases hg00
 ·exact h):p:=h
theorem Zx3 {u0 u1 u2 u3 u4 u5 u7 u8 u9 u11 u12 u13 u14 u15 u16 u17 u18 u19 u20 u21 u22 u23 u24 u25 u26 u27 u28 u29 u30 u31 u32 u33 u34 u35 u36 u37 u38 u39 u40 u41 u42 u43 u44 u45 u46 u47 u48 u49 u50 u51 u52 u53 u54 u55 u56 u57 u58 u59 u60 u61 u62 u63 u64 u65 u66 u67 u68 u69 u70 u71 u72 u73 u74 u75 u76 u77 u78 u79 u80 u81 u82 u83 u84 u85 u86 u87 u88 u89 u90 u91 u92 u93 u94 u95 u96 u97 u98 u99 u100 u101 u102 u103 u104 u105 u106 u107 u108 u109 u110 u111 u112 u113 u114 u115 u116 u117 u118 u119 u120 u121 u122 u123 u124 u125 u126 u127 u128 u129 u130 u131 u132 u133 u134 u135 u136 u137 u138 u139 u140 u141 u142 u143 u144 u145 u146 u147 u148 u149 u150 u151 u152 u153 u154 u155 u156 u157 u158 u159 u160 u161 u162 u163 u164 u165 u166 u167 u168 u170 u171 u172 u173 u174 u175 u176 u177 u178 u179 u180 u181 u182 u183 u184 u185 u186 u187 u188 u189 u190:Value}{ds:List Deferred}(Q:Exit→Act→World→Prop) (hP:∀ c a w,¬ Q (.panic c) a w) (W:World) (ob gp gb gc r sm:Nat) (gs:List Gr) (l:List (SL × Nat)) (S:List SL)
  (hgl:gs.length≤7) (hg0:∃ g,gs[0]? = some g∧0≤g.2.1∧g.2.2≤8)
  (b10:Blk W gp #[.slice gb gs.length gc] 242) (bg:GrAt W gb gs) (d1:gp≠ob) (d2:gb≠ob)
  (hl:Rep l S) (hS:S.length≤256) (hll:l.length≤256)
  (h0:L5 gs W ob r sm l W [])
  (hexit:∀ (x23 x24 x170 x171 x172 x173 x174 x175 x176 x177 x178 x179 x180 x181 x182 x183 x184 x185 x186 x187 x188 x189:Value) W',Off [ob,r] W.heap.size W W'→Blk W' ob (Zb2 (outN gs S)) 142 →
   Q (.exit 10) ⟨(u0 :: u1 :: u2 :: u3 :: u4 :: u5 :: .pointer ob :: u7 :: u8 :: u9 :: .pointer gp :: u11 :: u12 :: u13 :: u14 :: u15 :: u16 :: u17 :: u18 :: u19 :: u20 :: u21 :: u22 :: x23 :: x24 :: u25 :: u26 :: u27 :: u28 :: u29 :: u30 :: u31 :: u32 :: u33 :: u34 :: u35 :: u36 :: u37 :: u38 :: u39 :: u40 :: u41 :: u42 :: u43 :: u44 :: u45 :: u46 :: u47 :: u48 :: u49 :: u50 :: u51 :: u52 :: u53 :: u54 :: u55 :: u56 :: u57 :: u58 :: u59 :: u60 :: u61 :: u62 :: u63 :: u64 :: u65 :: u66 :: u67 :: u68 :: u69 :: u70 :: u71 :: u72 :: u73 :: u74 :: u75 :: u76 :: u77 :: u78 :: u79 :: u80 :: u81 :: u82 :: u83 :: u84 :: u85 :: u86 :: u87 :: u88 :: u89 :: u90 :: u91 :: u92 :: u93 :: u94 :: u95 :: u96 :: u97 :: u98 :: u99 :: u100 :: u101 :: u102 :: u103 :: u104 :: u105 :: u106 :: u107 :: u108 :: u109 :: u110 :: u111 :: u112 :: u113 :: u114 :: u115 :: u116 :: u117 :: u118 :: u119 :: u120 :: u121 :: u122 :: u123 :: u124 :: u125 :: u126 :: u127 :: u128 :: u129 :: u130 :: u131 :: u132 :: u133 :: u134 :: u135 :: u136 :: u137 :: u138 :: u139 :: u140 :: u141 :: u142 :: u143 :: u144 :: u145 :: u146 :: u147 :: u148 :: u149 :: u150 :: u151 :: u152 :: u153 :: u154 :: u155 :: u156 :: u157 :: u158 :: u159 :: u160 :: u161 :: u162 :: u163 :: u164 :: u165 :: u166 :: u167 :: u168 :: .pointer r :: x170 :: x171 :: x172 :: x173 :: x174 :: x175 :: x176 :: x177 :: x178 :: x179 :: x180 :: x181 :: x182 :: x183 :: x184 :: x185 :: x186 :: x187 :: x188 :: x189 :: u190 :: []).toArray,ds⟩ W') :
  cE.wp prog Q ⟨(u0 :: u1 :: u2 :: u3 :: u4 :: u5 :: .pointer ob :: u7 :: u8 :: u9 :: .pointer gp :: u11 :: u12 :: u13 :: u14 :: u15 :: u16 :: u17 :: u18 :: u19 :: u20 :: u21 :: u22 :: u23 :: u24 :: u25 :: u26 :: u27 :: u28 :: u29 :: u30 :: u31 :: u32 :: u33 :: u34 :: u35 :: u36 :: u37 :: u38 :: u39 :: u40 :: u41 :: u42 :: u43 :: u44 :: u45 :: u46 :: u47 :: u48 :: u49 :: u50 :: u51 :: u52 :: u53 :: u54 :: u55 :: u56 :: u57 :: u58 :: u59 :: u60 :: u61 :: u62 :: u63 :: u64 :: u65 :: u66 :: u67 :: u68 :: u69 :: u70 :: u71 :: u72 :: u73 :: u74 :: u75 :: u76 :: u77 :: u78 :: u79 :: u80 :: u81 :: u82 :: u83 :: u84 :: u85 :: u86 :: u87 :: u88 :: u89 :: u90 :: u91 :: u92 :: u93 :: u94 :: u95 :: u96 :: u97 :: u98 :: u99 :: u100 :: u101 :: u102 :: u103 :: u104 :: u105 :: u106 :: u107 :: u108 :: u109 :: u110 :: u111 :: u112 :: u113 :: u114 :: u115 :: u116 :: u117 :: u118 :: u119 :: u120 :: u121 :: u122 :: u123 :: u124 :: u125 :: u126 :: u127 :: u128 :: u129 :: u130 :: u131 :: u132 :: u133 :: u134 :: u135 :: u136 :: u137 :: u138 :: u139 :: u140 :: u141 :: u142 :: u143 :: u144 :: u145 :: u146 :: u147 :: u148 :: u149 :: u150 :: u151 :: u152 :: u153 :: u154 :: u155 :: u156 :: u157 :: u158 :: u159 :: u160 :: u161 :: u162 :: u163 :: u164 :: u165 :: u166 :: u167 :: u168 :: .pointer r :: u170 :: u171 :: u172 :: u173 :: u174 :: u175 :: u176 :: u177 :: u178 :: u179 :: u180 :: u181 :: u182 :: u183 :: u184 :: u185 :: u186 :: u187 :: u188 :: u189 :: u190 :: []).toArray,ds⟩ W:=by
 have HE:=hd_ hexit
 clear hexit
 obtain ⟨g0,hg00,hlo,hhi⟩:=hg0
 have hgb:gb < W.heap.size:=by
  have hp:0 < gs.length:=Q2p
  obtain ⟨b,o,h0,h1,-⟩:=bg 0 hp
  simp only [Option.some.injEq,Addr.mk.injEq] at h0
  obtain ⟨rfl,-,-⟩:=h0
  exact bl_ W _ h1
 have hr:r < W.heap.size:=h0.it.lt
 have hrC:NoC W r:=h0.it.noC
 have hrg:gb≠r:=by
  intro e
  have hp:0 < gs.length:=Q2p
  obtain ⟨b,o,h0,h1,-⟩:=bg 0 hp
  simp only [Option.some.injEq,Addr.mk.injEq] at h0
  obtain ⟨rfl,-,-⟩:=h0
  exact hrC.cell h1 e
 have hrp:=hrC.blk b10
 have hro:=hrC.blk h0.out
 have lt10:=b10.lt
 conv=>arg 2;whnf
 go_loopw [170] (fun _ wr=>∃ seen,L5 gs W ob r sm l wr seen) (fun _ wr=>l.length - Zjk wr r)
 case atStart=>exact ⟨[],h0⟩
 case round =>
  clear h0
  obtain ⟨seen,h⟩:=hrel
  have e10:=h.off.blk b10 lt10 (by simp;exact ⟨d1,hrp⟩)
  have eg:=bg.off h.off hgb (by simp;exact ⟨d2,hrg⟩)
  have hit:=h.it
  have hsrc:=h.src
  have hlen:=hit.len
  have r10:=e10.cell
  have ltr:=hit.lt
  have lto:=h.out.lt
  have hos:=h.off.size
  have HQ7:Hid (∀ p∈l,(Zaq p.1).size=7∧(Zaq p.1).all (·.oneCell')=true):=Q2h
  go_wp2_with (first
   | (refine Zg8 (.tmp 169) rfl rfl rfl hit hsrc ?_ ?_;intro hall;have HALL:=hd_ hall;clear hall;rotate_left;intro i p w1 hp hni ht1 hit1 hs1 hen;have q1:=(HQ7.out p (List.mem_of_getElem? hp)).1;have q2:=(HQ7.out p (List.mem_of_getElem? hp)).2;have HT1:=hd_ ht1;clear ht1;have HP:=hd_ hp;clear hp;have HNI:=hd_ hni;clear hni)
   | (refine Za1 248 (.tmp 23) (.tmp 173) Zep rfl rfl rfl rfl (Blk.new _ _ _) rfl q1 q2 ?_;intro w5 h5;have g10:=h5.other ((HT1.out.blk e10 hrp).alloc _) (by have:=HT1.out.size;omega);have c10:=g10.cell)
   | (refine Za0 248 (.tmp 23) Zep rfl rfl rfl h5.blk q1 ?_))
  ·have hz1:w1.heap.size=wr.heap.size:=HT1.out.size
   have ho5:Off [r] wr.heap.size wr w5:=(((Off.refl _ _ _).turn HT1.out (.inl sp_)).alloc om_ _).rowed h5 (.inr om_)
   have b23:=h5.blk
   have hz5:w5.heap.size=w1.heap.size+1:=by rw [h5.size];simp
   have bg5:=eg.off ho5 om_ (by simpa using hrg)
   have hp7:=(hl.1.1 p (List.mem_of_getElem? HP.out)).1
   have hfit:=b_sfits (f7 p.1) gb gc gs hgl w5 bg5
   rw [Zew p.1 hp7] at hfit
   refine hfit.mono ?_
   clear hfit
   rintro e w6 ⟨rfl,hb6⟩
   have ho6:=Off.of_below (T:=[]) hb6 nl_
   have hO:Off [r] wr.heap.size wr w6:=ho5.trans (ho6.mono om_ sp_)
   have hO2:Off [ob,r] W.heap.size W w6:=h.off.trans (hO.mono om_ (by simp;intro k _ e;exact .inr e))
   have ho16:Off [] w1.heap.size w1 w6:=(((Off.refl [] w1.heap.size w1).alloc nl_ _).rowed h5 (.inr nl_)).trans (ho6.mono om_ sp_)
   have hit6:IterIs w6 r sm l.length (seen ++ [i]):=hit1.off ho16 om_ sp_
   have hs6:MapIs w6 sm l:=ho16.map hs1 hs1.lt sp_
   have b23':=b23.below hb6 om_
   have bo:=hO.blk h.out lto (by simpa using hro)
   have c23:w6.cell? ⟨w1.heap.size,0,none⟩=some (.int .i64 (f7 p.1 0)):=(b23'.cell 0).trans (Zr4 hp7)
   have hbl:=been_len hl hS hll h.nd h.lt
   have hn:=hl.val_le HP.out
   have hol:=Zvx gs (been l seen) (f7 p.1 0)
   have hm6:Zjk w6 r=seen.length+1:=by rw [hit6.len];simp
   have hsl:seen.length+1≤l.length:=by
    have:=Zgx (seen:=seen ++ [i]) (n:=l.length) (by rw [List.nodup_append];exact ⟨h.nd,sp_,by intro a ha c hc e;simp at hc;subst hc;subst e;exact HNI.out ha⟩) (by
     intro j hj
     rcases List.mem_append.1 hj with hj|hj
     ·exact h.lt j hj
     ·simp at hj;subst hj;exact (List.getElem?_eq_some_iff.1 HP.out).1)
    simpa using this
   have ltx:w1.heap.size < w6.heap.size:=b23'.lt
   have lto6:ob < w6.heap.size:=bo.lt
   have hxo:w1.heap.size≠ob:=by omega
   clear c10 g10 h5 b23 r10 hen
   have HZ1:=hd_ hz1
   have HZ5:=hd_ hz5
   have HM6:=hd_ hm6
   clear hz1 hz5 hm6
   cases hfb:Ziv gs (f7 p.1)
   ·have HFB:=hd_ hfb
    clear hfb
    go_wp2_with fail
    refine ⟨⟨_,h.step HP.out HNI.out hO2 hit6 hs6 ?_⟩,?_⟩
    ·rw [HFB.out];simpa using bo
    ·rw [HM6.out,hlen];omega
   ·have hs8:=Zwx hfb hg00
    have HFB:=hd_ hfb
    clear hfb
    have h9:f7 p.1 0 < 9:=by omega
    have co:w6.cell? ⟨ob,f7 p.1 0,none⟩=some (.int .i64 (outN gs (been l seen) (f7 p.1 0))):=(bo.cell _).trans (Zw0 _ _ h9)
    have cf:=bo.free
    have hst:=hd_ (Ztt (outN gs (been l seen)) (f7 p.1 0) (outN gs (been l seen) (f7 p.1 0)+p.2) h9)
    generalize hs0:f7 p.1 0=s0 at *
    generalize hcs:outN gs (been l seen) s0=cs at *
    have HS0:=hd_ hs0
    have HCS:=hd_ hcs
    clear hs0 hcs
    have h9i:(s0:Int) < 9:=by omega
    have hsum:Hid (∀ W' a,Zmn W' a [cs,p.2]→Calls prog 98 #[.slice a 2 2] W' (Same (.int .i64 ((cs+p.2:Nat):Int)) W')):=by
     intro W' a hI
     have:=b_sum [cs,p.2] a 2 sp_ (by simp;omega) W' hI
     simpa using this
    generalize hcn:cs+p.2=cn at *
    have HCN:=hd_ hcn
    clear hcn
    have HT:=hd_ two_at
    go_wp2_with fail
    refine Ord.wp_region [(0,1),(1,1),(2,1),(3,0),(4,0),(5,0),(6,0),(7,0),(8,0),(9,2),(10,0),(11,0),(12,2)] (fun W=>Off [ob] w6.heap.size w6 W) kr_ kr_ (fun c a d v w h=>(hP _ _ _ h).elim) (Off.refl _ _ _).drew ?_
    go_wp2_with (first
     | ((with_reducible refine Zye ?_);first|(refine Zyq (ad:=⟨w1.heap.size,0,none⟩) ↑s0 rfl rfl ?_ ?_;(focus (intro W hW;have cW:=hW.cell (a:=⟨w1.heap.size,0,none⟩) ltx (by simpa using hxo);simp [go_sem,cW,c23];done));intro K hK)|(refine Zyw (.pointer w1.heap.size) rfl ?_ ?_;(focus (intro W hW;simp [go_sem,go_sem];done));intro K hK)|(refine Zyw (.pointer (some ⟨ob,s0,none⟩)) rfl ?_ ?_;(focus (intro W hW;simp [go_sem,h9i];done));intro K hK))
     | ((with_reducible refine Zyf ?_ (fun hOF=>?_));(focus (first|exact ((Off.refl _ _ w6).alloc nl_ _).drew|exact (((Off.refl _ _ w6).setCell (.inl sp_) _).alloc sp_ _).drew)))
     | ((with_reducible refine Zyh rfl ?_ (fun K hK=>?_));(focus (first|assumption|exact (Off.refl _ _ _).drew)))
     | (refine o_ ?_;intro K hK)|(with_reducible first|refine Zyo ?_ ?_|refine Zyj ?_|refine Zyf bn_ (fun _=>?_))
     | ((with_reducible refine Zyg ?_);refine Zyv rfl (fun W=>call98 _ W) (hsum.out _ _ (HT.out _ _ _ _)) (fun K hK=>?_))|((with_reducible refine Zye ?_);refine Ord.wild_call rfl (fun W=>call98 _ W) (fun W hW=>hsum.out _ _ (HT.out _ _ _ _)) (fun K hK=>?_)))
    have hoE:Off [ob] w6.heap.size w6 ((w6.setCell ⟨ob,s0,none⟩ ↑cn).alloc (.cells #[cs,.int .i64 p.2] 3)).drew:=(((Off.refl _ _ w6).setCell (.inl sp_) _).alloc sp_ _).drew
    have hitE:IterIs ((w6.setCell ⟨ob,s0,none⟩ ↑cn).alloc (.cells #[cs,.int .i64 p.2] 3)).drew r sm l.length (seen ++ [i]):=hit6.off hoE hit6.lt (by simpa using Ne.symm hro)
    refine ⟨⟨_,h.step HP.out HNI.out (hO2.trans (hoE.mono hO2.size (by simp;intro k _ e;exact .inl e))) hitE (hoE.map hs6 hs6.lt (by
     intro e;simp at e;subst e;exact (NoC.map hs6).blk bo rfl)) ?_⟩,?_⟩
    ·have b1:Blk ((w6.setCell ⟨ob,s0,none⟩ ↑cn).alloc (.cells #[cs,.int .i64 p.2] 3)).drew ob ((Zb2 (outN gs (been l seen))).setIfInBounds s0 ↑cn) 142:=((bo.set _ _).alloc _).drew
     rw [hst.out] at b1
     have e1:(fun j=>outN gs (been l seen) j+if Ziv gs (f7 p.1)=true∧f7 p.1 0=j then p.2 else 0)=fun j=>if j=s0 then cn else outN gs (been l seen) j:=by
      funext j
      rw [HFB.out,HS0.out]
      by_cases hj:j=s0
      ·subst hj;rw [if_pos ⟨rfl,rfl⟩,if_pos rfl,HCS.out,HCN.out]
      ·rw [if_neg (fun e=>hj e.2.symm),if_neg hj,Nat.add_zero]
     rw [e1];exact b1
    ·rw [hitE.len,hlen,List.length_append];simp;omega
  ·exact HE.out _ _ _ _ _ _ _ _ _ _ _ _ _ _ _ _ _ _ _ _ _ _ _ h.off (by rw [← h.done hl HALL.out];exact h.out)
theorem bit_u64z (vo v:Nat) (h:vo < 2 ^ 62):(bits .and .u64 ((vo:Int) / 2 ^ v) 1 == 0) = !hasB vo v:=by
 have h1:((vo:Int) / 2 ^ v)=((vo / 2 ^ v:Nat):Int):=by simp
 have h2:vo / 2 ^ v≤vo:=Nat.div_le_self _ _
 have h3:(1:Int)=((1:Nat):Int):=rfl
 rw [h1]
 conv=>lhs;arg 1;rw [h3]
 rw [u64_and_nat _ _ om_ om_,nat_mask1]
 unfold hasB
 rw [Bool.eq_iff_iff,beq_iff_eq,Bool.not_eq_true',beq_eq_false_iff_ne]
 omega
def Zem (gs:List Gr):List Value:=gs.flatMap fun g=>[.int .u64 g.1,.int .i64 g.2.1,.int .i64 g.2.2]
theorem Zr9 (gs:List Gr) (g:Gr):Zem (gs ++ [g])=Zem gs ++ [.int .u64 g.1,.int .i64 g.2.1,.int .i64 g.2.2]:=by simp [Zem]
theorem Zpb:∀ (gs:List Gr) (i:Nat),(h:i < gs.length)→(Zem gs)[i * 3]? = some (.int .u64 gs[i].1)∧(Zem gs)[i * 3+1]? = some (.int .i64 gs[i].2.1)∧(Zem gs)[i * 3+2]? = some (.int .i64 gs[i].2.2)
 | g :: gs,0,_=>⟨rfl,rfl,rfl⟩
 | g :: gs,i+1,h=>by
  have ih:=Zpb gs i (by simpa using h)
  have e:∀ k,(Zem (g :: gs))[(i+1) * 3+k]? = (Zem gs)[i * 3+k]?:=fun k=>by
   show (([.int .u64 g.1,.int .i64 g.2.1,.int .i64 g.2.2]:List Value) ++ Zem gs)[_]? = _
   rw [List.getElem?_append_right (by simp;omega)]
   congr 1
   simp;omega
  exact ⟨(e 0).trans ih.1,(e 1).trans ih.2.1,(e 2).trans ih.2.2⟩
def GOwn (w:World) (base:Nat) (v:Value) (gs:List Gr):Prop:=w.ownsRow base 234 3 v gs.length (Zem gs)
theorem GOwn.at {w:World}{base:Nat}{v:Value}{gs:List Gr}(h:GOwn w base v gs) (hp:0 < gs.length):∃ gb gc,v=.slice (some ⟨gb,0,none⟩) gs.length gc∧base≤gb∧GrAt w (some ⟨gb,0,none⟩) gs:=by
 obtain ⟨hl,⟨-,h0⟩ | ⟨g,cap,cur,hv,hg,hh,hn,hc,hs,ht⟩⟩:=h
 ·omega
 refine ⟨g,cap,hv,hg,fun i hi=>⟨g,0,rfl,?_⟩⟩
 have hcell:∀ k u,(Zem gs)[k]? = some u→w.cell? ⟨g,k,none⟩=some u:=fun k u hk=>by
  rw [cell_of_row w g k cur _ (0,0) hh]
  rw [← ht,List.getElem?_take] at hk
  split at hk
  ·simpa using hk
  ·cases hk
 obtain ⟨h1,h2,h3⟩:=Zpb gs i hi
 simp only [Nat.zero_add]
 exact ⟨hcell _ _ h1,hcell _ _ h2,hcell _ _ h3⟩
def Zhn (ks:List Kn) (set:Nat) (ws:List Kn) (i:Nat):List Kn:=if i≤ks.length then Ze7 ks set i else Ze7 ks set ks.length ++ ws.take (i - ks.length)
theorem Zoq (ks:List Kn) (set:Nat) (ws:List Kn):Zhn ks set ws (ks.length+ws.length)=sel ks set ws:=by
 unfold Zhn sel
 split
 ·rename_i h
  have:ws=[]:=List.eq_nil_of_length_eq_zero om_
  subst this;simp
 ·rw [Nat.add_sub_cancel_left,List.take_length]
theorem Zd8 (ks:List Kn) (set i:Nat) (h:i < ks.length):Ze7 ks set (i+1)=Ze7 ks set i ++ if hasB set i then [ks[i]] else []:=by
 unfold Ze7
 rw [List.range_succ,List.flatMap_append]
 simp [h]
theorem Zsd (ks:List Kn) (set:Nat) (ws:List Kn) (i:Nat) (h:i < ks.length) (hb:hasB set i=false):Zhn ks set ws (i+1)=Zhn ks set ws i:=by
 unfold Zhn
 rw [if_pos om_,if_pos om_,Zd8 ks set i h,hb];simp
theorem Zop (ks:List Kn) (set:Nat) (ws:List Kn) (i:Nat) (x:Kn) (hx:(ks ++ ws)[i]? = some x) (hb:i < ks.length→hasB set i=true):Zhn ks set ws (i+1)=Zhn ks set ws i ++ [x]:=by
 unfold Zhn
 by_cases h:i < ks.length
 ·rw [if_pos om_,if_pos om_,Zd8 ks set i h,hb h,if_pos rfl]
  rw [List.getElem?_append_left h,List.getElem?_eq_getElem h] at hx
  rw [Option.some.inj hx]
 ·rw [List.getElem?_append_right om_] at hx
  have hl:=(List.getElem?_eq_some_iff.1 hx).1
  have h2:=(List.getElem?_eq_some_iff.1 hx).2
  rw [if_neg om_]
  have e:i+1 - ks.length=(i - ks.length)+1:=by omega
  rw [e,List.take_succ_eq_append_getElem hl,h2]
  by_cases h3:i≤ks.length
  ·have:i=ks.length:=by omega
   subst this
   rw [if_pos om_];simp
  ·rw [if_neg h3];simp
theorem Zu1 (L:List Kn) (g0:Gr) (x:Kn):Zh6 (L ++ [x]) g0=Zg4 (Zh6 L g0) x:=by simp [Zh6]
theorem Zu2 (L M:List Kn) (g0:Gr) (h:Zh6 L g0=none):Zh6 (L ++ M) g0=none:=by
 unfold Zh6 at *
 rw [List.foldl_append,h]
 induction M with
 | nil=>rfl
 | cons x M ih=>exact ih
theorem Zm3 (ks:List Kn) (set:Nat) (ws:List Kn):∀ (n i:Nat),i+n=ks.length+ws.length→∃ M,sel ks set ws=Zhn ks set ws i ++ M
 | 0,i,h=>⟨[],by rw [List.append_nil,← Zoq];congr 1;omega⟩
 | n+1,i,h=>by
  obtain ⟨M,hM⟩:=Zm3 ks set ws n (i+1) om_
  have hi:i < (ks ++ ws).length:=by simp;omega
  by_cases hb:i < ks.length∧hasB set i=false
  ·rw [Zsd ks set ws i hb.1 hb.2] at hM
   exact ⟨M,hM⟩
  ·rw [Zop ks set ws i (ks ++ ws)[i] (List.getElem?_eq_getElem hi) (fun h=>by simpa using fun e=>hb ⟨h,e⟩),List.append_assoc] at hM
   exact ⟨_,hM⟩
def TiOk (t:Ti):Prop:=∀ i,i < 8→(t i).1 < 8
theorem TiOk.free:TiOk Zi0:=fun i h=>h
theorem TiOk.tied {t:Ti}(h:TiOk t) {A B:Nat}(hA:A < 8) (hB:B < 8) (s:Bool):TiOk (Zd1 t A B s):=by
 intro i hi
 unfold Zd1
 have h1:=h A hA
 have h2:=h B hB
 split
 ·exact h i hi
 ·simp only [Zbd,toT]
  rw [if_pos hi]
  have h3:=h i hi
  split
  ·show min _ _ < 8;omega
  ·exact h3
theorem Zap:Zdw prog 142 9:=⟨_,underlying142,rfl,by kernel_rfl⟩
theorem Zu3:(prog.info? 234).map (fun i=>(i.zero,i.size,i.bytes))=some (some (.agg #[.int .u64 0,(),()]),3,24):=by kernel_rfl
theorem _root_.Q1x {p:Prop}(h:p:=by
 obtain ⟨hl,h | ⟨g,cap,cur,hv,hg,hh,hn,hc,hs,ht⟩⟩:=h
 ·exact ⟨hl,.inl h⟩
 ·exact ⟨hl,.inr ⟨g,cap,cur,hv,hg,(hk g hg (lt_of_block hh)).trans hh,hn,hc,hs,ht⟩⟩):p:=h
theorem GOwn.of_heap {w w':World}{base:Nat}{v:Value}{gs:List Gr}(h:GOwn w base v gs) (hk:∀ g,base≤g→g < w.heap.size→w'.heap[g]? = w.heap[g]?):GOwn w' base v gs:=Q1x
theorem GOwn.row {w:World}{base:Nat}{v:Value}{gs:List Gr}(h:GOwn w base v gs) {g:Nat}(hg:v.ownBlock=some g):base≤g∧∀ A t,Blk w g A t→t=234:=by
 obtain ⟨hl,⟨rfl,-⟩ | ⟨g',cap,cur,rfl,hg',hh,hn,hc,hs,ht⟩⟩:=h
 ·cases hg
 ·simp only [Value.ownBlock,Option.some.injEq] at hg
  subst hg
  refine ⟨hg',fun A t hb=>?_⟩
  rw [show w.heap[g']? = _ from hb] at hh
  simp only [Option.some.injEq,Obj.cells.injEq] at hh
  exact hh.2.1
theorem GOwn.setCell {w:World}{base gp:Nat}{v:Value}{gs:List Gr}{A:Array Value}{t:TypeId}(h:GOwn w base v gs) (hb:Blk w gp A t) (ht:t≠234) (i:Nat) (u:Value):GOwn (w.setCell ⟨gp,i,none⟩ u) base v gs:=by
 obtain ⟨hl,h0 | ⟨g,cap,cur,hv,hg,hh,hn,hc,hs,htk⟩⟩:=h
 ·exact ⟨hl,.inl h0⟩
 ·refine ⟨hl,.inr ⟨g,cap,cur,hv,hg,(Below.heap_setCell w _ u g (fun e=>?_)).trans hh,hn,hc,hs,htk⟩⟩
  simp only at e
  subst e
  rw [show w.heap[g]? = _ from hb] at hh
  simp only [Option.some.injEq,Obj.cells.injEq] at hh
  exact ht hh.2.1
theorem Zn7 {w:World}{b:Nat}{A:Array Value}{t:TypeId}(h:Blk w b A t):∀ (j:Nat) (u:Value),A.toList[j]? = some u→w.cell? ((⟨b,0,none⟩:Addr).add j)=some u:=by
 intro j u hu
 have:(⟨b,0,none⟩:Addr).add j=⟨b,j,none⟩:=by simp [Addr.add];try omega
 rw [this,h.cell]
 simpa using hu
theorem Off.grown {T:List Nat}{n:Nat}{w w' w'':World}{row:Option Nat}(h:Off T n w w') (hg:w'.grownBy w'' row) (hn:n≤w'.heap.size) (hr:∀ g,row=some g→g∈T∨n≤g):Off T n w w'' :=
 h.trans ⟨hg.os,hg.tape,hg.output,hg.size,fun k hk ht=>hg.block k om_ (fun e=>by rcases hr k e.symm with h|h;exact ht h;omega)⟩
def Stop (p:Prop):Prop:=p
theorem Za2 {p:Prop}(h:Stop p):p:=h
structure L1 (ks:List Kn) (set:Nat) (ws:List Kn) (g0:Gr) (W:World) (base bt gp:Nat) (i:Nat) (w:World) (t:Ti) (gs:List Gr) (vs:Value):Prop where
 off:Off [bt] base W w
 size:W.heap.size≤w.heap.size
 fold:Zh6 (Zhn ks set ws i) g0=some (t,gs)
 b8:Blk w bt (Zaj t) 240
 b10:Blk w gp #[vs] 242
 own:GOwn w base vs gs
 ok:TiOk t
 pos:0 < gs.length
 len:gs.length≤i+1
theorem Zx7 {u0 u2 u4 u5 u7 u9 u11 u12 u13 u14 u15 u16 u17 u18 u19 u20 u21 u22 u23 u24 u25 u26 u27 u28 u29 u30 u31 u32 u33 u34 u35 u36 u37 u38 u39 u40 u41 u42 u43 u44 u45 u46 u47 u48 u49 u50 u51 u52 u53 u54 u55 u56 u57 u58 u59 u60 u61 u65 u66 u67 u68 u69 u70 u71 u72 u73 u74 u75 u76 u77 u78 u79 u80 u81 u82 u83 u84 u85 u86 u87 u88 u89 u90 u91 u92 u93 u94 u95 u96 u97 u98 u99 u100 u101 u102 u103 u104 u105 u106 u107 u108 u109 u110 u111 u112 u113 u114 u115 u116 u117 u118 u119 u120 u121 u122 u123 u124 u125 u126 u127 u128 u129 u130 u131 u132 u133 u134 u135 u136 u137 u138 u139 u140 u141 u142 u143 u144 u145 u146 u147 u148 u149 u150 u151 u152 u153 u154 u155 u156 u157 u158 u159 u160 u161 u162 u163 u164 u165 u166 u167 u168 u169 u170 u171 u172 u173 u174 u175 u176 u177 u178 u179 u180 u181 u182 u183 u184 u185 u186 u187 u188 u189 u190:Value}{ds:List Deferred}(Q:Exit→Act→World→Prop) (W:World) (base v nb bt gp ob kb:Nat) (ka:Option Addr) (kc oc:Nat) (ks ws:List Kn) (set:Nat) (g0:Gr) (KA:Array Value) (vs0:Value)
  (hkl:ks.length≤8) (hwl:ws.length≤2) (hset:set < 2 ^ 62) (hok:∀ x∈ks ++ ws,knOk x)
  (b3:Blk W nb #[.pointer v] 143) (v6:W.cell? ⟨v,6,none⟩=some (.slice ka ks.length kc))
  (bo:Blk W ob (Zb2 fun _=>0) 142) (bk:Blk W kb KA 154) (hKA:∀ (i:Nat) (x:Kn),(ks ++ ws)[i]? = some x→KA[i]? = some (knV x))
  (l1:nb < base) (l2:v < base) (l3:ob < base) (l4:kb < base) (l5:bt < base) (lb:base≤gp) (d1:nb≠bt) (d2:v≠bt) (d3:ob≠bt) (d4:kb≠bt)
  (h0:L1 ks set ws g0 W base bt gp 0 W Zi0 [g0] vs0)
  (hexit:∀ (x9 x11 x12 x13 x14 x64 x65 x66 x67 x68 x69 x70 x71 x72 x73 x74 x75 x76 x77 x78 x79 x80 x81 x82 x83 x84 x85 x86 x87 x88 x89 x90 x91 x92 x93 x94 x95 x96 x97 x98 x99 x100 x101 x102:Value) W' t gs vs,L1 ks set ws g0 W base bt gp (ks.length+ws.length) W' t gs vs →
   Q (.exit 0) ⟨(u0 :: .int .u64 set :: u2 :: .pointer nb :: u4 :: u5 :: .pointer ob :: u7 :: .pointer bt :: x9 :: .pointer gp :: x11 :: x12 :: x13 :: x14 :: u15 :: u16 :: u17 :: u18 :: u19 :: u20 :: u21 :: u22 :: u23 :: u24 :: u25 :: u26 :: u27 :: u28 :: u29 :: u30 :: u31 :: u32 :: u33 :: u34 :: u35 :: u36 :: u37 :: u38 :: u39 :: u40 :: u41 :: u42 :: u43 :: u44 :: u45 :: u46 :: u47 :: u48 :: u49 :: u50 :: u51 :: u52 :: u53 :: u54 :: u55 :: u56 :: u57 :: u58 :: u59 :: u60 :: u61 :: .slice kb (ks.length+ws.length) oc :: .int .i64 (ks.length+ws.length) :: x64 :: x65 :: x66 :: x67 :: x68 :: x69 :: x70 :: x71 :: x72 :: x73 :: x74 :: x75 :: x76 :: x77 :: x78 :: x79 :: x80 :: x81 :: x82 :: x83 :: x84 :: x85 :: x86 :: x87 :: x88 :: x89 :: x90 :: x91 :: x92 :: x93 :: x94 :: x95 :: x96 :: x97 :: x98 :: x99 :: x100 :: x101 :: x102 :: u103 :: u104 :: u105 :: u106 :: u107 :: u108 :: u109 :: u110 :: u111 :: u112 :: u113 :: u114 :: u115 :: u116 :: u117 :: u118 :: u119 :: u120 :: u121 :: u122 :: u123 :: u124 :: u125 :: u126 :: u127 :: u128 :: u129 :: u130 :: u131 :: u132 :: u133 :: u134 :: u135 :: u136 :: u137 :: u138 :: u139 :: u140 :: u141 :: u142 :: u143 :: u144 :: u145 :: u146 :: u147 :: u148 :: u149 :: u150 :: u151 :: u152 :: u153 :: u154 :: u155 :: u156 :: u157 :: u158 :: u159 :: u160 :: u161 :: u162 :: u163 :: u164 :: u165 :: u166 :: u167 :: u168 :: u169 :: u170 :: u171 :: u172 :: u173 :: u174 :: u175 :: u176 :: u177 :: u178 :: u179 :: u180 :: u181 :: u182 :: u183 :: u184 :: u185 :: u186 :: u187 :: u188 :: u189 :: u190 :: []).toArray,ds⟩ W')
  (hret:∀ (x9 x11 x12 x13 x14 x64 x65 x66 x67 x68 x69 x70 x71 x72 x73 x74 x75 x76 x77 x78 x79 x80 x81 x82 x83 x84 x85 x86 x87 x88 x89 x90 x91 x92 x93 x94 x95 x96 x97 x98 x99 x100 x101 x102:Value) W',Off [bt,ob] base W W'→W.heap.size≤W'.heap.size→Blk W' ob (Zb2 fun _=>0) 142→Zh6 (sel ks set ws) g0=none →
   Q .ret ⟨(u0 :: .int .u64 set :: u2 :: .pointer nb :: u4 :: u5 :: .pointer ob :: u7 :: .pointer bt :: x9 :: .pointer gp :: x11 :: x12 :: x13 :: x14 :: u15 :: u16 :: u17 :: u18 :: u19 :: u20 :: u21 :: u22 :: u23 :: u24 :: u25 :: u26 :: u27 :: u28 :: u29 :: u30 :: u31 :: u32 :: u33 :: u34 :: u35 :: u36 :: u37 :: u38 :: u39 :: u40 :: u41 :: u42 :: u43 :: u44 :: u45 :: u46 :: u47 :: u48 :: u49 :: u50 :: u51 :: u52 :: u53 :: u54 :: u55 :: u56 :: u57 :: u58 :: u59 :: u60 :: u61 :: .slice kb (ks.length+ws.length) oc :: .int .i64 (ks.length+ws.length) :: x64 :: x65 :: x66 :: x67 :: x68 :: x69 :: x70 :: x71 :: x72 :: x73 :: x74 :: x75 :: x76 :: x77 :: x78 :: x79 :: x80 :: x81 :: x82 :: x83 :: x84 :: x85 :: x86 :: x87 :: x88 :: x89 :: x90 :: x91 :: x92 :: x93 :: x94 :: x95 :: x96 :: x97 :: x98 :: x99 :: x100 :: x101 :: x102 :: u103 :: u104 :: u105 :: u106 :: u107 :: u108 :: u109 :: u110 :: u111 :: u112 :: u113 :: u114 :: u115 :: u116 :: u117 :: u118 :: u119 :: u120 :: u121 :: u122 :: u123 :: u124 :: u125 :: u126 :: u127 :: u128 :: u129 :: u130 :: u131 :: u132 :: u133 :: u134 :: u135 :: u136 :: u137 :: u138 :: u139 :: u140 :: u141 :: u142 :: u143 :: u144 :: u145 :: u146 :: u147 :: u148 :: u149 :: u150 :: u151 :: u152 :: u153 :: u154 :: u155 :: u156 :: u157 :: u158 :: u159 :: u160 :: u161 :: u162 :: u163 :: u164 :: u165 :: u166 :: u167 :: u168 :: u169 :: u170 :: u171 :: u172 :: u173 :: u174 :: u175 :: u176 :: u177 :: u178 :: u179 :: u180 :: u181 :: u182 :: u183 :: u184 :: u185 :: u186 :: u187 :: u188 :: u189 :: u190 :: []).toArray,ds⟩ W') :
  cA.wp prog Q ⟨(u0 :: .int .u64 set :: u2 :: .pointer nb :: u4 :: u5 :: .pointer ob :: u7 :: .pointer bt :: u9 :: .pointer gp :: u11 :: u12 :: u13 :: u14 :: u15 :: u16 :: u17 :: u18 :: u19 :: u20 :: u21 :: u22 :: u23 :: u24 :: u25 :: u26 :: u27 :: u28 :: u29 :: u30 :: u31 :: u32 :: u33 :: u34 :: u35 :: u36 :: u37 :: u38 :: u39 :: u40 :: u41 :: u42 :: u43 :: u44 :: u45 :: u46 :: u47 :: u48 :: u49 :: u50 :: u51 :: u52 :: u53 :: u54 :: u55 :: u56 :: u57 :: u58 :: u59 :: u60 :: u61 :: .slice kb (ks.length+ws.length) oc :: .int .i64 (ks.length+ws.length) :: ↑() :: u65 :: u66 :: u67 :: u68 :: u69 :: u70 :: u71 :: u72 :: u73 :: u74 :: u75 :: u76 :: u77 :: u78 :: u79 :: u80 :: u81 :: u82 :: u83 :: u84 :: u85 :: u86 :: u87 :: u88 :: u89 :: u90 :: u91 :: u92 :: u93 :: u94 :: u95 :: u96 :: u97 :: u98 :: u99 :: u100 :: u101 :: u102 :: u103 :: u104 :: u105 :: u106 :: u107 :: u108 :: u109 :: u110 :: u111 :: u112 :: u113 :: u114 :: u115 :: u116 :: u117 :: u118 :: u119 :: u120 :: u121 :: u122 :: u123 :: u124 :: u125 :: u126 :: u127 :: u128 :: u129 :: u130 :: u131 :: u132 :: u133 :: u134 :: u135 :: u136 :: u137 :: u138 :: u139 :: u140 :: u141 :: u142 :: u143 :: u144 :: u145 :: u146 :: u147 :: u148 :: u149 :: u150 :: u151 :: u152 :: u153 :: u154 :: u155 :: u156 :: u157 :: u158 :: u159 :: u160 :: u161 :: u162 :: u163 :: u164 :: u165 :: u166 :: u167 :: u168 :: u169 :: u170 :: u171 :: u172 :: u173 :: u174 :: u175 :: u176 :: u177 :: u178 :: u179 :: u180 :: u181 :: u182 :: u183 :: u184 :: u185 :: u186 :: u187 :: u188 :: u189 :: u190 :: []).toArray,ds⟩ W:=by
 have HE:=hd_ hexit
 have HR:=hd_ hret
 clear hexit hret
 obtain ⟨gi,hgi,hgz0,hgz1,hgz2⟩:=info_parts Zu3
 conv=>arg 2;whnf
 go_loopw [64] (fun i wr=>∃ (k:Nat) (t:Ti) (gs:List Gr) (vs:Value),k≤ks.length+ws.length∧i=↑k∧L1 ks set ws g0 W base bt gp k wr t gs vs) (fun i _=>ks.length+ws.length - (intOf i).toNat)
 case atStart=>exact ⟨0,Zi0,[g0],vs0,om_,rfl,h0⟩
 case round =>
  clear h0
  obtain ⟨k,t,gs,vs,hk,rfl,h⟩:=hrel
  obtain ⟨ho,hsz,hfold,b8,b10,hown,hti,hpos,hlen⟩:=h
  have e3:=ho.blk b3 l1 (by simpa using d1)
  have e6:wr.cell? ⟨v,6,none⟩=some (.slice ka ks.length kc):=(ho.cell (a:=⟨v,6,none⟩) l2 (by simpa using d2)).trans v6
  have eo:=ho.blk bo l3 (by simpa using d3)
  have ek:=ho.blk bk l4 (by simpa using d4)
  have r3:=e3.cell
  have hbw:base≤wr.heap.size:=by have:=b10.lt;omega
  by_cases hlt:k < ks.length+ws.length
  ·have hlti:(k:Int) < (ks.length:Int)+(ws.length:Int):=by omega
   have hlti2:(k:Int) < ((ks.length+ws.length:Nat):Int):=by omega
   obtain ⟨x,hx⟩:∃ x,(ks ++ ws)[k]? = some x:=⟨(ks ++ ws)[k]'(by simp;omega),List.getElem?_eq_getElem _⟩
   have hcx:=(ek.cell k).trans (hKA k x hx)
   have hxo:=hok x (List.mem_of_getElem? hx)
   have hbz:=bit_u64z set k hset
   have q1:=Zbk t
   have q2:=Zde t
   have HG:=hd_ b_gties
   have HPT:=hd_ Zxr
   by_cases hskip:k < ks.length∧hasB set k=false
   ·obtain ⟨hs1,hb⟩:=hskip
    have hfold2:=Zsd ks set ws k hs1 hb
    have hbz2:(bits .and .u64 ((set:Int) / 2 ^ k) 1 == 0)=true:=by rw [hbz,hb];rfl
    rw [← hfold2] at hfold
    clear hbz hb hfold2 hx HG HPT q1 q2
    go_wp2_with fail
    refine ⟨⟨k+1,t,gs,vs,om_,by go_num,⟨ho,hsz,hfold,b8,b10,hown,hti,hpos,om_⟩⟩,by simp [intOf];omega⟩
   ·have hb:k < ks.length→hasB set k=true:=fun h=>by simpa using fun e=>hskip ⟨h,e⟩
    have hfold2:=Zop ks set ws k x hx hb
    have hks:=Zu1 (Zhn ks set ws k) g0 x
    rw [← hfold2,hfold] at hks
    have HKS:=hd_ hks
    clear hks hfold2 hskip hfold hx
    have hsel:(k < ks.length∧(bits .and .u64 ((set:Int) / 2 ^ k) 1 == 0)=false)∨ks.length≤k:=by
     by_cases h:k < ks.length
     ·exact .inl ⟨h,by rw [hbz,hb h];rfl⟩
     ·exact .inr om_
    clear hbz hb
    cases x with
    | g vo lo hi =>
     have hcx':wr.cell? ⟨kb,k,none⟩=some (.iface 234 (.agg #[.int .u64 vo,lo,hi])):=hcx
     clear hcx
     have hm : ∀ w, (method 551 234 (.agg #[.int .u64 vo, ↑lo, ↑hi]) "shearworks/bean.ties").run prog w = .ok (356, .agg #[.int .u64 vo, ↑lo, ↑hi]) w := fun _ => by kernel_rfl
     have hta:∀ w,(Instr.typeAssert (.iface 234 (.agg #[.int .u64 vo,lo,hi])) 154 234 true).run prog w=.ok (.tuple #[.agg #[.int .u64 vo,lo,hi],.bool true]) w:=fun _=>by kernel_rfl
     rcases hsel with ⟨hs1,hs2⟩|hs1
     all_goals go_wp2_with (first
      | (go_at_call 356;refine (HG.out _ _ _ _ _).mono ?_;rintro e w1 ⟨rfl,hb1⟩)
      | (refine Za0 240 (.tmp 8) Zb5 rfl rfl rfl b8 q1 ?_)
      | (refine Za1 240 (.tmp 8) (.tmp 87) Zb5 rfl rfl rfl rfl (b8.below hb1 b8.lt) q1 q1 q2 ?_;intro w2 h2;have b10':=h2.other (b10.below hb1 b10.lt) om_;have c10:=b10'.cell;have hlt10:=b10'.lt;have hown2:GOwn w2 base vs gs:=(hown.of_heap (fun g h1 h2'=>hb1.block g h2')).of_heap (fun g h1 h2'=>h2.heap g om_))
      | (at_builtin;refine Za2 ?_))
     all_goals (unfold Stop)
     all_goals (refine wpList_append_own _ rfl (.tmp 98) (.tmp 100) 242 rfl base 234 gi (.agg #[.int .u64 0,(),()]) 3 24 underlying242 hgi hgz0 hgz1 hgz2 rfl de_ vs gs.length (Zem gs) rfl ((World.ownsRow.alloc hown2 _).alloc _) ⟨w2.heap.size+1,0,none⟩ 1 1 [.int .u64 vo,↑lo,↑hi] rfl rfl (Zn7 (A:=#[.int .u64 vo,lo,hi]) (Blk.new' _ _ _ _ sp_)) (by simp [Value.oneCell']) (by unfold maxLen;omega) om_ ar_ ?_)
     all_goals (intro v5 w5 hown5 hgrow5 _)
     all_goals (have hown5':GOwn w5 base v5 (gs ++ [(vo,lo,hi)]):=by (unfold GOwn;rw [List.length_append,Zr9];exact hown5))
     all_goals (obtain ⟨gb5,gc5,rfl,hgb5,-⟩:=hown5'.at sp_)
     all_goals (have b10w5:Blk w5 gp #[vs] 242:=(hgrow5.block gp ar_ (fun e=>absurd ((hown2.row e.symm).2 _ _ b10') de_)).trans ((b10'.alloc _).alloc _))
     all_goals (have c10w:=b10w5.cell)
     all_goals (have f10w:=b10w5.free)
     all_goals go_wp2_with fail
     all_goals (have hO2:Off [bt] base W w2:=(ho.trans (Off.of_below hb1 om_)).rowed h2 (.inl sp_))
     all_goals (have hO5:Off [bt] base W w5:=(((hO2.alloc om_ _).alloc ar_ _).grown hgrow5 ar_ (fun g hg=>.inr (hown2.row hg).1)))
     all_goals (have hsz2:W.heap.size≤w2.heap.size:=by have:=hb1.size;have:=h2.size;omega)
     all_goals (have hsz5:=hgrow5.size)
     all_goals (have b8w5:Blk w5 bt (Zaj t) 240:=(hgrow5.block bt ar_ (fun e=>by have:=(hown2.row e.symm).1;omega)).trans ((h2.blk.alloc _).alloc _))
     all_goals refine ⟨⟨k+1,t,gs ++ [(vo,lo,hi)],.slice gb5 (gs ++ [(vo,lo,hi)]).length gc5,om_,by go_num,⟨hO5.setCell (.inr lb) _,by simp at hsz5 ⊢;omega,HKS.out,b8w5.other (by show bt≠gp;omega) _,?_,hown5'.setCell b10w5 de_ 0 _,hti,sp_,by simp;omega⟩⟩,by simp [intOf];omega⟩
     all_goals (rw [List.length_append];exact b10w5.set 0 _)
    | p A B sm =>
     obtain ⟨hA,hB⟩:=hxo
     have hcx':wr.cell? ⟨kb,k,none⟩=some (.iface 236 (.agg #[.int .u64 0,(),(),A,B,.bool sm])):=hcx
     clear hcx
     have hm : ∀ w, (method 551 236 (.agg #[.int .u64 0, ↑(), ↑(), ↑A, ↑B, .bool sm]) "shearworks/bean.ties").run prog w = .ok (357, .agg #[.int .u64 0, ↑(), ↑(), ↑A, ↑B, .bool sm]) w := fun _ => by kernel_rfl
     have hta:∀ w,(Instr.typeAssert (.iface 236 (.agg #[.int .u64 0,(),(),A,B,.bool sm])) 154 234 true).run prog w=.ok (.tuple #[.agg #[.int .u64 0,(),()],.bool false]) w:=fun _=>by kernel_rfl
     have q3:=Zbk (Zd1 t A B sm)
     have q4:=Zde (Zd1 t A B sm)
     have hP0:=Zxr t A B hA hB hti sm
     have hti2:=hti.tied hA hB sm
     cases hto:Zek t A B sm
     ·rw [hto] at hP0
      have HP:=hd_ hP0
      have hks:Zh6 (Zhn ks set ws (k+1)) g0=none:=by rw [HKS.out];simp [Zg4,hto]
      have HN:Hid (Zh6 (sel ks set ws) g0=none):=by
       obtain ⟨M,hM⟩:=Zm3 ks set ws (ks.length+ws.length - (k+1)) (k+1) om_
       show _=_
       rw [hM];exact Zu2 _ _ _ hks
      clear hks hP0 hto HPT HKS
      generalize Zaj (Zd1 t A B sm)=T2 at *
      have o1:(Zb2 fun _=>0).size=9:=rfl
      have o2:(Zb2 fun _=>0).all (·.oneCell')=true:=by simp [Zb2,Value.oneCell']
      generalize hOC:(Zb2 fun _=>0)=OC at *
      have HOC:=hd_ hOC
      clear hOC
      have hob:ob≠bt:=d3
      rcases hsel with ⟨hs1,hs2⟩|hs1
      all_goals go_wp2_with (first
       | (go_at_call 357;refine (HP.out _).mono ?_;rintro e w1 ⟨rfl,hb1⟩)
       | (refine Za0 240 (.tmp 8) Zb5 rfl rfl rfl b8 q1 ?_)
       | (refine Za1 240 (.tmp 8) (.tmp 87) Zb5 rfl rfl rfl rfl (b8.below hb1 b8.lt) q1 q3 q4 ?_;intro w2 h2;have eo2:=h2.other (eo.below hb1 eo.lt) hob)
       | (refine Za0 142 (.tmp 6) Zap rfl rfl rfl eo2 o1 ?_)
       | (refine Za1 142 (.tmp 6) (.tmp 91) Zap rfl rfl rfl rfl eo2 o1 o1 o2 ?_;intro w3 h3))
      all_goals go_frame
      all_goals (have hO3:Off [bt,ob] base W w3:=((((ho.trans (Off.of_below hb1 hbw)).rowed h2 (.inl sp_)).mono nl_ (by simp;intro x _ e;exact .inl e)).rowed h3 (.inl sp_)))
      all_goals (have hs3:W.heap.size≤w3.heap.size:=by have:=hb1.size;have:=h2.size;have:=h3.size;omega)
      all_goals (have hb3:=h3.blk)
      all_goals (refine HR.out _ _ _ _ _ _ _ _ _ _ _ _ _ _ _ _ _ _ _ _ _ _ _ _ _ _ _ _ _ _ _ _ _ _ _ _ _ _ _ _ _ _ _ _ w3 hO3 hs3 hb3 HN.out)
     ·rw [hto] at hP0
      have HP:=hd_ hP0
      have hks:Zh6 (Zhn ks set ws (k+1)) g0=some (Zd1 t A B sm,gs):=by rw [HKS.out];simp [Zg4,hto]
      have HK2:=hd_ hks
      clear hks hP0 hto HPT HKS
      generalize Zd1 t A B sm=t2 at *
      rcases hsel with ⟨hs1,hs2⟩|hs1
      all_goals go_wp2_with (first
       | (go_at_call 357;refine (HP.out _).mono ?_;rintro e w1 ⟨rfl,hb1⟩)
       | (refine Za0 240 (.tmp 8) Zb5 rfl rfl rfl b8 q1 ?_)
       | (refine Za1 240 (.tmp 8) (.tmp 87) Zb5 rfl rfl rfl rfl (b8.below hb1 b8.lt) q1 q3 q4 ?_;intro w2 h2))
      all_goals (have hown2:GOwn w2 base vs gs:=(hown.of_heap (fun g h1 h2'=>hb1.block g h2')).of_heap (fun g h1 h2'=>h2.heap g om_))
      all_goals (have hO2:Off [bt] base W w2:=(ho.trans (Off.of_below hb1 hbw)).rowed h2 (.inl sp_))
      all_goals (have hsz2:W.heap.size≤w2.heap.size:=by have:=hb1.size;have:=h2.size;omega)
      all_goals (have hb2:base≤w2.heap.size:=by have:=hb1.size;have:=h2.size;omega)
      all_goals (have b10w:=h2.other (b10.below hb1 b10.lt) om_)
      all_goals refine ⟨⟨k+1,t2,gs,vs,om_,by go_num,⟨hO2.alloc hb2 _,by simp;omega,HK2.out,h2.blk.alloc _,b10w.alloc _,World.ownsRow.alloc hown2 _,hti2,hpos,om_⟩⟩,by simp [intOf];omega⟩
  ·have hkl:k=ks.length+ws.length:=by omega
   subst hkl
   go_wp2_with fail
   exact HE.out _ _ _ _ _ _ _ _ _ _ _ _ _ _ _ _ _ _ _ _ _ _ _ _ _ _ _ _ _ _ _ _ _ _ _ _ _ _ _ _ _ _ _ _ wr t gs vs ⟨ho,hsz,hfold,b8,b10,hown,hti,hpos,om_⟩
end Go.Proofs.YtbapgefodmmikaaGreatDoor
