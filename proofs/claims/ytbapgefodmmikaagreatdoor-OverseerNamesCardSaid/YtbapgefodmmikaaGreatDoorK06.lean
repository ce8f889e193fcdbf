/- Parts of a proof. -/
import Derived.Test.YtbapgefodmmikaaGreatDoorKMin
import Derived.Test.YtbapgefodmmikaaGreatDoorK05
import Derived.WalkSpells
import Derived.Test.YtbapgefodmmikaaGreatDoorK05
set_option linter.unusedVariables false
set_option linter.unusedSimpArgs false
set_option maxHeartbeats 40000000
set_option maxRecDepth 100000
namespace Go.Proofs.YtbapgefodmmikaaGreatDoor
open Go.RowKit Go.Proofs Go.Ord Tryz
attribute [local irreducible] Ord.walk
structure GEnv (W:World) (v nb bt gp gb gc V:Nat) (t:Ti) (gs:List Gr):Prop where
 b3:Blk W nb #[.pointer v] 143
 vV:W.cell? ⟨v,0,none⟩=some (.int .i64 V)
 b8:Blk W bt (Zaj t) 240
 b10:Blk W gp #[.slice gb gs.length gc] 242
 bg:GrAt W gb gs
 hg1:0 < gs.length
theorem GEnv.off {W W':World}{T:List Nat}{v nb bt gp gb gc V:Nat}{t:Ti}{gs:List Gr}(h:GEnv W v nb bt gp gb gc V t gs) (ho:Off T W.heap.size W W') (hT:∀ k∈T,NoC W k):GEnv W' v nb bt gp gb gc V t gs:=by
 have hblk:∀ {b:Nat}{A:Array Value}{u:TypeId},Blk W b A u→b ∉ T:=fun hb e=>(hT _ e).blk hb rfl
 have hcel:∀ {a:Addr}{x:Value},W.cell? a=some x→a.block ∉ T:=fun hc e=>(hT _ e).cell hc rfl
 obtain ⟨b,o,h0,h1,-⟩:=h.bg 0 h.hg1
 simp only [Option.some.injEq,Addr.mk.injEq] at h0
 obtain ⟨rfl,-,-⟩:=h0
 exact ⟨ho.blk h.b3 h.b3.lt (hblk h.b3),(ho.cell (bl_ W _ h.vV) (hcel h.vV)).trans h.vV,ho.blk h.b8 h.b8.lt (hblk h.b8),ho.blk h.b10 h.b10.lt (hblk h.b10),
  h.bg.off ho (bl_ W _ h1) (hcel h1),h.hg1⟩
theorem GEnv.renv {W:World}{v nb bt gp gb gc V:Nat}{t:Ti}{gs:List Gr}(h:GEnv W v nb bt gp gb gc V t gs) {fb first:Nat}(hb:Blk W fb #[first] 3):REnv W v nb bt gp gb gc fb V first t gs:=⟨h.b3,h.vV,h.b8,h.b10,h.bg,h.hg1,hb⟩
theorem Zer (gs:List Gr) (t:Ti) (V k:Nat):(Zav gs t V k).length≤2 ^ k:=by
 induction k with
 | zero=>simp [Zav]
 | succ k ih =>
  rw [Zav,Nat.pow_succ]
  split
  ·have:=Zn0 (fun x=>[Zai gs t V k false x,Zai gs t V k true x]) 2 (Zav gs t V k) (fun q _=>sp_)
   omega
  ·omega
theorem Zwa {u0 u1 u2 u4 u5 u6 u7 u9 u11 u12 u13 u14 u16 u17 u18 u19 u20 u21 u22 u23 u24 u25 u26 u27 u28 u29 u30 u31 u32 u33 u34 u35 u36 u37 u38 u39 u40 u41 u42 u43 u44 u45 u46 u47 u48 u49 u50 u51 u52 u53 u54 u55 u56 u57 u58 u59 u60 u61 u62 u63 u64 u65 u66 u67 u68 u69 u70 u71 u72 u73 u74 u75 u76 u77 u78 u79 u80 u81 u82 u83 u84 u85 u86 u87 u88 u89 u90 u91 u92 u93 u94 u95 u96 u97 u98 u99 u100 u101 u102 u103 u104 u105 u106 u107 u108 u109 u112 u113 u114 u115 u116 u117 u118 u119 u120 u121 u122 u123 u124 u125 u126 u127 u128 u129 u130 u131 u132 u133 u134 u135 u136 u137 u138 u139 u140 u141 u142 u143 u144 u145 u146 u147 u148 u149 u150 u151 u152 u153 u154 u155 u156 u157 u158 u159 u160 u161 u162 u163 u164 u165 u166 u167 u168 u169 u170 u171 u172 u173 u174 u175 u176 u177 u178 u179 u180 u181 u182 u183 u184 u185 u186 u187 u188 u189 u190:Value}{ds:List Deferred}(Q:Exit→Act→World→Prop) (hP:∀ c a w,¬ Q (.panic c) a w) (W:World) (base v nb V bt gp gb gc sm:Nat) (t:Ti) (gs:List Gr) (l0:List (SL × Nat))
  (hV:V≤8) (hgl:gs.length≤7) (hvo:∀ g∈gs,g.1 < 2 ^ 62)
  (env:GEnv W v nb bt gp gb gc V t gs) (hm:MapIs W sm l0) (hl0:Rep l0 (Zav gs t V 0)) (hk0:∀ p∈l0,∀ i∈p.1,i≤0) (hll0:l0.length≤1) (hmk:Marks base ds W) (hbase:base≤W.heap.size)
  (hexit:∀ ds' (x16 x17 x18 x19 x111 x112 x113 x114 x115 x116 x117 x118 x119 x120 x121 x122 x123 x124 x125 x126 x127 x128 x166 x167:Value) W' sm' l,Marks base ds' W'→Off [] W.heap.size W W'→MapIs W' sm' l→Rep l (Zav gs t V V)→l.length≤256→sm≤sm' →
   Q (.exit 2) ⟨(u0 :: u1 :: u2 :: .pointer nb :: u4 :: u5 :: u6 :: u7 :: .pointer bt :: u9 :: .pointer gp :: u11 :: u12 :: u13 :: u14 :: .map (some sm') :: x16 :: x17 :: x18 :: x19 :: u20 :: u21 :: u22 :: u23 :: u24 :: u25 :: u26 :: u27 :: u28 :: u29 :: u30 :: u31 :: u32 :: u33 :: u34 :: u35 :: u36 :: u37 :: u38 :: u39 :: u40 :: u41 :: u42 :: u43 :: u44 :: u45 :: u46 :: u47 :: u48 :: u49 :: u50 :: u51 :: u52 :: u53 :: u54 :: u55 :: u56 :: u57 :: u58 :: u59 :: u60 :: u61 :: u62 :: u63 :: u64 :: u65 :: u66 :: u67 :: u68 :: u69 :: u70 :: u71 :: u72 :: u73 :: u74 :: u75 :: u76 :: u77 :: u78 :: u79 :: u80 :: u81 :: u82 :: u83 :: u84 :: u85 :: u86 :: u87 :: u88 :: u89 :: u90 :: u91 :: u92 :: u93 :: u94 :: u95 :: u96 :: u97 :: u98 :: u99 :: u100 :: u101 :: u102 :: u103 :: u104 :: u105 :: u106 :: u107 :: u108 :: u109 :: ↑V :: x111 :: x112 :: x113 :: x114 :: x115 :: x116 :: x117 :: x118 :: x119 :: x120 :: x121 :: x122 :: x123 :: x124 :: x125 :: x126 :: x127 :: x128 :: u129 :: u130 :: u131 :: u132 :: u133 :: u134 :: u135 :: u136 :: u137 :: u138 :: u139 :: u140 :: u141 :: u142 :: u143 :: u144 :: u145 :: u146 :: u147 :: u148 :: u149 :: u150 :: u151 :: u152 :: u153 :: u154 :: u155 :: u156 :: u157 :: u158 :: u159 :: u160 :: u161 :: u162 :: u163 :: u164 :: u165 :: x166 :: x167 :: u168 :: u169 :: u170 :: u171 :: u172 :: u173 :: u174 :: u175 :: u176 :: u177 :: u178 :: u179 :: u180 :: u181 :: u182 :: u183 :: u184 :: u185 :: u186 :: u187 :: u188 :: u189 :: u190 :: []).toArray,ds'⟩ W') :
  cB.wp prog Q ⟨(u0 :: u1 :: u2 :: .pointer nb :: u4 :: u5 :: u6 :: u7 :: .pointer bt :: u9 :: .pointer gp :: u11 :: u12 :: u13 :: u14 :: .map (some sm) :: u16 :: u17 :: u18 :: u19 :: u20 :: u21 :: u22 :: u23 :: u24 :: u25 :: u26 :: u27 :: u28 :: u29 :: u30 :: u31 :: u32 :: u33 :: u34 :: u35 :: u36 :: u37 :: u38 :: u39 :: u40 :: u41 :: u42 :: u43 :: u44 :: u45 :: u46 :: u47 :: u48 :: u49 :: u50 :: u51 :: u52 :: u53 :: u54 :: u55 :: u56 :: u57 :: u58 :: u59 :: u60 :: u61 :: u62 :: u63 :: u64 :: u65 :: u66 :: u67 :: u68 :: u69 :: u70 :: u71 :: u72 :: u73 :: u74 :: u75 :: u76 :: u77 :: u78 :: u79 :: u80 :: u81 :: u82 :: u83 :: u84 :: u85 :: u86 :: u87 :: u88 :: u89 :: u90 :: u91 :: u92 :: u93 :: u94 :: u95 :: u96 :: u97 :: u98 :: u99 :: u100 :: u101 :: u102 :: u103 :: u104 :: u105 :: u106 :: u107 :: u108 :: u109 :: ↑V :: ↑() :: u112 :: u113 :: u114 :: u115 :: u116 :: u117 :: u118 :: u119 :: u120 :: u121 :: u122 :: u123 :: u124 :: u125 :: u126 :: u127 :: u128 :: u129 :: u130 :: u131 :: u132 :: u133 :: u134 :: u135 :: u136 :: u137 :: u138 :: u139 :: u140 :: u141 :: u142 :: u143 :: u144 :: u145 :: u146 :: u147 :: u148 :: u149 :: u150 :: u151 :: u152 :: u153 :: u154 :: u155 :: u156 :: u157 :: u158 :: u159 :: u160 :: u161 :: u162 :: u163 :: u164 :: u165 :: u166 :: u167 :: u168 :: u169 :: u170 :: u171 :: u172 :: u173 :: u174 :: u175 :: u176 :: u177 :: u178 :: u179 :: u180 :: u181 :: u182 :: u183 :: u184 :: u185 :: u186 :: u187 :: u188 :: u189 :: u190 :: []).toArray,ds⟩ W:=by
 have hcode:cB=.loop (sI cB):=rfl
 rw [hcode]
 have HE:=hd_ hexit
 clear hexit
 refine wp_loop (fun a w=>∃ (x15 x16 x17 x18 x19 x111 x112 x113 x114 x115 x116 x117 x118 x119 x120 x121 x122 x123 x124 x125 x126 x127 x128 x166 x167:Value) (ds':List Deferred) (k sm':Nat) (l:List (SL × Nat)),
  ((k≤V∧x111=↑k∧x15=.map (some sm')∧sm≤sm')∧Marks base ds' w∧Off [] W.heap.size W w∧MapIs w sm' l∧Rep l (Zav gs t V k)∧(∀ p∈l,∀ i∈p.1,i≤8 * k)∧l.length≤2 ^ k) ∧
  a=⟨(u0 :: u1 :: u2 :: .pointer nb :: u4 :: u5 :: u6 :: u7 :: .pointer bt :: u9 :: .pointer gp :: u11 :: u12 :: u13 :: u14 :: x15 :: x16 :: x17 :: x18 :: x19 :: u20 :: u21 :: u22 :: u23 :: u24 :: u25 :: u26 :: u27 :: u28 :: u29 :: u30 :: u31 :: u32 :: u33 :: u34 :: u35 :: u36 :: u37 :: u38 :: u39 :: u40 :: u41 :: u42 :: u43 :: u44 :: u45 :: u46 :: u47 :: u48 :: u49 :: u50 :: u51 :: u52 :: u53 :: u54 :: u55 :: u56 :: u57 :: u58 :: u59 :: u60 :: u61 :: u62 :: u63 :: u64 :: u65 :: u66 :: u67 :: u68 :: u69 :: u70 :: u71 :: u72 :: u73 :: u74 :: u75 :: u76 :: u77 :: u78 :: u79 :: u80 :: u81 :: u82 :: u83 :: u84 :: u85 :: u86 :: u87 :: u88 :: u89 :: u90 :: u91 :: u92 :: u93 :: u94 :: u95 :: u96 :: u97 :: u98 :: u99 :: u100 :: u101 :: u102 :: u103 :: u104 :: u105 :: u106 :: u107 :: u108 :: u109 :: ↑V :: x111 :: x112 :: x113 :: x114 :: x115 :: x116 :: x117 :: x118 :: x119 :: x120 :: x121 :: x122 :: x123 :: x124 :: x125 :: x126 :: x127 :: x128 :: u129 :: u130 :: u131 :: u132 :: u133 :: u134 :: u135 :: u136 :: u137 :: u138 :: u139 :: u140 :: u141 :: u142 :: u143 :: u144 :: u145 :: u146 :: u147 :: u148 :: u149 :: u150 :: u151 :: u152 :: u153 :: u154 :: u155 :: u156 :: u157 :: u158 :: u159 :: u160 :: u161 :: u162 :: u163 :: u164 :: u165 :: x166 :: x167 :: u168 :: u169 :: u170 :: u171 :: u172 :: u173 :: u174 :: u175 :: u176 :: u177 :: u178 :: u179 :: u180 :: u181 :: u182 :: u183 :: u184 :: u185 :: u186 :: u187 :: u188 :: u189 :: u190 :: []).toArray,ds'⟩) (fun a _=>V - (intOf (a.tmps.getD 111 undef)).toNat)
  ⟨_,u16,u17,u18,u19,_,u112,u113,u114,u115,u116,u117,u118,u119,u120,u121,u122,u123,u124,u125,u126,u127,u128,u166,u167,ds,0,sm,l0,⟨⟨om_,rfl,rfl,Nat.le_refl _⟩,hmk,Off.refl _ _ _,hm,hl0,by simpa using hk0,by simpa using hll0⟩,rfl⟩ ?_
 rintro a w ⟨x15,x16,x17,x18,x19,x111,x112,x113,x114,x115,x116,x117,x118,x119,x120,x121,x122,x123,x124,x125,x126,x127,x128,x166,x167,ds',k,sm',l,⟨⟨hk,rfl,rfl,hsmle⟩,hmk,ho,hm,hl,hkb,hll⟩,rfl⟩
 have env:=env.off ho sp_
 have hos:=ho.size
 have hmlt:=hm.lt
 have hp2:2 ^ k≤256:=by have:=Nat.pow_le_pow_right (show 0 < 2 by omega) (show k≤8 by omega);simpa using this
 have hSl:(Zav gs t V k).length≤256:=Nat.le_trans (Zer gs t V k) hp2
 conv=>arg 2;whnf
 by_cases hlt:k < V
 ·have hlti:(k:Int) < V:=by omega
  have hk8:(k:Int) < 8:=by omega
  have hc1:=Zd7 t k om_
  have hix:=Zhm t k om_
  have HST:Hid (Zav gs t V (k+1)=if (t k).1=k then (Zav gs t V k).flatMap fun x=>[Zai gs t V k false x,Zai gs t V k true x] else Zav gs t V k):=rfl
  have r8:=env.b8.cell
  generalize Zaj t=TC at hc1 hix r8
  go_wp2_with fail
  obtain ⟨w3,hw3⟩:∃ w3,w3=w.alloc (.cells #[k] 3):=⟨_,rfl⟩
  have b16:Blk w3 w.heap.size #[k] 3:=by rw [hw3];exact Blk.new _ _ _
  have ho3:Off [] w.heap.size w w3:=by rw [hw3];exact (Off.refl _ _ _).alloc nl_ _
  have hs3:w3.heap.size=w.heap.size+1:=by rw [hw3];simp
  rw [← hw3]
  clear hw3
  have env3:=env.off ho3 sp_
  have hm3:=ho3.map hm hmlt sp_
  have hmk3:=hmk.off ho3 sp_
  have c16:=b16.cell
  have c8:∀ o,w3.cell? ⟨bt,o,none⟩=w.cell? ⟨bt,o,none⟩:=fun o=>ho3.cell (a:=⟨bt,o,none⟩) env.b8.lt sp_
  generalize hws:w.heap.size=fb at *
  have HWS:=hd_ hws
  have HS3:=hd_ hs3
  clear hws hs3
  by_cases hf:(t k).1=k
  ·have hfi:(((t k).1:Int) != (k:Int))=false:=by simp [hf]
   have hst:=HST.out
   rw [if_pos hf] at hst
   clear HST hf
   have HS:=hd_ hst
   clear hst
   refine Ord.wp_region [(0,0),(1,0),(2,0),(3,0),(4,0),(5,0)] (fun _=>True) kr_ kr_ (fun c a d v w h=>(hP _ _ _ h).elim) trivial ?_
   have hmm:=@run_makeMap prog
   go_wp2_with (first
    | (refine Zel (.tmp 121) rfl rfl rfl ((hm3.alloc _).alloc _).drew ?_;intro w4 hw4 hit4 hm4;have HW4:=hd_ hw4;clear hw4)
    | (refine o_ ?_;intro K hK)|(with_reducible first|refine Zxn ?_ ?_|refine Zxi ?_|refine Zxe bn_ (fun _=>?_)))
   have hw4:=HW4.out
   have hs3:=HS3.out
   have hws:=HWS.out
   have e17:Blk w4 (w3.heap.size+1) #[.map (some w3.heap.size)] 249:=by rw [hw4];exact ((Blk.new' _ _ _ _ sp_).drew).alloc _
   have hmn4:MapIs w4 w3.heap.size []:=by rw [hw4];exact ((((MapIs.new w3).alloc _).drew).alloc _)
   have ho4:Off [] w3.heap.size w3 w4:=by rw [hw4];exact ((((Off.refl _ _ _).alloc nl_ _).alloc sp_ _).drew).alloc (by simp;omega) _
   have hs4:w4.heap.size=w3.heap.size+3:=by rw [hw4];simp
   have hr:((w3.alloc (.map #[] 0)).alloc (.cells #[.map (some w3.heap.size)] 249)).drew.heap.size=w3.heap.size+2:=by simp
   rw [hr] at hit4
   have env4:=(env3.off ho4 sp_).renv (ho4.blk b16 b16.lt sp_)
   have hmk4:=hmk3.off ho4 sp_
   have HS4:=hd_ hs4
   have HR:=hd_ hr
   have hml3:=hm3.lt
   clear hw4 HW4 hs3 hws hs4 hr
   go_wp2_with fail
   have hws:=HWS.out
   have hs3:=HS3.out
   have hs4:=HS4.out
   go_frame
   rw [HR.out]
   refine Zw9 _ w4 base v nb V bt gp gb gc fb (w3.heap.size+1) (w3.heap.size+2) sm' w3.heap.size k (8 * k) t gs l (Zav gs t V k) hV hgl hvo om_ env4 e17 hl hSl om_ hkb om_
    ⟨hmk4,Off.refl _ _ _,hit4,List.nodup_nil,sp_,hm4,hmn4,Rep.nil,sp_,sp_⟩ om_ ?_
   intro ds5 y18 y19 y123 y124 y125 y126 y127 y128 w5 cur hmk5 ho5 hmn5 hl5 hkb5 hll5
   have c17:=(ho5.blk e17 om_ sp_).cell
   have HO5:Off [] W.heap.size W w5:=ho.trans ((ho3.mono om_ sp_).trans ((ho4.mono om_ sp_).trans (ho5.mono om_ (by simp;omega))))
   clear hs3 hs4 hws
   go_wp2_with fail
   refine ⟨⟨_,_,_,_,_,_,_,_,_,_,_,_,_,_,_,_,_,_,_,_,_,_,_,_,_,ds5,k+1,w3.heap.size,cur,⟨⟨om_,by go_num,rfl,by have:=HWS.out;have:=HS3.out;omega⟩,hmk5,HO5,hmn5,by rw [HS.out];exact hl5,fun p hp i hi=>by have:=hkb5 p hp i hi;omega,by rw [Nat.pow_succ];omega⟩,rfl⟩,by simp [intOf];omega⟩
  ·have hfi:(((t k).1:Int) != (k:Int))=true:=by simp;omega
   have hst:=HST.out
   rw [if_neg hf] at hst
   clear HST hf
   have HS:=hd_ hst
   clear hst
   refine Ord.wp_region [(0,0),(1,0),(2,0),(3,0),(4,0),(5,0)] (fun _=>True) kr_ kr_ (fun c a d v w h=>(hP _ _ _ h).elim) trivial ?_
   go_wp2_with (first|(refine o_ ?_;intro K hK)|(with_reducible first|refine Zxn ?_ ?_|refine Zxi ?_|refine Zxe bn_ (fun _=>?_)))
   refine ⟨⟨_,_,_,_,_,_,_,_,_,_,_,_,_,_,_,_,_,_,_,_,_,_,_,_,_,ds',k+1,sm',l,⟨⟨om_,by go_num,rfl,hsmle⟩,hmk3,(ho.trans (ho3.mono (by have:=HWS.out;omega) sp_)).drew,hm3.drew,by rw [HS.out];exact hl,fun p hp i hi=>by have:=hkb p hp i hi;omega,by rw [Nat.pow_succ];omega⟩,rfl⟩,by simp [intOf];omega⟩
 ·have hkl:k=V:=by omega
  subst hkl
  go_wp2_with fail
  exact HE.out _ _ _ _ _ _ _ _ _ _ _ _ _ _ _ _ _ _ _ _ _ _ _ _ _ _ _ _ hmk ho hm hl om_ hsmle
def Zay (c:Nat→Nat):Array Value:=#[(c 0),(c 1),(c 2),(c 3),(c 4),(c 5),(c 6),(c 7),(c 8)]
theorem Zv4 (c:Nat→Nat) (i:Nat) (h:i < 9):(Zay c)[i]? = some (.int .i64 (c i)):=Zp1 c i h
theorem Zt2 (c:Nat→Nat) (i n:Nat) (h:i < 9):(Zay c).setIfInBounds i ↑n=Zay (fun j=>if j=i then n else c j):=by
 rcases (show i=0∨i=1∨i=2∨i=3∨i=4∨i=5∨i=6∨i=7∨i=8 by omega) with rfl|rfl|rfl|rfl|rfl|rfl|rfl|rfl|rfl <;> simp [Zay]
theorem Zqf {x:SL}(h:x.length=7):(Zao x)[0]? = some (.int .i64 (f7 x 0)):=by
 rw [← Zes x h];rfl
theorem outN_add (gs:List Gr) (S:List SL) (x:SL) (n j:Nat):outN gs (S ++ List.replicate n x) j=outN gs S j+if Zik gs (f7 x)=true∧f7 x 0=j then n else 0:=by
 unfold outN
 rw [List.countP_append,List.countP_replicate]
 congr 1
 simp only [Bool.and_eq_true,beq_iff_eq]
theorem Zod {gs:List Gr}{S T:List SL}(h:S.Perm T) (j:Nat):outN gs S j=outN gs T j:=h.countP_eq _
theorem Zv2 (gs:List Gr) (S:List SL) (j:Nat):outN gs S j≤S.length:=List.countP_le_length
def been (l:List (SL × Nat)) (seen:List Nat):List SL:=(seen.map fun i=>l.getD i ([],0)).flatMap fun p=>List.replicate p.2 p.1
theorem Zwr {l:List (SL × Nat)}{seen:List Nat}{i:Nat}{p:SL × Nat}(hp:l[i]? = some p):been l (seen ++ [i])=been l seen ++ List.replicate p.2 p.1:=by
 unfold been
 have:l.getD i ([],0)=p:=by rw [List.getD_eq_getElem?_getD,hp];rfl
 rw [List.map_append,List.flatMap_append,List.map_singleton,List.flatMap_singleton,this]
structure L5 (gs:List Gr) (W:World) (ob r sm:Nat) (l:List (SL × Nat)) (w:World) (seen:List Nat):Prop where
 off:Off [ob,r] W.heap.size W w
 it:IterIs w r sm l.length seen
 nd:seen.Nodup
 lt:∀ i∈seen,i < l.length
 src:MapIs w sm l
 out:Blk w ob (Zay (outN gs (been l seen))) 142
theorem been_len {l:List (SL × Nat)}{S:List SL}(hl:Rep l S) (hS:S.length≤256) (hll:l.length≤256) {seen:List Nat}(hn:seen.Nodup) (hlt:∀ i∈seen,i < l.length):(been l seen).length≤256 * 256:=by
 have h4:=Zn0 (fun p:SL × Nat=>List.replicate p.2 p.1) 256 (seen.map fun i=>l.getD i ([],0)) (fun q hq=>by
  obtain ⟨i,hi,rfl⟩:=List.mem_map.1 hq
  have hil:=hlt i hi
  have:l[i]? = some (l.getD i ([],0)):=by rw [List.getD_eq_getElem?_getD];simp [hil]
  have h6:=hl.val_le this
  rw [List.length_replicate];omega)
 rw [List.length_map] at h4
 have h2:=Zgp hn hlt
 have h5:seen.length * 256≤256 * 256:=Nat.mul_le_mul_right _ om_
 exact Nat.le_trans h4 h5
theorem L5.done {gs:List Gr}{W:World}{ob r sm:Nat}{l:List (SL × Nat)}{w:World}{seen:List Nat}{S:List SL}(h:L5 gs W ob r sm l w seen) (hl:Rep l S) (hall:∀ i,i < l.length→i∈seen):outN gs (been l seen)=outN gs S:=by
 funext j
 have h1:=(Zo6 l ([],0) seen h.nd h.lt hall).flatMap_right fun p:SL × Nat=>List.replicate p.2 p.1
 exact Zod (h1.trans hl.expand) j
theorem L5.step {gs:List Gr}{W:World}{ob r sm:Nat}{l:List (SL × Nat)}{w w':World}{seen:List Nat}{i:Nat}{p:SL × Nat}(h:L5 gs W ob r sm l w seen) (hp:l[i]? = some p) (hi:i ∉ seen)
  (ho:Off [ob,r] W.heap.size W w') (hit:IterIs w' r sm l.length (seen ++ [i])) (hs:MapIs w' sm l) (hb:Blk w' ob (Zay (fun j=>outN gs (been l seen) j+if Zik gs (f7 p.1)=true∧f7 p.1 0=j then p.2 else 0)) 142):L5 gs W ob r sm l w' (seen ++ [i]):=by
 have hil:=(List.getElem?_eq_some_iff.1 hp).1
 refine ⟨ho,hit,?_,?_,hs,?_⟩
 ·exact Q2u
 ·intro j hj
  rcases List.mem_append.1 hj with hj|hj
  ·exact h.lt j hj
  ·simp at hj;omega
 ·have:(outN gs (been l (seen ++ [i])))=fun j=>outN gs (been l seen) j+if Zik gs (f7 p.1)=true∧f7 p.1 0=j then p.2 else 0:=by
   funext j
   rw [Zwr hp,outN_add]
  rw [this];exact hb
theorem Zw1 {gs:List Gr}{s:St}{g:Gr}(h:Zik gs s=true) (h0:gs[0]? = some g):(s 0:Int)≤g.2.2:=by
 unfold Zik Zf0 at h
 rw [List.all_eq_true] at h
 have hl:=(List.getElem?_eq_some_iff.1 h0).1
 have:=h 0 (List.mem_range.2 hl)
 simp only [h0] at this
 unfold inB at this
 simp at this
 exact this.2
theorem _root_.Q2l {p:Prop}(h:p:=by
 rcases Nat.eq_zero_or_pos gs.length with h|h
 ·rw [List.length_eq_zero_iff.1 h] at hg00;cases hg00
 ·exact h):p:=h
theorem Zw7 {u0 u1 u2 u3 u4 u5 u7 u8 u9 u11 u12 u13 u14 u15 u16 u17 u18 u19 u20 u21 u22 u23 u24 u25 u26 u27 u28 u29 u30 u31 u32 u33 u34 u35 u36 u37 u38 u39 u40 u41 u42 u43 u44 u45 u46 u47 u48 u49 u50 u51 u52 u53 u54 u55 u56 u57 u58 u59 u60 u61 u62 u63 u64 u65 u66 u67 u68 u69 u70 u71 u72 u73 u74 u75 u76 u77 u78 u79 u80 u81 u82 u83 u84 u85 u86 u87 u88 u89 u90 u91 u92 u93 u94 u95 u96 u97 u98 u99 u100 u101 u102 u103 u104 u105 u106 u107 u108 u109 u110 u111 u112 u113 u114 u115 u116 u117 u118 u119 u120 u121 u122 u123 u124 u125 u126 u127 u128 u129 u130 u131 u132 u133 u134 u135 u136 u137 u138 u139 u140 u141 u142 u143 u144 u145 u146 u147 u148 u149 u150 u151 u152 u153 u154 u155 u156 u157 u158 u159 u160 u161 u162 u163 u164 u165 u166 u167 u168 u170 u171 u172 u173 u174 u175 u176 u177 u178 u179 u180 u181 u182 u183 u184 u185 u186 u187 u188 u189 u190:Value}{ds:List Deferred}(Q:Exit→Act→World→Prop) (hP:∀ c a w,¬ Q (.panic c) a w) (W:World) (ob gp gb gc r sm:Nat) (gs:List Gr) (l:List (SL × Nat)) (S:List SL)
  (hgl:gs.length≤7) (hg0:∃ g,gs[0]? = some g∧0≤g.2.1∧g.2.2≤8)
  (b10:Blk W gp #[.slice gb gs.length gc] 242) (bg:GrAt W gb gs) (d1:gp≠ob) (d2:gb≠ob)
  (hl:Rep l S) (hS:S.length≤256) (hll:l.length≤256)
  (h0:L5 gs W ob r sm l W [])
  (hexit:∀ (x23 x24 x170 x171 x172 x173 x174 x175 x176 x177 x178 x179 x180 x181 x182 x183 x184 x185 x186 x187 x188 x189:Value) W',Off [ob,r] W.heap.size W W'→Blk W' ob (Zay (outN gs S)) 142 →
   Q (.exit 10) ⟨(u0 :: u1 :: u2 :: u3 :: u4 :: u5 :: .pointer ob :: u7 :: u8 :: u9 :: .pointer gp :: u11 :: u12 :: u13 :: u14 :: u15 :: u16 :: u17 :: u18 :: u19 :: u20 :: u21 :: u22 :: x23 :: x24 :: u25 :: u26 :: u27 :: u28 :: u29 :: u30 :: u31 :: u32 :: u33 :: u34 :: u35 :: u36 :: u37 :: u38 :: u39 :: u40 :: u41 :: u42 :: u43 :: u44 :: u45 :: u46 :: u47 :: u48 :: u49 :: u50 :: u51 :: u52 :: u53 :: u54 :: u55 :: u56 :: u57 :: u58 :: u59 :: u60 :: u61 :: u62 :: u63 :: u64 :: u65 :: u66 :: u67 :: u68 :: u69 :: u70 :: u71 :: u72 :: u73 :: u74 :: u75 :: u76 :: u77 :: u78 :: u79 :: u80 :: u81 :: u82 :: u83 :: u84 :: u85 :: u86 :: u87 :: u88 :: u89 :: u90 :: u91 :: u92 :: u93 :: u94 :: u95 :: u96 :: u97 :: u98 :: u99 :: u100 :: u101 :: u102 :: u103 :: u104 :: u105 :: u106 :: u107 :: u108 :: u109 :: u110 :: u111 :: u112 :: u113 :: u114 :: u115 :: u116 :: u117 :: u118 :: u119 :: u120 :: u121 :: u122 :: u123 :: u124 :: u125 :: u126 :: u127 :: u128 :: u129 :: u130 :: u131 :: u132 :: u133 :: u134 :: u135 :: u136 :: u137 :: u138 :: u139 :: u140 :: u141 :: u142 :: u143 :: u144 :: u145 :: u146 :: u147 :: u148 :: u149 :: u150 :: u151 :: u152 :: u153 :: u154 :: u155 :: u156 :: u157 :: u158 :: u159 :: u160 :: u161 :: u162 :: u163 :: u164 :: u165 :: u166 :: u167 :: u168 :: .pointer r :: x170 :: x171 :: x172 :: x173 :: x174 :: x175 :: x176 :: x177 :: x178 :: x179 :: x180 :: x181 :: x182 :: x183 :: x184 :: x185 :: x186 :: x187 :: x188 :: x189 :: u190 :: []).toArray,ds⟩ W') :
  cE.wp prog Q ⟨(u0 :: u1 :: u2 :: u3 :: u4 :: u5 :: .pointer ob :: u7 :: u8 :: u9 :: .pointer gp :: u11 :: u12 :: u13 :: u14 :: u15 :: u16 :: u17 :: u18 :: u19 :: u20 :: u21 :: u22 :: u23 :: u24 :: u25 :: u26 :: u27 :: u28 :: u29 :: u30 :: u31 :: u32 :: u33 :: u34 :: u35 :: u36 :: u37 :: u38 :: u39 :: u40 :: u41 :: u42 :: u43 :: u44 :: u45 :: u46 :: u47 :: u48 :: u49 :: u50 :: u51 :: u52 :: u53 :: u54 :: u55 :: u56 :: u57 :: u58 :: u59 :: u60 :: u61 :: u62 :: u63 :: u64 :: u65 :: u66 :: u67 :: u68 :: u69 :: u70 :: u71 :: u72 :: u73 :: u74 :: u75 :: u76 :: u77 :: u78 :: u79 :: u80 :: u81 :: u82 :: u83 :: u84 :: u85 :: u86 :: u87 :: u88 :: u89 :: u90 :: u91 :: u92 :: u93 :: u94 :: u95 :: u96 :: u97 :: u98 :: u99 :: u100 :: u101 :: u102 :: u103 :: u104 :: u105 :: u106 :: u107 :: u108 :: u109 :: u110 :: u111 :: u112 :: u113 :: u114 :: u115 :: u116 :: u117 :: u118 :: u119 :: u120 :: u121 :: u122 :: u123 :: u124 :: u125 :: u126 :: u127 :: u128 :: u129 :: u130 :: u131 :: u132 :: u133 :: u134 :: u135 :: u136 :: u137 :: u138 :: u139 :: u140 :: u141 :: u142 :: u143 :: u144 :: u145 :: u146 :: u147 :: u148 :: u149 :: u150 :: u151 :: u152 :: u153 :: u154 :: u155 :: u156 :: u157 :: u158 :: u159 :: u160 :: u161 :: u162 :: u163 :: u164 :: u165 :: u166 :: u167 :: u168 :: .pointer r :: u170 :: u171 :: u172 :: u173 :: u174 :: u175 :: u176 :: u177 :: u178 :: u179 :: u180 :: u181 :: u182 :: u183 :: u184 :: u185 :: u186 :: u187 :: u188 :: u189 :: u190 :: []).toArray,ds⟩ W:=by
 have HE:=hd_ hexit
 clear hexit
 obtain ⟨g0,hg00,hlo,hhi⟩:=hg0
 have hgb:gb < W.heap.size:=by
  have hp:0 < gs.length:=Q2l
  obtain ⟨b,o,h0,h1,-⟩:=bg 0 hp
  simp only [Option.some.injEq,Addr.mk.injEq] at h0
  obtain ⟨rfl,-,-⟩:=h0
  exact bl_ W _ h1
 have hr:r < W.heap.size:=h0.it.lt
 have hrC:NoC W r:=h0.it.noC
 have hrg:gb≠r:=by
  intro e
  have hp:0 < gs.length:=Q2l
  obtain ⟨b,o,h0,h1,-⟩:=bg 0 hp
  simp only [Option.some.injEq,Addr.mk.injEq] at h0
  obtain ⟨rfl,-,-⟩:=h0
  exact hrC.cell h1 e
 have hrp:=hrC.blk b10
 have hro:=hrC.blk h0.out
 have lt10:=b10.lt
 conv=>arg 2;whnf
 go_loopw [170] (fun _ wr=>∃ seen,L5 gs W ob r sm l wr seen) (fun _ wr=>l.length - Zj8 wr r)
 case atStart=>exact ⟨[],h0⟩
 case round =>
  clear h0
  obtain ⟨seen,h⟩:=hrel
  have e10:=h.off.blk b10 lt10 (by simp;exact ⟨d1,hrp⟩)
  have eg:=bg.off h.off hgb (by simp;exact ⟨d2,hrg⟩)
  have hit:=h.it
  have hsrc:=h.src
  have hlen:=hit.len
  have r10:=e10.cell
  have ltr:=hit.lt
  have lto:=h.out.lt
  have hos:=h.off.size
  have HQ7:Hid (∀ p∈l,(Zao p.1).size=7∧(Zao p.1).all (·.oneCell')=true):=Q2d
  go_wp2_with (first
   | (refine Zg1 (.tmp 169) rfl rfl rfl hit hsrc ?_ ?_;intro hall;have HALL:=hd_ hall;clear hall;rotate_left;intro i p w1 hp hni ht1 hit1 hs1 hen;have q1:=(HQ7.out p (List.mem_of_getElem? hp)).1;have q2:=(HQ7.out p (List.mem_of_getElem? hp)).2;have HT1:=hd_ ht1;clear ht1;have HP:=hd_ hp;clear hp;have HNI:=hd_ hni;clear hni)
   | (refine Za1 248 (.tmp 23) (.tmp 173) Zek rfl rfl rfl rfl (Blk.new _ _ _) rfl q1 q2 ?_;intro w5 h5;have g10:=h5.other ((HT1.out.blk e10 hrp).alloc _) (by have:=HT1.out.size;omega);have c10:=g10.cell)
   | (refine Za0 248 (.tmp 23) Zek rfl rfl rfl h5.blk q1 ?_))
  ·have hz1:w1.heap.size=wr.heap.size:=HT1.out.size
   have ho5:Off [r] wr.heap.size wr w5:=(((Off.refl _ _ _).turn HT1.out (.inl sp_)).alloc om_ _).rowed h5 (.inr om_)
   have b23:=h5.blk
   have hz5:w5.heap.size=w1.heap.size+1:=by rw [h5.size];simp
   have bg5:=eg.off ho5 om_ (by simpa using hrg)
   have hp7:=(hl.1.1 p (List.mem_of_getElem? HP.out)).1
   have hfit:=b_sfits (f7 p.1) gb gc gs hgl w5 bg5
   rw [Zes p.1 hp7] at hfit
   refine hfit.mono ?_
   clear hfit
   rintro e w6 ⟨rfl,hb6⟩
   have ho6:=Off.of_below (T:=[]) hb6 nl_
   have hO:Off [r] wr.heap.size wr w6:=ho5.trans (ho6.mono om_ sp_)
   have hO2:Off [ob,r] W.heap.size W w6:=h.off.trans (hO.mono om_ (by simp;intro k _ e;exact .inr e))
   have ho16:Off [] w1.heap.size w1 w6:=(((Off.refl [] w1.heap.size w1).alloc nl_ _).rowed h5 (.inr nl_)).trans (ho6.mono om_ sp_)
   have hit6:IterIs w6 r sm l.length (seen ++ [i]):=hit1.off ho16 om_ sp_
   have hs6:MapIs w6 sm l:=ho16.map hs1 hs1.lt sp_
   have b23':=b23.below hb6 om_
   have bo:=hO.blk h.out lto (by simpa using hro)
   have c23:w6.cell? ⟨w1.heap.size,0,none⟩=some (.int .i64 (f7 p.1 0)):=(b23'.cell 0).trans (Zqf hp7)
   have hbl:=been_len hl hS hll h.nd h.lt
   have hn:=hl.val_le HP.out
   have hol:=Zv2 gs (been l seen) (f7 p.1 0)
   have hm6:Zj8 w6 r=seen.length+1:=by rw [hit6.len];simp
   have hsl:seen.length+1≤l.length:=by
    have:=Zgp (seen:=seen ++ [i]) (n:=l.length) (by rw [List.nodup_append];exact ⟨h.nd,sp_,by intro a ha c hc e;simp at hc;subst hc;subst e;exact HNI.out ha⟩) (by
     intro j hj
     rcases List.mem_append.1 hj with hj|hj
     ·exact h.lt j hj
     ·simp at hj;subst hj;exact (List.getElem?_eq_some_iff.1 HP.out).1)
    simpa using this
   have ltx:w1.heap.size < w6.heap.size:=b23'.lt
   have lto6:ob < w6.heap.size:=bo.lt
   have hxo:w1.heap.size≠ob:=by omega
   clear c10 g10 h5 b23 r10 hen
   have HZ1:=hd_ hz1
   have HZ5:=hd_ hz5
   have HM6:=hd_ hm6
   clear hz1 hz5 hm6
   cases hfb:Zik gs (f7 p.1)
   ·have HFB:=hd_ hfb
    clear hfb
    go_wp2_with fail
    refine ⟨⟨_,h.step HP.out HNI.out hO2 hit6 hs6 ?_⟩,?_⟩
    ·rw [HFB.out];simpa using bo
    ·rw [HM6.out,hlen];omega
   ·have hs8:=Zw1 hfb hg00
    have HFB:=hd_ hfb
    clear hfb
    have h9:f7 p.1 0 < 9:=by omega
    have co:w6.cell? ⟨ob,f7 p.1 0,none⟩=some (.int .i64 (outN gs (been l seen) (f7 p.1 0))):=(bo.cell _).trans (Zv4 _ _ h9)
    have cf:=bo.free
    have hst:=hd_ (Zt2 (outN gs (been l seen)) (f7 p.1 0) (outN gs (been l seen) (f7 p.1 0)+p.2) h9)
    generalize hs0:f7 p.1 0=s0 at *
    generalize hcs:outN gs (been l seen) s0=cs at *
    have HS0:=hd_ hs0
    have HCS:=hd_ hcs
    clear hs0 hcs
    have h9i:(s0:Int) < 9:=by omega
    have hsum:Hid (∀ W' a,Zm7 W' a [cs,p.2]→Calls prog 98 #[.slice a 2 2] W' (Same (.int .i64 ((cs+p.2:Nat):Int)) W')):=by
     intro W' a hI
     have:=b_sum [cs,p.2] a 2 sp_ (by simp;omega) W' hI
     simpa using this
    generalize hcn:cs+p.2=cn at *
    have HCN:=hd_ hcn
    clear hcn
    have HT:=hd_ two_at
    go_wp2_with fail
    refine Ord.wp_region [(0,1),(1,1),(2,1),(3,0),(4,0),(5,0),(6,0),(7,0),(8,0),(9,2),(10,0),(11,0),(12,2)] (fun W=>Off [ob] w6.heap.size w6 W) kr_ kr_ (fun c a d v w h=>(hP _ _ _ h).elim) (Off.refl _ _ _).drew ?_
    go_wp2_with (first
     | ((with_reducible refine Zxd ?_);first|(refine Zxp (ad:=⟨w1.heap.size,0,none⟩) ↑s0 rfl rfl ?_ ?_;(focus (intro W hW;have cW:=hW.cell (a:=⟨w1.heap.size,0,none⟩) ltx (by simpa using hxo);simp [go_sem,cW,c23];done));intro K hK)|(refine Zxv (.pointer w1.heap.size) rfl ?_ ?_;(focus (intro W hW;simp [go_sem,go_sem];done));intro K hK)|(refine Zxv (.pointer (some ⟨ob,s0,none⟩)) rfl ?_ ?_;(focus (intro W hW;simp [go_sem,h9i];done));intro K hK))
     | ((with_reducible refine Zxe ?_ (fun hOF=>?_));(focus (first|exact ((Off.refl _ _ w6).alloc nl_ _).drew|exact (((Off.refl _ _ w6).setCell (.inl sp_) _).alloc sp_ _).drew)))
     | ((with_reducible refine Zxh rfl ?_ (fun K hK=>?_));(focus (first|assumption|exact (Off.refl _ _ _).drew)))
     | (refine o_ ?_;intro K hK)|(with_reducible first|refine Zxn ?_ ?_|refine Zxi ?_|refine Zxe bn_ (fun _=>?_))
     | ((with_reducible refine Zxf ?_);refine Zxu rfl (fun W=>call98 _ W) (hsum.out _ _ (HT.out _ _ _ _)) (fun K hK=>?_))|((with_reducible refine Zxd ?_);refine Ord.wild_call rfl (fun W=>call98 _ W) (fun W hW=>hsum.out _ _ (HT.out _ _ _ _)) (fun K hK=>?_)))
    have hoE:Off [ob] w6.heap.size w6 ((w6.setCell ⟨ob,s0,none⟩ ↑cn).alloc (.cells #[cs,.int .i64 p.2] 3)).drew:=(((Off.refl _ _ w6).setCell (.inl sp_) _).alloc sp_ _).drew
    have hitE:IterIs ((w6.setCell ⟨ob,s0,none⟩ ↑cn).alloc (.cells #[cs,.int .i64 p.2] 3)).drew r sm l.length (seen ++ [i]):=hit6.off hoE hit6.lt (by simpa using Ne.symm hro)
    refine ⟨⟨_,h.step HP.out HNI.out (hO2.trans (hoE.mono hO2.size (by simp;intro k _ e;exact .inl e))) hitE (hoE.map hs6 hs6.lt (by
     intro e;simp at e;subst e;exact (NoC.map hs6).blk bo rfl)) ?_⟩,?_⟩
    ·have b1:Blk ((w6.setCell ⟨ob,s0,none⟩ ↑cn).alloc (.cells #[cs,.int .i64 p.2] 3)).drew ob ((Zay (outN gs (been l seen))).setIfInBounds s0 ↑cn) 142:=((bo.set _ _).alloc _).drew
     rw [hst.out] at b1
     have e1:(fun j=>outN gs (been l seen) j+if Zik gs (f7 p.1)=true∧f7 p.1 0=j then p.2 else 0)=fun j=>if j=s0 then cn else outN gs (been l seen) j:=by
      funext j
      rw [HFB.out,HS0.out]
      by_cases hj:j=s0
      ·subst hj;rw [if_pos ⟨rfl,rfl⟩,if_pos rfl,HCS.out,HCN.out]
      ·rw [if_neg (fun e=>hj e.2.symm),if_neg hj,Nat.add_zero]
     rw [e1];exact b1
    ·rw [hitE.len,hlen,List.length_append];simp;omega
  ·exact HE.out _ _ _ _ _ _ _ _ _ _ _ _ _ _ _ _ _ _ _ _ _ _ _ h.off (by rw [← h.done hl HALL.out];exact h.out)
end Go.Proofs.YtbapgefodmmikaaGreatDoor
