/- Parts of a proof. -/
import Derived.Test.YtbapgefodmmikaaGreatDoorLMin
import Derived.Test.YtbapgefodmmikaaGreatDoorL04
set_option linter.unusedVariables false
set_option linter.unusedSimpArgs false
set_option maxHeartbeats 40000000
set_option maxRecDepth 100000
namespace Go.Proofs.YtbapgefodmmikaaGreatDoor
open Go.RowKit Go.Proofs Go.Ord Tryz
attribute [local irreducible] Ord.walk
def NoC (w:World) (b:Nat):Prop:=∀ A t f,w.heap[b]?≠some (.cells A t f)
theorem NoC.cell {w:World}{b:Nat}(h:NoC w b) {a:Addr}{v:Value}(hc:w.cell? a=some v):a.block≠b:=by
 intro e
 subst e
 unfold World.cell? at hc
 split at hc
 ·rename_i c t f hh
  exact h _ _ _ hh
 ·cases hc
theorem NoC.blk {w:World}{b c:Nat}(h:NoC w b) {A:Array Value}{t:TypeId}(hb:Blk w c A t):c≠b:=by
 intro e
 subst e
 exact h _ _ _ hb
theorem NoC.map {w:World}{m:Nat}{l:List (SL × Nat)}(h:MapIs w m l):NoC w m:=by
 intro A t f hh
 rw [show w.heap[m]? = _ from h] at hh
 cases hh
theorem NoC.loop {w:World}{l:Nat}{r:Loop}(h:w.heap[l]? = some (.loop r)):NoC w l:=by
 intro A t f hh
 rw [h] at hh
 cases hh
theorem Zr2 {w:World}{m l:Nat}{e:List (SL × Nat)}{r:Loop}(h:MapIs w m e) (hl:w.heap[l]? = some (.loop r)):m≠l:=by
 intro x
 subst x
 rw [show w.heap[m]? = _ from h] at hl
 cases hl
structure REnv (W:World) (v nb bt gp gb gc fb V first:Nat) (t:Ti) (gs:List Gr):Prop where
 b3:Blk W nb #[.pointer v] 143
 vV:W.cell? ⟨v,0,none⟩=some (.int .i64 V)
 b8:Blk W bt (Zaj t) 240
 b10:Blk W gp #[.slice gb gs.length gc] 242
 bg:GrAt W gb gs
 hg1:0 < gs.length
 b16:Blk W fb #[first] 3
theorem REnv.glt {W:World}{v nb bt gp gb gc fb V first:Nat}{t:Ti}{gs:List Gr}(h:REnv W v nb bt gp gb gc fb V first t gs):gb < W.heap.size:=by
 obtain ⟨b,o,h0,h1,-⟩:=h.bg 0 h.hg1
 simp only [Option.some.injEq,Addr.mk.injEq] at h0
 obtain ⟨rfl,-,-⟩:=h0
 exact bl_ W _ h1
theorem REnv.off {W W':World}{T:List Nat}{v nb bt gp gb gc fb V first:Nat}{t:Ti}{gs:List Gr}(h:REnv W v nb bt gp gb gc fb V first t gs) (ho:Off T W.heap.size W W') (hT:∀ k∈T,NoC W k):REnv W' v nb bt gp gb gc fb V first t gs:=by
 have hblk:∀ {b:Nat}{A:Array Value}{u:TypeId},Blk W b A u→b ∉ T:=fun hb e=>(hT _ e).blk hb rfl
 have hcel:∀ {a:Addr}{x:Value},W.cell? a=some x→a.block ∉ T:=fun hc e=>(hT _ e).cell hc rfl
 have hgb:gb ∉ T:=by
  obtain ⟨b,o,h0,h1,-⟩:=h.bg 0 h.hg1
  simp only [Option.some.injEq,Addr.mk.injEq] at h0
  obtain ⟨rfl,-,-⟩:=h0
  exact hcel h1
 exact ⟨ho.blk h.b3 h.b3.lt (hblk h.b3),(ho.cell (bl_ W _ h.vV) (hcel h.vV)).trans h.vV,ho.blk h.b8 h.b8.lt (hblk h.b8),ho.blk h.b10 h.b10.lt (hblk h.b10),
  h.bg.off ho h.glt hgb,h.hg1,ho.blk h.b16 h.b16.lt (hblk h.b16)⟩
def rfA:Code→Code
 | .rangeFunc _ _ a _=>a
 | c=>c
noncomputable def cRec (fn:FuncId) (D:Nat) (T:Array Value) (st:LoopState) (pend:Option Code):Loop:={ state:=st,pending:=pend,fn,tmps:=T,params:=#[129],assign:=rfA cRf,body:=sI cRf,defers:=D }
theorem two_at (w:World) (t:TypeId) (a b:Nat):Zmn (w.alloc (.cells #[a,b] t)) w.heap.size [a,b]:=by
 intro i hi
 refine ⟨_,_,rfl,?_⟩
 rw [World.cell?_alloc_ite,if_pos rfl,Nat.zero_add]
 have:i=0∨i=1:=by simp at hi;omega
 rcases this with rfl|rfl <;> rfl
theorem _root_.Q2k {p:Prop}(h:p:=by
 unfold f7
 rw [List.getD_eq_getElem?_getD]
 cases hi:x[i]? with
 | none=>simp
 | some n=>simpa using h n (List.mem_of_getElem? hi)):p:=h
theorem f7_lt {x:SL}(h:∀ i∈x,i < 900) (i:Nat):f7 x i < 900:=Q2k
theorem _root_.Q2l {p:Prop}(h:p:=by
 simp only [Zai,x7,List.mem_cons,List.not_mem_nil,or_false] at hn
 rcases hn with rfl|rfl|rfl|rfl|rfl|rfl|rfl <;> exact this _):p:=h
theorem Ze1 {gs:List Gr}{t:Ti}{V first:Nat}{white:Bool}{x:SL}(hV:V≤8) (h:∀ i∈x,i < 900):SL7 (Zai gs t V first white x):=by
 refine ⟨rfl,fun n hn=>?_⟩
 have:∀ i,Zb1 gs t first white (f7 x) V i < 1000:=fun i=>by
  have h1:=Zgp gs t first white (f7 x) V i
  have h2:=f7_lt h i
  omega
 exact Q2l
theorem Zph {u0 u1 u2 u4 u5 u6 u7 u9 u11 u12 u13 u14 u15 u20 u21 u22 u23 u24 u25 u26 u27 u28 u29 u30 u31 u32 u33 u34 u35 u36 u37 u38 u39 u40 u41 u42 u43 u44 u45 u46 u47 u48 u49 u50 u51 u52 u53 u54 u55 u56 u57 u58 u59 u60 u61 u62 u63 u64 u65 u66 u67 u68 u69 u70 u71 u72 u73 u74 u75 u76 u77 u78 u79 u80 u81 u82 u83 u84 u85 u86 u87 u88 u89 u90 u91 u92 u93 u94 u95 u96 u97 u98 u99 u100 u101 u102 u103 u104 u105 u106 u107 u108 u109 u110 u111 u112 u113 u114 u115 u116 u117 u118 u119 u120 u121 u122 u123 u124 u125 u126 u127 u128 u130 u131 u132 u133 u134 u135 u136 u137 u138 u139 u140 u141 u142 u143 u144 u145 u146 u147 u148 u149 u150 u151 u152 u153 u154 u155 u156 u157 u158 u159 u160 u161 u162 u163 u164 u165 u166 u167 u168 u169 u170 u171 u172 u173 u174 u175 u176 u177 u178 u179 u180 u181 u182 u183 u184 u185 u186 u187 u188 u189 u190:Value}(L m fn D:Nat) (W:World) (v nb V bt gp gb gc fb p17 p18 p19 mn first:Nat) (t:Ti) (gs:List Gr) (white:Bool) (x:SL) (n:Nat) (lst:List (SL × Nat)) (ds:List Deferred) (T0:Array Value)
  (hV:V≤8) (hgl:gs.length≤7) (hvo:∀ g∈gs,g.1 < 2 ^ 62) (hx7:x.length=7) (hx:∀ i∈x,i < 900)
  (env:REnv W v nb bt gp gb gc fb V first t gs) (e17:Blk W p17 #[.map (some mn)] 249) (e18:Blk W p18 (Zaq x) 248) (e19:Blk W p19 #[n] 3)
  (hm:MapIs W mn lst) (hmo:MapOk lst) (hbnd:getM lst (Zai gs t V first white x)+n < 2 ^ 62)
  (hL:W.heap[L]? = some (.loop (cRec fn D T0 .ready none))) :
  RoundIn Fence.wide m prog L fn (u0 :: u1 :: u2 :: .pointer nb :: u4 :: u5 :: u6 :: u7 :: .pointer bt :: u9 :: .pointer gp :: u11 :: u12 :: u13 :: u14 :: u15 :: .pointer fb :: .pointer p17 :: .pointer p18 :: .pointer p19 :: u20 :: u21 :: u22 :: u23 :: u24 :: u25 :: u26 :: u27 :: u28 :: u29 :: u30 :: u31 :: u32 :: u33 :: u34 :: u35 :: u36 :: u37 :: u38 :: u39 :: u40 :: u41 :: u42 :: u43 :: u44 :: u45 :: u46 :: u47 :: u48 :: u49 :: u50 :: u51 :: u52 :: u53 :: u54 :: u55 :: u56 :: u57 :: u58 :: u59 :: u60 :: u61 :: u62 :: u63 :: u64 :: u65 :: u66 :: u67 :: u68 :: u69 :: u70 :: u71 :: u72 :: u73 :: u74 :: u75 :: u76 :: u77 :: u78 :: u79 :: u80 :: u81 :: u82 :: u83 :: u84 :: u85 :: u86 :: u87 :: u88 :: u89 :: u90 :: u91 :: u92 :: u93 :: u94 :: u95 :: u96 :: u97 :: u98 :: u99 :: u100 :: u101 :: u102 :: u103 :: u104 :: u105 :: u106 :: u107 :: u108 :: u109 :: u110 :: u111 :: u112 :: u113 :: u114 :: u115 :: u116 :: u117 :: u118 :: u119 :: u120 :: u121 :: u122 :: u123 :: u124 :: u125 :: u126 :: u127 :: u128 :: .bool white :: u130 :: u131 :: u132 :: u133 :: u134 :: u135 :: u136 :: u137 :: u138 :: u139 :: u140 :: u141 :: u142 :: u143 :: u144 :: u145 :: u146 :: u147 :: u148 :: u149 :: u150 :: u151 :: u152 :: u153 :: u154 :: u155 :: u156 :: u157 :: u158 :: u159 :: u160 :: u161 :: u162 :: u163 :: u164 :: u165 :: u166 :: u167 :: u168 :: u169 :: u170 :: u171 :: u172 :: u173 :: u174 :: u175 :: u176 :: u177 :: u178 :: u179 :: u180 :: u181 :: u182 :: u183 :: u184 :: u185 :: u186 :: u187 :: u188 :: u189 :: u190 :: []).toArray (rfA cRf) (sI cRf) W
   fun e W'=>e=.returned (.bool true)∧Off [mn,L] W.heap.size W W'∧W'.heap[L]? = some (.loop (cRec fn D T0 .ready none))∧MapIs W' mn (putM lst (Zai gs t V first white x) (getM lst (Zai gs t V first white x)+n)):=by
 refine roundIn_of_wpIn trivial ?_
 have hll:L < W.heap.size:=(Array.getElem?_eq_some_iff.1 hL).1
 have hbr:=run_beginRound (P:=prog) hL rfl
 obtain ⟨W2,hW2⟩:∃ W2,W.putObj L (.loop { cRec fn D T0 .ready none with state:=.busy })=W2:=⟨_,rfl⟩
 rw [hW2] at hbr
 have ho2:Off [L] W.heap.size W W2:=by rw [← hW2];exact (Off.refl _ _ _).putObj sp_ _
 have hL2:W2.heap[L]? = some (.loop { cRec fn D T0 .ready none with state:=.busy }):=by rw [← hW2];exact World.putObj_heap_same hll
 have hml:=Zr2 hm hL
 have hm2:=ho2.map hm hm.lt (by simpa using hml)
 have env2:=env.off ho2 (by simp;exact NoC.loop hL)
 have f17:=ho2.blk e17 e17.lt (by simpa using (NoC.loop hL).blk e17)
 have f18:=ho2.blk e18 e18.lt (by simpa using (NoC.loop hL).blk e18)
 have f19:=ho2.blk e19 e19.lt (by simpa using (NoC.loop hL).blk e19)
 have hs2:W2.heap.size=W.heap.size:=by rw [← hW2];simp
 clear hW2 env e17 e18 e19
 have HS2:=hd_ hs2
 clear hs2
 have hy7:=Ze1 (gs:=gs) (t:=t) (first:=first) (white:=white) hV hx
 have hf7:=f7_lt hx
 generalize hy:Zai gs t V first white x=y at *
 have HY:=hd_ hy
 clear hy
 have hL2':=hd_ hL2
 clear hL2 hL
 have hQ:¬ LetsOut (fun e a w=>False:Exit→Act→World→Prop):=fun ⟨_,_,h⟩=>h
 conv=>arg 4;whnf
 (repeat (first|((with_reducible refine Za8 ?_ ?_ ?_);(focus exact fun ⟨a,w,h⟩=>hQ ⟨a,w,h⟩);(focus rfl))|gi_step))
 go_wp2_with fail
 clear hbr
 have hsx:Zbc (f7 x)=Zaq x:=Zew x hx7
 have q1:=Zdd (f7 x)
 have q2:=Zht (f7 x)
 have f3:=env2.b3.cell
 have f4:=env2.vV
 rw [hsx] at q1 q2
 generalize Zaq x=X1 at *
 have HSX:Hid (Zbc (f7 x)=X1):=hsx
 clear hsx
 have lt17:=f17.lt
 have lt18:=f18.lt
 have lt19:=f19.lt
 have ltm:=hm2.lt
 have lt3:=env2.b3.lt
 have lt8:=env2.b8.lt
 have lt10:=env2.b10.lt
 have ltg:=env2.glt
 have lt16:=env2.b16.lt
 have ltv:=bl_ W2 _ f4
 conv=>arg 4;whnf
 (repeat (first|((with_reducible refine Za8 ?_ ?_ ?_);(focus exact fun ⟨a,w,h⟩=>hQ ⟨a,w,h⟩);(focus rfl))|gi_step))
 go_wp2_with (first
  | (refine Za0 248 (.tmp 18) Zep rfl rfl rfl f18 q1 ?_)
  | (refine Za1 248 (.tmp 21) (.tmp 130) Zep rfl rfl rfl rfl (Blk.new _ _ _) rfl q1 q2 ?_;intro w5 h5))
 have g17:=h5.other (f17.alloc _) om_
 have g19:=h5.other (f19.alloc _) om_
 have ho5:Off [] W2.heap.size W2 w5:=((Off.refl _ _ _).alloc nl_ _).rowed h5 (.inr nl_)
 have env5:=env2.off ho5 sp_
 have hm5:=ho5.map hm2 ltm sp_
 have hx5:=h5.blk
 have hs5:w5.heap.size=W2.heap.size+1:=by rw [h5.size];simp
 generalize W2.heap.size=xb at *
 have f5:=env5.b3.cell
 have f6:=env5.vV
 clear h5 f3 f4
 (repeat (first|((with_reducible refine Za8 ?_ ?_ ?_);(focus exact fun ⟨a,w,h⟩=>hQ ⟨a,w,h⟩);(focus rfl))|gi_step))
 go_wp2_with fail
 refine wpIn_block ?_
 refine Zx4 L m _ (fun ⟨a,w,h⟩=>hQ ⟨a,w,h⟩) (fun c a w h=>h) w5 V bt gp gb gc fb xb first t gs white (f7 x) hV hgl hvo hf7 env5.b8 env5.b10 env5.bg env5.glt env5.b16 (by rw [HSX.out];exact hx5) ?_ ?_ ?_ ?_ ?_
 ·omega
 ·omega
 ·omega
 ·omega
 intro x22 x136 x137 x138 x139 x140 x141 x142 x143 x144 x145 x146 x147 x148 x149 x150 x151 x152 x153 x154 x155 x156 x157 w6 ho6 hx6
 have hx6':Blk w6 xb (Zaq y) 248:=by rw [← HY.out];exact hx6
 clear hx6
 have i17:=ho6.blk g17 g17.lt (by simp;omega)
 have i19:=ho6.blk g19 g19.lt (by simp;omega)
 have hm6:=ho6.map hm5 hm5.lt (by simp;omega)
 have hs6:=ho6.size
 have j17:=i17.cell
 have j19:=i19.cell
 have ltx:=hx6'.lt
 have q3:(Zaq y).size=7:=by have:=hy7.1;simp [Zaq,this]
 clear env2 env5 f5 f6 g17 g19 hm5 hm2 f17 f18 f19 q1 q2 hx5
 gi_step
 gi_step
 have hsum:Hid (∀ W' a,Zmn W' a [getM lst y,n]→Calls prog 98 #[.slice a 2 2] W' (Same (.int .i64 ((getM lst y+n:Nat):Int)) W')):=by
  intro W' a hI
  have:=b_sum [getM lst y,n] a 2 sp_ (by simpa using hbnd) W' hI
  simpa using this
 have HT:=hd_ two_at
 generalize hgn:getM lst y=gn at *
 have HGN:=hd_ hgn
 clear hgn
 generalize hsn:gn+n=sn at *
 have HSN:=hd_ hsn
 clear hsn
 refine Ord.wpIn_region (fun ⟨a,w,h⟩=>hQ ⟨a,w,h⟩) [(2,0),(3,0),(4,0),(5,0),(0,1),(1,1),(6,2),(7,0),(8,2)] (fun W=>Off [mn] w6.heap.size w6 W) kr_ kr_ kr_ (fun c a d v w h=>h) (Off.refl _ _ _).drew ?_
 go_wp2_with (first
  | (refine Za0 248 (.tmp 21) Zep rfl rfl rfl hx6'.drew q3 ?_)
  | ((refine Zir (.tmp 160) (.tmp 161) rfl rfl rfl rfl hm6.drew hmo hy7 ?_);rw [HGN.out])
  | (refine Zdb (.tmp 158) (.tmp 159) (.tmp 165) rfl (.inl rfl) rfl rfl rfl (hm6.drew.alloc _) hmo hy7 ?_;intro w7 ht7 hm7)
  | ((with_reducible refine Zye ?_);first|(refine Zyq (ad:=⟨p17,0,none⟩) (.map (some mn)) rfl rfl ?_ ?_;(focus (intro W hW;have cW:=hW.cell (a:=⟨p17,0,none⟩) i17.lt (by simpa using (NoC.map hm6).blk i17);simp [go_sem,cW,j17];done));intro K hK)|(refine Zyq (ad:=⟨xb,0,none⟩) (.agg (Zaq y)) rfl rfl ?_ ?_;(focus (intro W hW;exact Zbo Zep (hW.blk hx6' ltx (by simpa using (NoC.map hm6).blk hx6')) q3));intro K hK))
  | ((with_reducible refine Zyf ?_ (fun hOF=>?_));(focus (first|exact ((Off.refl _ _ w6).alloc nl_ _).drew|exact (((Off.refl _ _ w6).alloc nl_ _).drew).turn ht7 (.inl sp_))))
  | ((with_reducible refine Zyh rfl ?_ (fun K hK=>?_));(focus (first|assumption|exact (Off.refl _ _ _).drew)))
  | (refine o_ ?_;intro K hK)|(with_reducible first|refine Zyo ?_ ?_|refine Zyj ?_|refine Zyf bn_ (fun _=>?_))
  | ((with_reducible refine Zyg ?_);refine Zyv rfl (fun W=>call98 _ W) (hsum.out _ _ (HT.out _ _ _ _)) (fun K hK=>?_))|((with_reducible refine Zye ?_);refine Ord.wild_call rfl (fun W=>call98 _ W) (fun W hW=>hsum.out _ _ (HT.out _ _ _ _)) (fun K hK=>?_)))
 have hxw:xb=W.heap.size:=HS2.out
 have hLx:L < xb:=by omega
 have hL5:=(ho5.block L hLx sp_).trans hL2'.out
 have hL6:=(ho6.block L om_ (by simp;omega)).trans hL5
 have hO7:Off [mn] w6.heap.size w6 w7:=(((Off.refl _ _ w6).alloc nl_ _).drew).turn ht7 (.inl sp_)
 have hL7:=(hO7.block L om_ (by simpa using Ne.symm hml)).trans hL6
 have hll7:L < w7.heap.size:=(Array.getElem?_eq_some_iff.1 hL7).1
 refine ⟨_,_,run_endRound none hL7,rfl,?_,World.putObj_heap_same hll7,?_⟩
 ·refine Off.putObj ?_ (.inl sp_) _
  refine ((ho2.mono nl_ (by simp;intro k _ e;exact .inr e)).trans (ho5.mono om_ sp_)).trans ((ho6.mono om_ (fun k hk e=>?_)).trans (hO7.mono om_ (by simp;intro k _ e;exact .inl e)))
  have:k=xb:=by simpa using e
  omega
 ·have:=(World.putObj_heap_other (w:=w7) (o:=Obj.loop { cRec fn D T0 .ready none with state:=.ready,pending:=none }) hml).trans (show w7.heap[mn]? = _ from hm7)
  rw [HGN.out,HSN.out]
  exact this
def addX (gs:List Gr) (t:Ti) (V first:Nat) (white:Bool) (p:SL × Nat) (lst:List (SL × Nat)):List (SL × Nat):=putM lst (Zai gs t V first white p.1) (getM lst (Zai gs t V first white p.1)+p.2)
def Zeh (gs:List Gr) (t:Ti) (V first:Nat) (p:SL × Nat) (lst:List (SL × Nat)):Nat→List (SL × Nat)
 | 0=>lst
 | 1=>addX gs t V first false p lst
 | _=>addX gs t V first true p (addX gs t V first false p lst)
theorem addTo_ok {gs:List Gr}{t:Ti}{V first:Nat}{p:SL × Nat}{lst:List (SL × Nat)}(hV:V≤8) (hx:∀ i∈p.1,i < 900) (h:MapOk lst) (k:Nat):MapOk (Zeh gs t V first p lst k):=by
 unfold Zeh
 split
 ·exact h
 ·exact h.put (Ze1 hV hx) _
 ·exact (h.put (Ze1 hV hx) _).put (Ze1 hV hx) _
theorem Zy3 {gs:List Gr}{t:Ti}{V first:Nat}{p:SL × Nat}{lst:List (SL × Nat)}(h:MapOk lst) (y:SL) (k:Nat) (hk:k≤1):getM (Zeh gs t V first p lst k) y≤getM lst y+p.2:=by
 rcases (show k=0∨k=1 by omega) with rfl|rfl
 ·simp [Zeh]
 ·simp only [Zeh,addX]
  rw [Zsq h]
  split
  ·rename_i e;rw [e];exact Nat.le_refl _
  ·omega
theorem Zpi {u0 u1 u2 u4 u5 u6 u7 u9 u11 u12 u13 u14 u15 u20 u21 u22 u23 u24 u25 u26 u27 u28 u29 u30 u31 u32 u33 u34 u35 u36 u37 u38 u39 u40 u41 u42 u43 u44 u45 u46 u47 u48 u49 u50 u51 u52 u53 u54 u55 u56 u57 u58 u59 u60 u61 u62 u63 u64 u65 u66 u67 u68 u69 u70 u71 u72 u73 u74 u75 u76 u77 u78 u79 u80 u81 u82 u83 u84 u85 u86 u87 u88 u89 u90 u91 u92 u93 u94 u95 u96 u97 u98 u99 u100 u101 u102 u103 u104 u105 u106 u107 u108 u109 u110 u111 u112 u113 u114 u115 u116 u117 u118 u119 u120 u121 u122 u123 u124 u125 u126 u127 u128 u129 u130 u131 u132 u133 u134 u135 u136 u137 u138 u139 u140 u141 u142 u143 u144 u145 u146 u147 u148 u149 u150 u151 u152 u153 u154 u155 u156 u157 u158 u159 u160 u161 u162 u163 u164 u165 u166 u167 u168 u169 u170 u171 u172 u173 u174 u175 u176 u177 u178 u179 u180 u181 u182 u183 u184 u185 u186 u187 u188 u189 u190:Value}(L m fn D:Nat) (W:World) (v nb V bt gp gb gc fb p17 p18 p19 mn first:Nat) (t:Ti) (gs:List Gr) (p:SL × Nat) (lst:List (SL × Nat)) (T0:Array Value) (HT0:Hid (T0=(u0 :: u1 :: u2 :: .pointer nb :: u4 :: u5 :: u6 :: u7 :: .pointer bt :: u9 :: .pointer gp :: u11 :: u12 :: u13 :: u14 :: u15 :: .pointer fb :: .pointer p17 :: .pointer p18 :: .pointer p19 :: u20 :: u21 :: u22 :: u23 :: u24 :: u25 :: u26 :: u27 :: u28 :: u29 :: u30 :: u31 :: u32 :: u33 :: u34 :: u35 :: u36 :: u37 :: u38 :: u39 :: u40 :: u41 :: u42 :: u43 :: u44 :: u45 :: u46 :: u47 :: u48 :: u49 :: u50 :: u51 :: u52 :: u53 :: u54 :: u55 :: u56 :: u57 :: u58 :: u59 :: u60 :: u61 :: u62 :: u63 :: u64 :: u65 :: u66 :: u67 :: u68 :: u69 :: u70 :: u71 :: u72 :: u73 :: u74 :: u75 :: u76 :: u77 :: u78 :: u79 :: u80 :: u81 :: u82 :: u83 :: u84 :: u85 :: u86 :: u87 :: u88 :: u89 :: u90 :: u91 :: u92 :: u93 :: u94 :: u95 :: u96 :: u97 :: u98 :: u99 :: u100 :: u101 :: u102 :: u103 :: u104 :: u105 :: u106 :: u107 :: u108 :: u109 :: u110 :: u111 :: u112 :: u113 :: u114 :: u115 :: u116 :: u117 :: u118 :: u119 :: u120 :: u121 :: u122 :: u123 :: u124 :: u125 :: u126 :: u127 :: u128 :: u129 :: u130 :: u131 :: u132 :: u133 :: u134 :: u135 :: u136 :: u137 :: u138 :: u139 :: u140 :: u141 :: u142 :: u143 :: u144 :: u145 :: u146 :: u147 :: u148 :: u149 :: u150 :: u151 :: u152 :: u153 :: u154 :: u155 :: u156 :: u157 :: u158 :: u159 :: u160 :: u161 :: u162 :: u163 :: u164 :: u165 :: u166 :: u167 :: u168 :: u169 :: u170 :: u171 :: u172 :: u173 :: u174 :: u175 :: u176 :: u177 :: u178 :: u179 :: u180 :: u181 :: u182 :: u183 :: u184 :: u185 :: u186 :: u187 :: u188 :: u189 :: u190 :: []).toArray))
  (hV:V≤8) (hgl:gs.length≤7) (hvo:∀ g∈gs,g.1 < 2 ^ 62) (hx7:p.1.length=7) (hx:∀ i∈p.1,i < 900)
  (env:REnv W v nb bt gp gb gc fb V first t gs) (e17:Blk W p17 #[.map (some mn)] 249) (e18:Blk W p18 (Zaq p.1) 248) (e19:Blk W p19 #[.int .i64 p.2] 3)
  (hm:MapIs W mn lst) (hmo:MapOk lst) (hbnd:∀ y,getM lst y+2 * p.2 < 2 ^ 62)
  (hL:W.heap[L]? = some (.loop (cRec fn D T0 .ready none))) :
  CallsIn Fence.wide m prog 262 #[.func (.yield L) #[] #[]] W
   fun e W'=>(∃ v,e=.returned v)∧Off [mn,L] W.heap.size W W'∧W'.heap[L]? = some (.loop (cRec fn D T0 .ready none))∧MapIs W' mn (Zeh gs t V first p lst 2):=by
 have hmL:NoC W mn:=NoC.map hm
 have hLL:NoC W L:=NoC.loop hL
 have hmlt:=hm.lt
 have hLlt:L < W.heap.size:=(Array.getElem?_eq_some_iff.1 hL).1
 have hround:Hid (∀ (k:Nat) (white:Bool) (W':World),k≤1→white=(k == 1)→Off [mn,L] W.heap.size W W'→W'.heap[L]? = some (.loop (cRec fn D T0 .ready none))→MapIs W' mn (Zeh gs t V first p lst k) →
   RoundIn Fence.wide (m - 1) prog L fn (T0.setIfInBounds 129 (.bool white)) (rfA cRf) (sI cRf) W' fun e W2=>e=.returned (.bool true)∧Off [mn,L] W'.heap.size W' W2∧W2.heap[L]? = some (.loop (cRec fn D T0 .ready none))∧MapIs W2 mn (Zeh gs t V first p lst (k+1))):=by
  intro k white W' hk hwh ho hL' hm'
  have hT:∀ q∈[mn,L],NoC W q:=by simp;exact ⟨hmL,hLL⟩
  have hg:=Zy3 (gs:=gs) (t:=t) (V:=V) (first:=first) (p:=p) (lst:=lst) hmo (Zai gs t V first white p.1) k hk
  have hb:=hbnd (Zai gs t V first white p.1)
  have e1:T0.setIfInBounds 129 (.bool white)=(u0 :: u1 :: u2 :: .pointer nb :: u4 :: u5 :: u6 :: u7 :: .pointer bt :: u9 :: .pointer gp :: u11 :: u12 :: u13 :: u14 :: u15 :: .pointer fb :: .pointer p17 :: .pointer p18 :: .pointer p19 :: u20 :: u21 :: u22 :: u23 :: u24 :: u25 :: u26 :: u27 :: u28 :: u29 :: u30 :: u31 :: u32 :: u33 :: u34 :: u35 :: u36 :: u37 :: u38 :: u39 :: u40 :: u41 :: u42 :: u43 :: u44 :: u45 :: u46 :: u47 :: u48 :: u49 :: u50 :: u51 :: u52 :: u53 :: u54 :: u55 :: u56 :: u57 :: u58 :: u59 :: u60 :: u61 :: u62 :: u63 :: u64 :: u65 :: u66 :: u67 :: u68 :: u69 :: u70 :: u71 :: u72 :: u73 :: u74 :: u75 :: u76 :: u77 :: u78 :: u79 :: u80 :: u81 :: u82 :: u83 :: u84 :: u85 :: u86 :: u87 :: u88 :: u89 :: u90 :: u91 :: u92 :: u93 :: u94 :: u95 :: u96 :: u97 :: u98 :: u99 :: u100 :: u101 :: u102 :: u103 :: u104 :: u105 :: u106 :: u107 :: u108 :: u109 :: u110 :: u111 :: u112 :: u113 :: u114 :: u115 :: u116 :: u117 :: u118 :: u119 :: u120 :: u121 :: u122 :: u123 :: u124 :: u125 :: u126 :: u127 :: u128 :: .bool white :: u130 :: u131 :: u132 :: u133 :: u134 :: u135 :: u136 :: u137 :: u138 :: u139 :: u140 :: u141 :: u142 :: u143 :: u144 :: u145 :: u146 :: u147 :: u148 :: u149 :: u150 :: u151 :: u152 :: u153 :: u154 :: u155 :: u156 :: u157 :: u158 :: u159 :: u160 :: u161 :: u162 :: u163 :: u164 :: u165 :: u166 :: u167 :: u168 :: u169 :: u170 :: u171 :: u172 :: u173 :: u174 :: u175 :: u176 :: u177 :: u178 :: u179 :: u180 :: u181 :: u182 :: u183 :: u184 :: u185 :: u186 :: u187 :: u188 :: u189 :: u190 :: []).toArray:=by rw [HT0.out];rfl
  rw [e1]
  refine (Zph (m:=m - 1) L fn D W' v nb V bt gp gb gc fb p17 p18 p19 mn first t gs white p.1 p.2 (Zeh gs t V first p lst k) [] T0 hV hgl hvo hx7 hx (env.off ho hT)
   (ho.blk e17 e17.lt (by simp;exact ⟨hmL.blk e17,hLL.blk e17⟩)) (ho.blk e18 e18.lt (by simp;exact ⟨hmL.blk e18,hLL.blk e18⟩)) (ho.blk e19 e19.lt (by simp;exact ⟨hmL.blk e19,hLL.blk e19⟩))
   hm' (addTo_ok hV hx hmo k) om_ hL').mono ?_
  rintro e W2 ⟨rfl,ho2,hL2,hm2⟩
  refine ⟨rfl,ho2,hL2,?_⟩
  rcases (show k=0∨k=1 by omega) with rfl|rfl
  ·subst hwh;exact hm2
  ·subst hwh;exact hm2
 have hyield:Hid (∀ (white:Bool) (W':World),W'.heap[L]? = some (.loop (cRec fn D T0 .ready none))→(Instr.yield L #[.bool white]).run prog W'=.ok (.round L fn (T0.setIfInBounds 129 (.bool white)) (rfA cRf) (sI cRf)) W'):=by
  intro white W' h
  have:=run_yield (P:=prog) (args:=#[.bool white]) h rfl
  simpa [cRec] using this
 clear HT0 env e17 e18 e19 hbnd hx hx7 hgl hvo hV
 refine callsIn_of_wp func262 rfl trivial ?_ rfl
 simp only [ntmps262,List.size_toArray,List.length_cons,List.length_nil,Nat.reduceAdd,Nat.reduceSub,Array.replicate_succ,Array.replicate_zero,List.push_toArray,List.append_toArray,List.nil_append,List.cons_append]
 gi_wp2_with fail
 obtain ⟨W0,hW0⟩:∃ W0,W0=W.alloc (.cells #[.bool false,.bool true] 4):=⟨_,rfl⟩
 have b0:Blk W0 W.heap.size #[.bool false,.bool true] 4:=by rw [hW0];exact Blk.new _ _ _
 have ho0:Off [mn,L] W.heap.size W W0:=by rw [hW0];exact (Off.refl _ _ _).alloc nl_ _
 have hs0:W0.heap.size=W.heap.size+1:=by rw [hW0];simp
 have hL0:W0.heap[L]? = some (.loop (cRec fn D T0 .ready none)):=by rw [hW0];exact (Below.heap_alloc _ _ _ hLlt).trans hL
 have hm0:MapIs W0 mn (Zeh gs t V first p lst 0):=by rw [hW0];exact (hm.alloc _)
 rw [← hW0]
 clear hW0 hL hm
 generalize hsb:W.heap.size=sb at *
 have HSB:=hd_ hsb
 clear hsb
 gi_loopw [6] (fun i wr=>∃ k:Nat,k≤2∧i=↑k∧Blk wr sb #[.bool false,.bool true] 4∧Off [mn,L] sb W wr∧Hid (wr.heap[L]? = some (.loop (cRec fn D T0 .ready none)))∧MapIs wr mn (Zeh gs t V first p lst k)) (fun i _=>2 - (intOf i).toNat)
 case atStart=>exact ⟨0,om_,rfl,b0,ho0,hL0,hm0⟩
 case round =>
  clear b0 ho0 hs0 hL0 hm0
  obtain ⟨k,hk,rfl,b0,ho,hL,hm⟩:=hrel
  have r0:=b0.cell
  by_cases h2:k=2
  ·subst h2
   gi_wp2_with fail
   go_end0
   exact ⟨⟨_,rfl⟩,by rw [HSB.out];exact ho,hL.out,hm⟩
  ·have hc:∃ white:Bool,white=(k == 1)∧wr.cell? ⟨sb,k,none⟩=some (.bool white):=by
    rcases (show k=0∨k=1 by omega) with rfl|rfl
    ·exact ⟨false,rfl,r0 0⟩
    ·exact ⟨true,rfl,r0 1⟩
   obtain ⟨white,hwh,hc⟩:=hc
   clear r0
   have hk1:k≤1:=by omega
   have hklt:(k:Int) < 2:=by omega
   have HWH:=hd_ hwh
   clear hwh
   have hy:=hyield.out white wr hL.out
   have hlt:=b0.lt
   gi_wp2_with fail
   refine ⟨fun h=>by simp [Fence.wide] at h,?_⟩
   refine (hround.out k white wr hk1 HWH.out ho hL.out hm).mono ?_
   rintro e W2 ⟨rfl,ho2,hL2,hm2⟩
   clear hy
   have b2:=ho2.blk b0 hlt (by simp;omega)
   have ho3:=ho.trans (ho2.mono om_ (fun _ _ e=>e))
   have HL2:=hd_ hL2
   clear hL2 hL
   gi_wp2_with fail
   refine ⟨⟨k+1,om_,by go_num,b2,ho3,HL2,hm2⟩,by simp [intOf];omega⟩
def Mk (D:Nat):Deferred:={ target:=.collected D,args:=#[] }
def Marks (base:Nat) (ds:List Deferred) (w:World):Prop:=∃ Ds:List Nat,ds=Ds.map Mk∧Ds.Nodup∧∀ D∈Ds,base≤D∧w.heap[D]? = some (.deferred (some []))
theorem Marks.nil (base:Nat) (w:World):Marks base [] w:=⟨[],rfl,List.nodup_nil,sp_⟩
theorem Marks.off {base:Nat}{ds:List Deferred}{w w':World}{T:List Nat}(h:Marks base ds w) (ho:Off T w.heap.size w w') (hT:∀ k∈T,∀ x,w.heap[k]?≠some (.deferred x)):Marks base ds w':=by
 obtain ⟨Ds,h1,h2,h3⟩:=h
 refine ⟨Ds,h1,h2,fun D hD=>⟨(h3 D hD).1,?_⟩⟩
 have hh:=(h3 D hD).2
 exact (ho.block D (Array.getElem?_eq_some_iff.1 hh).1 (fun e=>hT D e _ hh)).trans hh
theorem Marks.cons {base D:Nat}{ds:List Deferred}{w:World}(h:Marks base ds w) (hb:base≤D) (hD:w.heap[D]? = some (.deferred (some []))) (hn:∀ d∈ds,d≠Mk D):Marks base ([Mk D] ++ ds) w:=by
 obtain ⟨Ds,rfl,h2,h3⟩:=h
 refine ⟨D :: Ds,rfl,List.nodup_cons.2 ⟨fun e=>hn _ (List.mem_map_of_mem e) rfl,h2⟩,fun E hE=>?_⟩
 rcases List.mem_cons.1 hE with rfl|hE
 ·exact ⟨hb,hD⟩
 ·exact h3 E hE
theorem Marks.lt {base:Nat}{ds:List Deferred}{w:World}(h:Marks base ds w):∀ d∈ds,∃ D,d=Mk D∧D < w.heap.size:=by
 obtain ⟨Ds,rfl,h2,h3⟩:=h
 intro d hd
 obtain ⟨D,hD,rfl⟩:=List.mem_map.1 hd
 exact ⟨D,rfl,(Array.getElem?_eq_some_iff.1 (h3 D hD).2).1⟩
theorem Zil {F:Fence}{n:Nat}{P:Program}{fn:Func}{tmps:Array Value}{R:Ending→World→Prop}{base:Nat} :
  ∀ (Ds:List Nat) (w:World),Ds.Nodup→(∀ D∈Ds,base≤D∧w.heap[D]? = some (.deferred (some []))) →
  (∀ w',Off Ds w.heap.size w w'→LeavesIn F n P fn tmps R [] .returning w')→LeavesInM F n P fn tmps R (Ds.map Mk) .returning w
 | [],w,_,_,h=>h w (Off.refl _ _ _)
 | D :: Ds,w,hn,hD,h=>by
  simp only [List.nodup_cons] at hn
  refine ⟨sp_,.inl ⟨D,w.putObj D (.deferred none),rfl,run_takeDeferred (hD D sp_).2,?_⟩⟩
  have ho:Off [D] w.heap.size w (w.putObj D (.deferred none)):=(Off.refl _ _ _).putObj (.inl sp_) _
  refine Zil (base:=base) Ds _ hn.2 (fun E hE=>?_) (fun w' hw'=>h w' ?_)
  ·have hh:=(hD E (by simp [hE])).2
   have:E≠D:=fun e=>hn.1 (e ▸ hE)
   exact ⟨(hD E (by simp [hE])).1,(ho.block E (Array.getElem?_eq_some_iff.1 hh).1 (by simpa using this)).trans hh⟩
  ·exact (ho.mono nl_ (by intro k _ e;simp at e;simp [e])).trans (hw'.mono sp_ (by intro k _ e;simp [e]))
theorem Zsh (l:List (SL × Nat)) (y:SL) (v:Nat):(putM l y v).length≤l.length+1:=by
 unfold putM;split <;> simp
theorem Zvj {l:List (SL × Nat)}{b:Nat}(h:∀ p∈l,∀ i∈p.1,i≤b) {y:SL}(hy:∀ i∈y,i≤b) (v:Nat):∀ p∈putM l y v,∀ i∈p.1,i≤b:=by
 unfold putM
 split
 ·intro p hp
  obtain ⟨q,hq,rfl⟩:=List.mem_map.1 hp
  split
  ·exact hy
  ·exact h q hq
 ·intro p hp
  rcases List.mem_append.1 hp with hp|hp
  ·exact h p hp
  ·simp only [List.mem_singleton] at hp;subst hp;exact hy
theorem f7_le {x:SL}{b:Nat}(h:∀ i∈x,i≤b) (i:Nat):f7 x i≤b:=Q2k
theorem Zpm {gs:List Gr}{t:Ti}{V first:Nat}{white:Bool}{x:SL}{b:Nat}(hV:V≤8) (h:∀ i∈x,i≤b):∀ i∈Zai gs t V first white x,i≤b+8:=by
 intro n hn
 have:∀ i,Zb1 gs t first white (f7 x) V i≤b+8:=fun i=>by
  have h1:=Zgp gs t first white (f7 x) V i
  have h2:=f7_le h i
  omega
 exact Q2l
theorem Zy2 (gs:List Gr) (t:Ti) (V first:Nat) (p:SL × Nat) (l:List (SL × Nat)):(Zeh gs t V first p l 2).length≤l.length+2:=by
 simp only [Zeh,addX]
 have h1:=Zsh l (Zai gs t V first false p.1) (getM l (Zai gs t V first false p.1)+p.2)
 generalize putM l (Zai gs t V first false p.1) (getM l (Zai gs t V first false p.1)+p.2)=m at *
 have h2:=Zsh m (Zai gs t V first true p.1) (getM m (Zai gs t V first true p.1)+p.2)
 omega
theorem addTo_kb {gs:List Gr}{t:Ti}{V first:Nat}{p:SL × Nat}{l:List (SL × Nat)}{b:Nat}(hV:V≤8) (hx:∀ i∈p.1,i≤b) (h:∀ p∈l,∀ i∈p.1,i≤b+8):∀ q∈Zeh gs t V first p l 2,∀ i∈q.1,i≤b+8 :=
 Zvj (Zvj h (Zpm hV hx) _) (Zpm hV hx) _
theorem Zy1 {gs:List Gr}{t:Ti}{V first:Nat}{p:SL × Nat}{l:List (SL × Nat)}{S:List SL}(hV:V≤8) (hx:∀ i∈p.1,i < 900) (h:Rep l S):Rep (Zeh gs t V first p l 2) (S ++ Zkr (Zai gs t V first) p):=by
 have h1:=h.add (Ze1 (gs:=gs) (t:=t) (V:=V) (first:=first) (white:=false) hV hx) p.2
 have h2:=h1.add (Ze1 (gs:=gs) (t:=t) (V:=V) (first:=first) (white:=true) hV hx) p.2
 rw [List.append_assoc] at h2
 exact h2
theorem Zgx {n:Nat}{seen:List Nat}(hn:seen.Nodup) (hl:∀ i∈seen,i < n):seen.length≤n:=by
 have h1:seen.Perm ((List.range n).filter fun i=>decide (i∈seen)):=(List.perm_ext_iff_of_nodup hn (List.Pairwise.filter _ List.nodup_range)).2 fun i=>by
  simp only [List.mem_filter,List.mem_range,decide_eq_true_eq]
  exact ⟨fun h=>⟨hl i h,h⟩,fun h=>h.2⟩
 have h2:=h1.length_eq
 have h3:=List.length_filter_le (fun i=>decide (i∈seen)) (List.range n)
 simp only [List.length_range] at h3
 omega
theorem Zy4 (st:Bool→SL→SL) (p:SL × Nat):(Zkr st p).length=2 * p.2:=by simp [Zkr];omega
theorem Zni {α:Type}(f:α→List SL) (M:Nat) (L:List α) (h:∀ p∈L,(f p).length≤M):(L.flatMap f).length≤L.length * M:=by
 induction L with
 | nil=>simp
 | cons p L ih =>
  rw [List.flatMap_cons,List.length_append,List.length_cons,Nat.succ_mul]
  have h1:=h p sp_
  have h2:=ih (fun q hq=>h q (by simp [hq]))
  omega
theorem Rep.val_le {l:List (SL × Nat)}{S:List SL}(h:Rep l S) {j:Nat}{p:SL × Nat}(hj:l[j]? = some p):p.2≤S.length:=by
 rw [← Zwt h.1 hj,h.2]
 exact List.count_le_length
structure L3 (gs:List Gr) (t:Ti) (V first:Nat) (W:World) (base r sm mn b:Nat) (l:List (SL × Nat)) (ds:List Deferred) (w:World) (seen:List Nat) (cur:List (SL × Nat)):Prop where
 marks:Marks base ds w
 off:Off [mn,r] W.heap.size W w
 it:IterIs w r sm l.length seen
 nd:seen.Nodup
 lt:∀ i∈seen,i < l.length
 src:MapIs w sm l
 nxt:MapIs w mn cur
 rep:Rep cur ((seen.map fun i=>l.getD i ([],0)).flatMap (Zkr (Zai gs t V first)))
 kb:∀ p∈cur,∀ i∈p.1,i≤b+8
 len:cur.length≤2 * seen.length
theorem L3.small {gs:List Gr}{t:Ti}{V first:Nat}{W:World}{base r sm mn b:Nat}{l:List (SL × Nat)}{ds:List Deferred}{w:World}{seen:List Nat}{cur:List (SL × Nat)}{S:List SL}
  (h:L3 gs t V first W base r sm mn b l ds w seen cur) (hl:Rep l S) (hS:S.length≤256) (hll:l.length≤256) {j:Nat}{p:SL × Nat}(hj:l[j]? = some p) (y:SL):getM cur y+2 * p.2 < 2 ^ 62:=by
 have h1:=hl.val_le hj
 have h2:=Zgx h.nd h.lt
 have h3:getM cur y≤((seen.map fun i=>l.getD i ([],0)).flatMap (Zkr (Zai gs t V first))).length:=by rw [h.rep.2];exact List.count_le_length
 have h4:=Zni (Zkr (Zai gs t V first)) 512 (seen.map fun i=>l.getD i ([],0)) (fun q hq=>by
  obtain ⟨i,hi,rfl⟩:=List.mem_map.1 hq
  have hil:=h.lt i hi
  have:l[i]? = some (l.getD i ([],0)):=by rw [List.getD_eq_getElem?_getD];simp [hil]
  have:=hl.val_le this
  rw [Zy4];omega)
 rw [List.length_map] at h4
 have h5:seen.length * 512≤256 * 512:=Nat.mul_le_mul_right _ om_
 omega
theorem _root_.Q2z {p:Prop}(h:p:=by
 rw [List.nodup_append]
 exact ⟨h.nd,sp_,by intro a ha c hc e;simp at hc;subst hc;subst e;exact hi ha⟩):p:=h
theorem L3.step {gs:List Gr}{t:Ti}{V first:Nat}{W:World}{base r sm mn b:Nat}{l:List (SL × Nat)}{ds ds':List Deferred}{w w':World}{seen:List Nat}{cur:List (SL × Nat)}{i:Nat}{p:SL × Nat}
  (h:L3 gs t V first W base r sm mn b l ds w seen cur) (hV:V≤8) (hb:b≤800) (hp:l[i]? = some p) (hi:i ∉ seen) (hk:∀ p∈l,∀ i∈p.1,i≤b)
  (hm:Marks base ds' w') (ho:Off [mn,r] W.heap.size W w') (hit:IterIs w' r sm l.length (seen ++ [i])) (hs:MapIs w' sm l) (hn:MapIs w' mn (Zeh gs t V first p cur 2)) :
  L3 gs t V first W base r sm mn b l ds' w' (seen ++ [i]) (Zeh gs t V first p cur 2):=by
 have hil:=(List.getElem?_eq_some_iff.1 hp).1
 have hpx:=hk p (List.mem_of_getElem? hp)
 refine ⟨hm,ho,hit,?_,?_,hs,hn,?_,addTo_kb hV hpx h.kb,?_⟩
 ·exact Q2z
 ·intro j hj
  rcases List.mem_append.1 hj with hj|hj
  ·exact h.lt j hj
  ·simp at hj;omega
 ·have h1:=Zy1 (gs:=gs) (t:=t) (V:=V) (first:=first) (p:=p) hV (fun i hi=>by have:=hpx i hi;omega) h.rep
  have:l.getD i ([],0)=p:=by rw [List.getD_eq_getElem?_getD,hp];rfl
  rw [List.map_append,List.flatMap_append,List.map_singleton,List.flatMap_singleton,this]
  exact h1
 ·have:=Zy2 gs t V first p cur
  have:=h.len
  simp;omega
theorem Zx2 {u0 u1 u2 u4 u5 u6 u7 u9 u11 u12 u13 u14 u15 u20 u21 u22 u23 u24 u25 u26 u27 u28 u29 u30 u31 u32 u33 u34 u35 u36 u37 u38 u39 u40 u41 u42 u43 u44 u45 u46 u47 u48 u49 u50 u51 u52 u53 u54 u55 u56 u57 u58 u59 u60 u61 u62 u63 u64 u65 u66 u67 u68 u69 u70 u71 u72 u73 u74 u75 u76 u77 u78 u79 u80 u81 u82 u83 u84 u85 u86 u87 u88 u89 u90 u91 u92 u93 u94 u95 u96 u97 u98 u99 u100 u101 u102 u103 u104 u105 u106 u107 u108 u109 u110 u111 u112 u113 u114 u115 u116 u117 u118 u119 u120 u121 u122 u123 u124 u125 u126 u127 u129 u130 u131 u132 u133 u134 u135 u136 u137 u138 u139 u140 u141 u142 u143 u144 u145 u146 u147 u148 u149 u150 u151 u152 u153 u154 u155 u156 u157 u158 u159 u160 u161 u162 u163 u164 u165 u166 u167 u168 u169 u170 u171 u172 u173 u174 u175 u176 u177 u178 u179 u180 u181 u182 u183 u184 u185 u186 u187 u188 u189 u190:Value}{ds:List Deferred}(Q:Exit→Act→World→Prop) (W:World) (base v nb V bt gp gb gc fb p17 p18 p19 mn first:Nat) (t:Ti) (gs:List Gr) (p:SL × Nat) (lst:List (SL × Nat))
  (hV:V≤8) (hgl:gs.length≤7) (hvo:∀ g∈gs,g.1 < 2 ^ 62) (hx7:p.1.length=7) (hx:∀ i∈p.1,i < 900)
  (env:REnv W v nb bt gp gb gc fb V first t gs) (e17:Blk W p17 #[.map (some mn)] 249) (e18:Blk W p18 (Zaq p.1) 248) (e19:Blk W p19 #[.int .i64 p.2] 3)
  (hm:MapIs W mn lst) (hmo:MapOk lst) (hbnd:∀ y,getM lst y+2 * p.2 < 2 ^ 62) (hmk:Marks base ds W) (hbase:base≤W.heap.size)
  (hnext:∀ ds' W',Off [mn] W.heap.size W W'→Marks base ds' W'→MapIs W' mn (Zeh gs t V first p lst 2) →
   Q .normal ⟨(u0 :: u1 :: u2 :: .pointer nb :: u4 :: u5 :: u6 :: u7 :: .pointer bt :: u9 :: .pointer gp :: u11 :: u12 :: u13 :: u14 :: u15 :: .pointer fb :: .pointer p17 :: .pointer p18 :: .pointer p19 :: u20 :: u21 :: u22 :: u23 :: u24 :: u25 :: u26 :: u27 :: u28 :: u29 :: u30 :: u31 :: u32 :: u33 :: u34 :: u35 :: u36 :: u37 :: u38 :: u39 :: u40 :: u41 :: u42 :: u43 :: u44 :: u45 :: u46 :: u47 :: u48 :: u49 :: u50 :: u51 :: u52 :: u53 :: u54 :: u55 :: u56 :: u57 :: u58 :: u59 :: u60 :: u61 :: u62 :: u63 :: u64 :: u65 :: u66 :: u67 :: u68 :: u69 :: u70 :: u71 :: u72 :: u73 :: u74 :: u75 :: u76 :: u77 :: u78 :: u79 :: u80 :: u81 :: u82 :: u83 :: u84 :: u85 :: u86 :: u87 :: u88 :: u89 :: u90 :: u91 :: u92 :: u93 :: u94 :: u95 :: u96 :: u97 :: u98 :: u99 :: u100 :: u101 :: u102 :: u103 :: u104 :: u105 :: u106 :: u107 :: u108 :: u109 :: u110 :: u111 :: u112 :: u113 :: u114 :: u115 :: u116 :: u117 :: u118 :: u119 :: u120 :: u121 :: u122 :: u123 :: u124 :: u125 :: u126 :: u127 :: .func (.func 262) #[] #[] :: u129 :: u130 :: u131 :: u132 :: u133 :: u134 :: u135 :: u136 :: u137 :: u138 :: u139 :: u140 :: u141 :: u142 :: u143 :: u144 :: u145 :: u146 :: u147 :: u148 :: u149 :: u150 :: u151 :: u152 :: u153 :: u154 :: u155 :: u156 :: u157 :: u158 :: u159 :: u160 :: u161 :: u162 :: u163 :: u164 :: u165 :: u166 :: u167 :: u168 :: u169 :: u170 :: u171 :: u172 :: u173 :: u174 :: u175 :: u176 :: u177 :: u178 :: u179 :: u180 :: u181 :: u182 :: u183 :: u184 :: u185 :: u186 :: u187 :: u188 :: u189 :: u190 :: []).toArray,ds'⟩ W') :
  cRf.wp prog Q ⟨(u0 :: u1 :: u2 :: .pointer nb :: u4 :: u5 :: u6 :: u7 :: .pointer bt :: u9 :: .pointer gp :: u11 :: u12 :: u13 :: u14 :: u15 :: .pointer fb :: .pointer p17 :: .pointer p18 :: .pointer p19 :: u20 :: u21 :: u22 :: u23 :: u24 :: u25 :: u26 :: u27 :: u28 :: u29 :: u30 :: u31 :: u32 :: u33 :: u34 :: u35 :: u36 :: u37 :: u38 :: u39 :: u40 :: u41 :: u42 :: u43 :: u44 :: u45 :: u46 :: u47 :: u48 :: u49 :: u50 :: u51 :: u52 :: u53 :: u54 :: u55 :: u56 :: u57 :: u58 :: u59 :: u60 :: u61 :: u62 :: u63 :: u64 :: u65 :: u66 :: u67 :: u68 :: u69 :: u70 :: u71 :: u72 :: u73 :: u74 :: u75 :: u76 :: u77 :: u78 :: u79 :: u80 :: u81 :: u82 :: u83 :: u84 :: u85 :: u86 :: u87 :: u88 :: u89 :: u90 :: u91 :: u92 :: u93 :: u94 :: u95 :: u96 :: u97 :: u98 :: u99 :: u100 :: u101 :: u102 :: u103 :: u104 :: u105 :: u106 :: u107 :: u108 :: u109 :: u110 :: u111 :: u112 :: u113 :: u114 :: u115 :: u116 :: u117 :: u118 :: u119 :: u120 :: u121 :: u122 :: u123 :: u124 :: u125 :: u126 :: u127 :: .func (.func 262) #[] #[] :: u129 :: u130 :: u131 :: u132 :: u133 :: u134 :: u135 :: u136 :: u137 :: u138 :: u139 :: u140 :: u141 :: u142 :: u143 :: u144 :: u145 :: u146 :: u147 :: u148 :: u149 :: u150 :: u151 :: u152 :: u153 :: u154 :: u155 :: u156 :: u157 :: u158 :: u159 :: u160 :: u161 :: u162 :: u163 :: u164 :: u165 :: u166 :: u167 :: u168 :: u169 :: u170 :: u171 :: u172 :: u173 :: u174 :: u175 :: u176 :: u177 :: u178 :: u179 :: u180 :: u181 :: u182 :: u183 :: u184 :: u185 :: u186 :: u187 :: u188 :: u189 :: u190 :: []).toArray,ds⟩ W:=by
 have hcode:cRf=.rangeFunc (.tmp 128) #[129] (rfA cRf) (sI cRf):=rfl
 rw [hcode]
 refine (wpIn_wide (n:=0)).1 (wpIn_rangeFunc ?_)
 intro fn _
 obtain ⟨T0,HT0⟩:∃ T0:Array Value,T0=(u0 :: u1 :: u2 :: .pointer nb :: u4 :: u5 :: u6 :: u7 :: .pointer bt :: u9 :: .pointer gp :: u11 :: u12 :: u13 :: u14 :: u15 :: .pointer fb :: .pointer p17 :: .pointer p18 :: .pointer p19 :: u20 :: u21 :: u22 :: u23 :: u24 :: u25 :: u26 :: u27 :: u28 :: u29 :: u30 :: u31 :: u32 :: u33 :: u34 :: u35 :: u36 :: u37 :: u38 :: u39 :: u40 :: u41 :: u42 :: u43 :: u44 :: u45 :: u46 :: u47 :: u48 :: u49 :: u50 :: u51 :: u52 :: u53 :: u54 :: u55 :: u56 :: u57 :: u58 :: u59 :: u60 :: u61 :: u62 :: u63 :: u64 :: u65 :: u66 :: u67 :: u68 :: u69 :: u70 :: u71 :: u72 :: u73 :: u74 :: u75 :: u76 :: u77 :: u78 :: u79 :: u80 :: u81 :: u82 :: u83 :: u84 :: u85 :: u86 :: u87 :: u88 :: u89 :: u90 :: u91 :: u92 :: u93 :: u94 :: u95 :: u96 :: u97 :: u98 :: u99 :: u100 :: u101 :: u102 :: u103 :: u104 :: u105 :: u106 :: u107 :: u108 :: u109 :: u110 :: u111 :: u112 :: u113 :: u114 :: u115 :: u116 :: u117 :: u118 :: u119 :: u120 :: u121 :: u122 :: u123 :: u124 :: u125 :: u126 :: u127 :: .func (.func 262) #[] #[] :: u129 :: u130 :: u131 :: u132 :: u133 :: u134 :: u135 :: u136 :: u137 :: u138 :: u139 :: u140 :: u141 :: u142 :: u143 :: u144 :: u145 :: u146 :: u147 :: u148 :: u149 :: u150 :: u151 :: u152 :: u153 :: u154 :: u155 :: u156 :: u157 :: u158 :: u159 :: u160 :: u161 :: u162 :: u163 :: u164 :: u165 :: u166 :: u167 :: u168 :: u169 :: u170 :: u171 :: u172 :: u173 :: u174 :: u175 :: u176 :: u177 :: u178 :: u179 :: u180 :: u181 :: u182 :: u183 :: u184 :: u185 :: u186 :: u187 :: u188 :: u189 :: u190 :: []).toArray:=⟨_,rfl⟩
 rw [← HT0]
 obtain ⟨W1,hW1⟩:∃ W1,(W.alloc (.deferred (some []))).alloc (.loop (cRec fn W.heap.size T0 .ready none))=W1:=⟨_,rfl⟩
 have hlm:=hmk.lt
 have hml:=hm.lt
 have ho1:Off [] W.heap.size W W1:=by rw [← hW1];exact ((Off.refl _ _ _).alloc nl_ _).alloc sp_ _
 have hs1:W1.heap.size=W.heap.size+2:=by rw [← hW1];simp
 have hD1:W1.heap[W.heap.size]? = some (.deferred (some [])):=by rw [← hW1];exact (Below.heap_alloc _ _ _ sp_).trans (World.alloc_heap_new W _)
 have hL1:W1.heap[W.heap.size+1]? = some (.loop (cRec fn W.heap.size T0 .ready none)):=by rw [← hW1];have:=World.alloc_heap_new (W.alloc (.deferred (some []))) (.loop (cRec fn W.heap.size T0 .ready none));rwa [World.size_alloc] at this
 refine ⟨W.heap.size+1,[Mk W.heap.size],W1,{ target:=.fn (.func 262) #[],args:=#[.func (.yield (W.heap.size+1)) #[] #[]] },W1,262,
  #[.func (.yield (W.heap.size+1)) #[] #[]],W1,?_,?_,fun _ _=>trivial,?_,fun h=>by simp [Fence.wide] at h,?_⟩
 ·rw [← hW1];exact run_enterLoop_outer _ _ _ _ _
 ·simp [resolve,go_sem,HT0]
 ·simp [invoke,go_sem]
 refine CallsIn.mono (Zpi (W.heap.size+1) (0 - 1) fn W.heap.size W1 v nb V bt gp gb gc fb p17 p18 p19 mn first t gs p lst T0 HT0 hV hgl hvo hx7 hx (env.off ho1 sp_) (ho1.blk e17 e17.lt sp_) (ho1.blk e18 e18.lt sp_) (ho1.blk e19 e19.lt sp_)
  (ho1.map hm hml sp_) hmo hbnd hL1) ?_
 rintro e W2 ⟨⟨x,rfl⟩,ho2,hL2,hm2⟩
 have hend:=run_endLoop (P:=prog) hL2 (by simp [cRec])
 obtain ⟨W3,hW3⟩:∃ W3,W2.putObj (W.heap.size+1) (.loop { cRec fn W.heap.size T0 .ready none with state:=.exhausted })=W3:=⟨_,rfl⟩
 rw [hW3] at hend
 have ho3:Off [mn,W.heap.size+1] W1.heap.size W1 W3:=by rw [← hW3];exact ho2.putObj (.inl sp_) _
 have hm3:MapIs W3 mn (Zeh gs t V first p lst 2):=by rw [← hW3];exact (World.putObj_heap_other om_).trans hm2
 refine ⟨none,W3,hend,?_⟩
 have hd3:W3.heap[W.heap.size]? = some (.deferred (some [])):=(ho3.block _ om_ (by simp;omega)).trans hD1
 have hoW:Off [mn] W.heap.size W W3:=(ho1.mono nl_ sp_).trans (ho3.mono om_ (fun k hk e=>by simp at e ⊢;omega))
 have hmk3:Marks base ds W3:=hmk.off hoW (by
  intro k hk x
  simp at hk;subst hk
  rw [show W.heap[k]? = _ from hm]
  simp)
 rw [HT0]
 exact hnext _ _ hoW (hmk3.cons hbase hd3 (fun d hd e=>by
  obtain ⟨D,rfl,hD⟩:=hlm d hd
  simp [Mk] at e;omega)) hm3
def Zjk (w:World) (r:Nat):Nat:=match w.heap[r]? with
 | some (.mapIter _ _ s _)=>s.size
 | _=>0
theorem IterIs.len {w:World}{r m n:Nat}{seen:List Nat}(h:IterIs w r m n seen):Zjk w r=seen.length:=by
 obtain ⟨c,-,h⟩:=h
 unfold Zjk
 rw [h]
 simp
theorem IterIs.noC {w:World}{r m n:Nat}{seen:List Nat}(h:IterIs w r m n seen):NoC w r:=by
 obtain ⟨c,-,h⟩:=h
 intro A t f hh
 rw [h] at hh
 cases hh
theorem IterIs.noD {w:World}{r m n:Nat}{seen:List Nat}(h:IterIs w r m n seen):∀ x,w.heap[r]?≠some (.deferred x):=by
 obtain ⟨c,-,h⟩:=h
 intro x hh
 rw [h] at hh
 cases hh
theorem IterIs.ne_map {w:World}{r m n m':Nat}{seen:List Nat}{l:List (SL × Nat)}(h:IterIs w r m n seen) (hm:MapIs w m' l):r≠m':=by
 obtain ⟨c,-,h⟩:=h
 intro e
 subst e
 rw [show w.heap[r]? = _ from hm] at h
 cases h
theorem IterIs.off {w w':World}{T:List Nat}{k r m n:Nat}{seen:List Nat}(h:IterIs w r m n seen) (ho:Off T k w w') (hr:r < k) (ht:r ∉ T):IterIs w' r m n seen:=by
 obtain ⟨c,hc,h⟩:=h
 exact ⟨c,hc,(ho.block r hr ht).trans h⟩
theorem L3.done {gs:List Gr}{t:Ti}{V first:Nat}{W:World}{base r sm mn b:Nat}{l:List (SL × Nat)}{ds:List Deferred}{w:World}{seen:List Nat}{cur:List (SL × Nat)}{S:List SL}
  (h:L3 gs t V first W base r sm mn b l ds w seen cur) (hl:Rep l S) (hall:∀ i,i < l.length→i∈seen):Rep cur (S.flatMap fun x=>[Zai gs t V first false x,Zai gs t V first true x]):=by
 have h1:=Zor l ([],0) seen h.nd h.lt hall
 have h2:=h1.flatMap_right (Zkr (Zai gs t V first))
 have h3:=(Zy5 (Zai gs t V first) l).trans (hl.expand.flatMap_right fun x=>[Zai gs t V first false x,Zai gs t V first true x])
 exact h.rep.perm (h2.trans h3)
theorem b_beans (w:World):Calls prog 192 #[] w (Same (.func (.func 262) #[] #[]) w):=by
 go_enter func192,ntmps192
 go_wp2
 go_ret
 exact ⟨rfl,rfl⟩
theorem _root_.Q2h {p:Prop}(h:p:=by
 intro p hpm
 have hp7:=(hl.1.1 p hpm).1
 have q2:=Zht (f7 p.1)
 rw [Zew p.1 hp7] at q2
 exact ⟨by simp [Zaq,hp7],q2⟩):p:=h
theorem Zx5 {u0 u1 u2 u4 u5 u6 u7 u9 u11 u12 u13 u14 u15 u18 u19 u20 u21 u22 u23 u24 u25 u26 u27 u28 u29 u30 u31 u32 u33 u34 u35 u36 u37 u38 u39 u40 u41 u42 u43 u44 u45 u46 u47 u48 u49 u50 u51 u52 u53 u54 u55 u56 u57 u58 u59 u60 u61 u62 u63 u64 u65 u66 u67 u68 u69 u70 u71 u72 u73 u74 u75 u76 u77 u78 u79 u80 u81 u82 u83 u84 u85 u86 u87 u88 u89 u90 u91 u92 u93 u94 u95 u96 u97 u98 u99 u100 u101 u102 u103 u104 u105 u106 u107 u108 u109 u110 u111 u112 u113 u114 u115 u116 u117 u118 u119 u120 u121 u123 u124 u125 u126 u127 u128 u129 u130 u131 u132 u133 u134 u135 u136 u137 u138 u139 u140 u141 u142 u143 u144 u145 u146 u147 u148 u149 u150 u151 u152 u153 u154 u155 u156 u157 u158 u159 u160 u161 u162 u163 u164 u165 u166 u167 u168 u169 u170 u171 u172 u173 u174 u175 u176 u177 u178 u179 u180 u181 u182 u183 u184 u185 u186 u187 u188 u189 u190:Value}{ds:List Deferred}(Q:Exit→Act→World→Prop) (W:World) (base v nb V bt gp gb gc fb p17 r sm mn first b:Nat) (t:Ti) (gs:List Gr) (l:List (SL × Nat)) (S:List SL)
  (hV:V≤8) (hgl:gs.length≤7) (hvo:∀ g∈gs,g.1 < 2 ^ 62) (hsmn:sm≠mn)
  (env:REnv W v nb bt gp gb gc fb V first t gs) (e17:Blk W p17 #[.map (some mn)] 249)
  (hl:Rep l S) (hS:S.length≤256) (hll:l.length≤256) (hk:∀ p∈l,∀ i∈p.1,i≤b) (hb:b≤800)
  (h0:L3 gs t V first W base r sm mn b l ds W [] []) (hbase:base≤W.heap.size)
  (hexit:∀ ds' (x18 x19 x123 x124 x125 x126 x127 x128:Value) W' cur,Marks base ds' W'→Off [mn,r] W.heap.size W W'→MapIs W' mn cur→Rep cur (S.flatMap fun x=>[Zai gs t V first false x,Zai gs t V first true x]) →
   (∀ p∈cur,∀ i∈p.1,i≤b+8)→cur.length≤2 * l.length →
   Q (.exit 4) ⟨(u0 :: u1 :: u2 :: .pointer nb :: u4 :: u5 :: u6 :: u7 :: .pointer bt :: u9 :: .pointer gp :: u11 :: u12 :: u13 :: u14 :: u15 :: .pointer fb :: .pointer p17 :: x18 :: x19 :: u20 :: u21 :: u22 :: u23 :: u24 :: u25 :: u26 :: u27 :: u28 :: u29 :: u30 :: u31 :: u32 :: u33 :: u34 :: u35 :: u36 :: u37 :: u38 :: u39 :: u40 :: u41 :: u42 :: u43 :: u44 :: u45 :: u46 :: u47 :: u48 :: u49 :: u50 :: u51 :: u52 :: u53 :: u54 :: u55 :: u56 :: u57 :: u58 :: u59 :: u60 :: u61 :: u62 :: u63 :: u64 :: u65 :: u66 :: u67 :: u68 :: u69 :: u70 :: u71 :: u72 :: u73 :: u74 :: u75 :: u76 :: u77 :: u78 :: u79 :: u80 :: u81 :: u82 :: u83 :: u84 :: u85 :: u86 :: u87 :: u88 :: u89 :: u90 :: u91 :: u92 :: u93 :: u94 :: u95 :: u96 :: u97 :: u98 :: u99 :: u100 :: u101 :: u102 :: u103 :: u104 :: u105 :: u106 :: u107 :: u108 :: u109 :: u110 :: u111 :: u112 :: u113 :: u114 :: u115 :: u116 :: u117 :: u118 :: u119 :: u120 :: u121 :: .pointer r :: x123 :: x124 :: x125 :: x126 :: x127 :: x128 :: u129 :: u130 :: u131 :: u132 :: u133 :: u134 :: u135 :: u136 :: u137 :: u138 :: u139 :: u140 :: u141 :: u142 :: u143 :: u144 :: u145 :: u146 :: u147 :: u148 :: u149 :: u150 :: u151 :: u152 :: u153 :: u154 :: u155 :: u156 :: u157 :: u158 :: u159 :: u160 :: u161 :: u162 :: u163 :: u164 :: u165 :: u166 :: u167 :: u168 :: u169 :: u170 :: u171 :: u172 :: u173 :: u174 :: u175 :: u176 :: u177 :: u178 :: u179 :: u180 :: u181 :: u182 :: u183 :: u184 :: u185 :: u186 :: u187 :: u188 :: u189 :: u190 :: []).toArray,ds'⟩ W') :
  cC.wp prog Q ⟨(u0 :: u1 :: u2 :: .pointer nb :: u4 :: u5 :: u6 :: u7 :: .pointer bt :: u9 :: .pointer gp :: u11 :: u12 :: u13 :: u14 :: u15 :: .pointer fb :: .pointer p17 :: u18 :: u19 :: u20 :: u21 :: u22 :: u23 :: u24 :: u25 :: u26 :: u27 :: u28 :: u29 :: u30 :: u31 :: u32 :: u33 :: u34 :: u35 :: u36 :: u37 :: u38 :: u39 :: u40 :: u41 :: u42 :: u43 :: u44 :: u45 :: u46 :: u47 :: u48 :: u49 :: u50 :: u51 :: u52 :: u53 :: u54 :: u55 :: u56 :: u57 :: u58 :: u59 :: u60 :: u61 :: u62 :: u63 :: u64 :: u65 :: u66 :: u67 :: u68 :: u69 :: u70 :: u71 :: u72 :: u73 :: u74 :: u75 :: u76 :: u77 :: u78 :: u79 :: u80 :: u81 :: u82 :: u83 :: u84 :: u85 :: u86 :: u87 :: u88 :: u89 :: u90 :: u91 :: u92 :: u93 :: u94 :: u95 :: u96 :: u97 :: u98 :: u99 :: u100 :: u101 :: u102 :: u103 :: u104 :: u105 :: u106 :: u107 :: u108 :: u109 :: u110 :: u111 :: u112 :: u113 :: u114 :: u115 :: u116 :: u117 :: u118 :: u119 :: u120 :: u121 :: .pointer r :: u123 :: u124 :: u125 :: u126 :: u127 :: u128 :: u129 :: u130 :: u131 :: u132 :: u133 :: u134 :: u135 :: u136 :: u137 :: u138 :: u139 :: u140 :: u141 :: u142 :: u143 :: u144 :: u145 :: u146 :: u147 :: u148 :: u149 :: u150 :: u151 :: u152 :: u153 :: u154 :: u155 :: u156 :: u157 :: u158 :: u159 :: u160 :: u161 :: u162 :: u163 :: u164 :: u165 :: u166 :: u167 :: u168 :: u169 :: u170 :: u171 :: u172 :: u173 :: u174 :: u175 :: u176 :: u177 :: u178 :: u179 :: u180 :: u181 :: u182 :: u183 :: u184 :: u185 :: u186 :: u187 :: u188 :: u189 :: u190 :: []).toArray,ds⟩ W:=by
 have hcode:cC=.loop (sI cC):=rfl
 rw [hcode]
 have HE:=hd_ hexit
 clear hexit
 refine wp_loop (fun a w=>∃ (x18 x19 x123 x124 x125 x126 x127 x128:Value) (ds':List Deferred) (seen:List Nat) (cur:List (SL × Nat)),L3 gs t V first W base r sm mn b l ds' w seen cur ∧
  a=⟨(u0 :: u1 :: u2 :: .pointer nb :: u4 :: u5 :: u6 :: u7 :: .pointer bt :: u9 :: .pointer gp :: u11 :: u12 :: u13 :: u14 :: u15 :: .pointer fb :: .pointer p17 :: x18 :: x19 :: u20 :: u21 :: u22 :: u23 :: u24 :: u25 :: u26 :: u27 :: u28 :: u29 :: u30 :: u31 :: u32 :: u33 :: u34 :: u35 :: u36 :: u37 :: u38 :: u39 :: u40 :: u41 :: u42 :: u43 :: u44 :: u45 :: u46 :: u47 :: u48 :: u49 :: u50 :: u51 :: u52 :: u53 :: u54 :: u55 :: u56 :: u57 :: u58 :: u59 :: u60 :: u61 :: u62 :: u63 :: u64 :: u65 :: u66 :: u67 :: u68 :: u69 :: u70 :: u71 :: u72 :: u73 :: u74 :: u75 :: u76 :: u77 :: u78 :: u79 :: u80 :: u81 :: u82 :: u83 :: u84 :: u85 :: u86 :: u87 :: u88 :: u89 :: u90 :: u91 :: u92 :: u93 :: u94 :: u95 :: u96 :: u97 :: u98 :: u99 :: u100 :: u101 :: u102 :: u103 :: u104 :: u105 :: u106 :: u107 :: u108 :: u109 :: u110 :: u111 :: u112 :: u113 :: u114 :: u115 :: u116 :: u117 :: u118 :: u119 :: u120 :: u121 :: .pointer r :: x123 :: x124 :: x125 :: x126 :: x127 :: x128 :: u129 :: u130 :: u131 :: u132 :: u133 :: u134 :: u135 :: u136 :: u137 :: u138 :: u139 :: u140 :: u141 :: u142 :: u143 :: u144 :: u145 :: u146 :: u147 :: u148 :: u149 :: u150 :: u151 :: u152 :: u153 :: u154 :: u155 :: u156 :: u157 :: u158 :: u159 :: u160 :: u161 :: u162 :: u163 :: u164 :: u165 :: u166 :: u167 :: u168 :: u169 :: u170 :: u171 :: u172 :: u173 :: u174 :: u175 :: u176 :: u177 :: u178 :: u179 :: u180 :: u181 :: u182 :: u183 :: u184 :: u185 :: u186 :: u187 :: u188 :: u189 :: u190 :: []).toArray,ds'⟩) (fun _ w=>l.length - Zjk w r)
  ⟨u18,u19,u123,u124,u125,u126,u127,u128,ds,[],[],h0,rfl⟩ ?_
 rintro a w ⟨x18,x19,x123,x124,x125,x126,x127,x128,ds',seen,cur,h,rfl⟩
 have hmn:=h.nxt
 have hrs:=h0.it.lt
 have hWm:=h0.nxt.lt
 have hOs:=h.off.size
 have hrm:r≠mn:=h.it.ne_map h.nxt
 have hsm:sm < W.heap.size:=h0.src.lt
 have hrn:r≠sm:=h.it.ne_map h.src
 have hT:∀ k∈[mn,r],NoC W k:=by simp;exact ⟨NoC.map h0.nxt,h0.it.noC⟩
 have envw:=env.off h.off hT
 have f17:=h.off.blk e17 e17.lt (fun e=>(hT _ e).blk e17 rfl)
 have hlen:=h.it.len
 have hit:=h.it
 have hsrc:=h.src
 have lt17:=f17.lt
 have ltm:=hmn.lt
 have ltr:=hit.lt
 have lts:=hsrc.lt
 have hsnl:=Zgx h.nd h.lt
 conv=>arg 2;whnf
 have HQ7:Hid (∀ p∈l,(Zaq p.1).size=7∧(Zaq p.1).all (·.oneCell')=true):=Q2h
 go_wp2_with (first
  | (refine Zg8 (.tmp 122) rfl rfl rfl hit hsrc ?_ ?_;intro hall;have HALL:=hd_ hall;clear hall;rotate_left;intro i p w1 hp hni ht1 hit1 hs1 hen;have q1:=(HQ7.out p (List.mem_of_getElem? hp)).1;have q2:=(HQ7.out p (List.mem_of_getElem? hp)).2;have HT1:=hd_ ht1;clear ht1;have HP:=hd_ hp;clear hp;have HNI:=hd_ hni;clear hni)
  | (refine Za1 248 (.tmp 18) (.tmp 126) Zep rfl rfl rfl rfl ((Blk.new _ _ _).alloc _) rfl q1 q2 ?_;intro w5 h5;have b19:Blk w5 (w1.heap.size+1) #[()] 3:=h5.other (Blk.new' _ _ _ _ sp_) om_;have c19:=b19.cell;have f19:=b19.free))
 ·have hz1:w1.heap.size=w.heap.size:=HT1.out.size
  have ho1:Off [r] w.heap.size w w1:=(Off.refl _ _ _).turn HT1.out (.inl sp_)
  have ho5:Off [] w1.heap.size w1 w5:=(((Off.refl _ _ _).alloc nl_ _).alloc sp_ _).rowed h5 (.inr nl_)
  have b18:=h5.blk
  have hz5:w5.heap.size=w1.heap.size+2:=by rw [h5.size];simp
  have b19':=b19.set 0 (.int .i64 p.2)
  refine (b_beans _).mono ?_
  rintro e w6 ⟨rfl,rfl⟩
  have ho6:Off [] w1.heap.size w1 (w5.setCell ⟨w1.heap.size+1,0,none⟩ (.int .i64 p.2)):=ho5.setCell (.inr sp_) _
  have b18':=b18.other (p:=⟨w1.heap.size+1,0,none⟩) sp_ (.int .i64 p.2)
  have hz6:(w5.setCell ⟨w1.heap.size+1,0,none⟩ (.int .i64 p.2)).heap.size=w1.heap.size+2:=by simp [hz5]
  clear b18 b19 c19 f19 h5 hen
  generalize w5.setCell ⟨w1.heap.size+1,0,none⟩ (.int .i64 p.2)=w6 at *
  have ho:Off [r] w.heap.size w w6:=ho1.trans (ho6.mono om_ sp_)
  have hmn6:=ho.map hmn ltm (by simpa using Ne.symm hrm)
  have hs6:=ho.map hsrc lts (by simpa using Ne.symm hrn)
  have hit6:IterIs w6 r sm l.length (seen ++ [i]):=hit1.off ho6 om_ sp_
  have hmk6:Marks base ds' w6:=h.marks.off ho (by intro k hk;simp at hk;subst hk;exact hit.noD)
  have f17':=ho.blk f17 lt17 (by simpa using hit.noC.blk f17)
  have env6:=envw.off ho (by intro k hk;simp at hk;subst hk;exact hit.noC)
  have hpk:=hk p (List.mem_of_getElem? HP.out)
  have hp7:=(hl.1.1 p (List.mem_of_getElem? HP.out)).1
  have hsm6:=h.small hl hS hll HP.out
  have HZ1:=hd_ hz1
  have HZ6:=hd_ hz6
  clear hz1 hz5 hz6
  go_wp2_with fail
  have hz1:=HZ1.out
  have hz6:=HZ6.out
  refine Zx2 _ w6 base v nb V bt gp gb gc fb p17 w1.heap.size (w1.heap.size+1) mn first t gs p cur hV hgl hvo hp7 (fun j hj=>by have:=hpk j hj;omega) env6 f17' b18' b19' hmn6 h.rep.1 hsm6 hmk6 om_ ?_
  intro ds2 W2 ho2 hmk2 hm2
  have hstep:=h.step hV hb HP.out HNI.out hk hmk2 (h.off.trans ((ho.mono hOs (by simp;intro k _ e;exact .inr e)).trans (ho2.mono om_ (by simp;intro k _ e;exact .inl e)))) (hit6.off ho2 om_ (by simpa using hrm)) (ho2.map hs6 om_ (by simpa using hsmn)) hm2
  go_wp2_with fail
  refine ⟨⟨_,_,_,_,_,_,_,_,ds2,_,_,hstep,rfl⟩,?_⟩
  rw [hstep.it.len,hlen,List.length_append]
  have:=Zgx hstep.nd hstep.lt
  rw [List.length_append] at this
  simp at this ⊢
  omega
 ·exact HE.out _ _ _ _ _ _ _ _ _ _ _ h.marks h.off h.nxt (h.done hl HALL.out) h.kb (by have:=h.len;omega)
end Go.Proofs.YtbapgefodmmikaaGreatDoor
