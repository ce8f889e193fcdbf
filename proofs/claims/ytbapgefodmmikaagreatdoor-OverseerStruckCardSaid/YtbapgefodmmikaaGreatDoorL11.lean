/- Parts of a proof. -/
import Derived.Test.YtbapgefodmmikaaGreatDoorLMin
import Derived.Test.YtbapgefodmmikaaGreatDoorL10
import Derived.Sort.Defs
import Derived.Sort.Lot0
import Derived.Shelf.SlSortCmp.Kit1
import Derived.Deep.LoopGhost
set_option linter.unusedVariables false
set_option linter.unusedSimpArgs false
set_option maxHeartbeats 40000000
set_option maxRecDepth 100000
namespace Go.Proofs.YtbapgefodmmikaaGreatDoor
open Go.RowKit Go.Proofs Go.Ord Tryz
attribute [local irreducible] Ord.walk
theorem wrapV {b:Bn}(hv:valid b=true):wrap64 (b.V - 1)=b.V - 1:=by
 have:=Zb6 hv
 rw [IntWalk.wrap64_in _ om_]
theorem Zum (b:Bn) (ga:Option Addr) (gc:Nat) (pa:Option Addr) (pc:Nat) (w:World) (hg:GsAt w ga b.gs) (hp:PsAt w pa b.ps) (hv:valid b=true) (hs:0 < csum (Za6 b.V.toNat b.lo b.hi (knOf b))) :
  Calls prog 33 #[bv b ga gc pa pc] w (Zfm (.int .i64 (Zay csum b.V.toNat b.lo b.hi (knOf b) b.V.toNat).1) (.int .i64 (Zay csum b.V.toNat b.lo b.hi (knOf b) b.V.toNat).2) ↑() w):=by
 have hmf:=hmf_ prog
 have HO:=hd_ (fun w' (hb:Below w.heap.size w w')=>Zbv b ga gc pa pc 84 #[] w' (hg.below hb) (hp.below hb) hv (fun args W=>call84 args W) (fun w2 v _ _=>Zch _ _))
 have HC:=hd_ Zgr
 have HS:=hd_ hs
 have HT:=hd_ (fun w1 v ka kc (hvt:Vt w1 v b b.V.toNat (knOf b) ga gc pa pc ka kc)=>Zd9 hvt HS.out)
 have hle:=Zbb b.V.toNat (by have:=Zb6 hv;omega) b.lo b.hi (knOf b)
 have q1:=Zf7 (Za6 b.V.toNat b.lo b.hi (knOf b))
 have q2:=Zf8 (Za6 b.V.toNat b.lo b.hi (knOf b))
 have hcv:Hid (cv (Za6 b.V.toNat b.lo b.hi (knOf b))=.agg (Zb2 (Za6 b.V.toNat b.lo b.hi (knOf b)))):=rfl
 have HU:=hd_ (fun w1 v ka kc (hvt:Vt w1 v b b.V.toNat (knOf b) ga gc pa pc ka kc)=>Zui hvt)
 clear hs q1 q2 hcv hle
 generalize Zay csum b.V.toNat b.lo b.hi (knOf b) b.V.toNat=SU at *
 generalize cv (Za6 b.V.toNat b.lo b.hi (knOf b))=CV at *
 unfold bv at *
 go_enter_defers func33,ntmps33
 refine Zd5 ?_
 go_wp2_with fail
 with_reducible refine (HO.out _ bel_).mono ?_
 rintro e w1 ⟨v,ka,kc,rfl,hvt,hb1,hle⟩
 go_wp2_with fail
 with_reducible refine (HT.out _ _ _ _ hvt).mono ?_
 rintro e w2 ⟨rfl,hb2⟩
 go_wp2_with fail
 with_reducible refine (HU.out _ _ _ _ (hvt.below hb2)).mono ?_
 rintro e w3 ⟨rfl,hb3⟩
 have z1:=hb1.size
 have z2:=hb2.size
 have z3:=hb3.size
 simp only [World.size_alloc] at z1
 have b3:Blk w3 (w.heap.size+1) #[()] 31:=(((Blk.new' _ _ _ _ sp_).below hb1 ar_).below hb2 om_).below hb3 om_
 have hB3:Below w.heap.size w w3:=(((br_.alloc nl_ _).alloc ar_ _).trans (hb1.mono ar_)).trans ((hb2.mono om_).trans (hb3.mono om_))
 clear hb1 hb2 hb3
 go_wp2_with (first
  | (refine Za1 157 (.tmp 6) (.tmp 13) Zdu rfl rfl rfl rfl (Blk.new _ _ _) rfl rfl (by simp [Value.oneCell']) ?_;intro w4 h4))
 have b4:=h4.blk
 have r4:=b4.cell
 have b5:=h4.other (b3.alloc _) (by have:=b3.lt;omega)
 have hB5:Below w.heap.size w w4:=h4.below (hB3.alloc hB3.size _) hB3.size
 have r5:=b5.cell
 have f5:=b5.free
 refine Ord.wp_region [(0,0),(1,0),(2,0),(3,0),(4,0),(5,0),(6,2)] (fun _=>True) kr_ kr_ (fun c a d v w h=>by cases d <;> exact h) trivial ?_
 go_wp2_with (first
  | (refine o_ ?_;intro K hK)|(with_reducible first|refine Zyo ?_ ?_|refine Zyj ?_|refine Zyf bn_ (fun _=>?_)))
 refine Zdg ?_
 refine leaves_cons (f:=95) (args:=#[.pointer (some ⟨w.heap.size+1,0,none⟩)]) sp_ (by simp [go_sem]) ?_
 refine ((HC.out).2 (w.heap.size+1) _).mono ?_
 rintro e u' w6 ⟨rfl,rfl,rfl⟩
 have r6:=(b5.set 0 ↑()).drew.cell
 simp only [settle,Leaves]
 simp [Leaves,settle,results,results33,go_sem,r6]
 exact ⟨rfl,(hB5.setCell ar_ _).drew⟩
theorem Zul (b:Bn) (ga:Option Addr) (gc:Nat) (pa:Option Addr) (pc:Nat) (n:Nat) (w:World) (hg:GsAt w ga b.gs) (hp:PsAt w pa b.ps) (hv:valid b=true) (hi:(inB n 0 (wrap64 (b.V - 1)))=true) (hs:0 < csum (Za6 b.V.toNat b.lo b.hi (knOf b))) :
  Calls prog 32 #[bv b ga gc pa pc,n] w (Zat (.int .i64 (grI (csum (Za6 b.V.toNat b.lo b.hi (knOf b ++ [Kn.g (2 ^ n) 1 1])):Nat) (csum (Za6 b.V.toNat b.lo b.hi (knOf b)):Nat))) ↑() w):=by
 have hmf:=hmf_ prog
 have HO:=hd_ (fun w' (hb:Below w.heap.size w w') (hc0:w'.cell? ⟨w.heap.size+1,0,none⟩=some (.int .i64 n))=>Zbv b ga gc pa pc 88 #[.pointer (some ⟨w.heap.size+1,0,none⟩)] w' (hg.below hb) (hp.below hb) hv (fun args W=>call88 args W) (fun w2 v hb2 h0=>by have:=Zic v _ b.V n w2 h0 (Za4 hb2 hc0);rwa [hi] at this))
 have HC:=hd_ Zgq
 have HS:=hd_ hs
 have HT:=hd_ (fun w1 v ka kc (hvt:Vt w1 v b b.V.toNat (knOf b) ga gc pa pc ka kc)=>Zd9 hvt HS.out)
 have hle:=Zbb b.V.toNat (by have:=Zb6 hv;omega) b.lo b.hi (knOf b)
 have q1:=Zf7 (Za6 b.V.toNat b.lo b.hi (knOf b))
 have q2:=Zf8 (Za6 b.V.toNat b.lo b.hi (knOf b))
 have hcv:Hid (cv (Za6 b.V.toNat b.lo b.hi (knOf b))=.agg (Zb2 (Za6 b.V.toNat b.lo b.hi (knOf b)))):=rfl
 have HA:=hd_ (Zrr (Za6 b.V.toNat b.lo b.hi (knOf b)) om_)
 have hb0:=Zds (n:=(n:Int)) (lo:=0) (hi:=wrap64 (b.V - 1)) (by simpa using hi)
 rw [wrapV hv] at hb0
 have hV0:=Zb6 hv
 have hlt0:n < 8:=by omega
 clear hb0 hV0
 have hok:∀ x∈[Kn.g (2 ^ n) 1 1],knOk x:=by intro x hx;simp only [List.mem_singleton] at hx;subst hx;exact Znb (V:=8) om_
 have HN:=hd_ (fun w1 v ka kc (hvt:Vt w1 v b b.V.toNat (knOf b) ga gc pa pc ka kc) bk (hk:KnAt w1 (some ⟨bk,0,none⟩) [Kn.g (2 ^ n) 1 1])=>hvt.counts [Kn.g (2 ^ n) 1 1] (some ⟨bk,0,none⟩) 1 (2 ^ (knOf b).length - 1) hvt.full hk sp_ hok sp_)
 rw [Zgw] at HN
 have hle2:=Zbb b.V.toNat (by have:=Zb6 hv;omega) b.lo b.hi (knOf b ++ [Kn.g (2 ^ n) 1 1])
 have HA2:=hd_ (Zrr (Za6 b.V.toNat b.lo b.hi (knOf b ++ [Kn.g (2 ^ n) 1 1])) om_)
 have HB:=hd_ (fun w'=>b_one (n:Int) n rfl om_ true w')
 simp only [if_true] at HB
 clear hs q1 q2 hcv hle hle2 hok hi
 generalize csum (Za6 b.V.toNat b.lo b.hi (knOf b))=S at *
 generalize cv (Za6 b.V.toNat b.lo b.hi (knOf b))=CV at *
 generalize csum (Za6 b.V.toNat b.lo b.hi (knOf b ++ [Kn.g (2 ^ n) 1 1]))=S2 at *
 generalize cv (Za6 b.V.toNat b.lo b.hi (knOf b ++ [Kn.g (2 ^ n) 1 1]))=CV2 at *
 unfold bv at *
 go_enter_defers func32,ntmps32
 refine Zd5 ?_
 go_wp2_with fail
 with_reducible refine (HO.out _ bel_ (by simp [go_sem];done)).mono ?_
 rintro e w1 ⟨v,ka,kc,rfl,hvt,hb1,hle⟩
 go_wp2_with fail
 with_reducible refine (HT.out _ _ _ _ hvt).mono ?_
 rintro e w2 ⟨rfl,hb2⟩
 go_wp2_with fail
 refine (HA.out _).mono ?_
 rintro e w3 ⟨rfl,hb3⟩
 have z1:=hb1.size
 have z2:=hb2.size
 have z3:=hb3.size
 simp only [World.size_alloc] at z1
 have hB23:Below w1.heap.size w1 w3:=hb2.trans (hb3.mono z2)
 have b3:Blk w3 (w.heap.size+2) #[()] 31:=((Blk.new' _ _ _ _ sp_).below hb1 ar_).below hB23 om_
 have bnn:Blk w3 (w.heap.size+1) #[n] 3:=(((Blk.new' _ _ _ _ sp_).alloc _).below hb1 ar_).below hB23 om_
 have rnn:=bnn.cell 0
 have hB3:Below w.heap.size w w3:=((((br_.alloc nl_ _).alloc ar_ _).alloc ar_ _).trans (hb1.mono ar_)).trans (hB23.mono om_)
 have hvt3:=hvt.below hB23
 clear hb1 hb2 hb3 hB23 hvt
 go_wp2_with fail
 have l3:=b3.lt
 have z3':=hB3.size
 refine Ord.wp_region [(0,1),(1,0),(2,0),(3,0),(8,1),(4,2),(5,2),(6,2),(7,2),(9,0),(10,0),(11,2)] (fun _=>True) kr_ kr_ (fun c a d v w h=>by cases d <;> exact h) trivial ?_
 have HE:=hd_ hvt3.every
 have HE2:=hd_ (fun w' (hb:Below w3.heap.size w3 w')=>(hvt3.below hb).every)
 go_wp2_with (first
  | (go_at_call 94;refine (HB.out _).mono ?_;rintro e w4 ⟨rfl,hb4⟩;refine Za2 ?_)
  | (refine o_ ?_;intro K hK)|(with_reducible first|refine Zyo ?_ ?_|refine Zyj ?_|refine Zyf bn_ (fun _=>?_))
  | ((with_reducible refine Zyg ?_);refine Zyv rfl (fun W=>call93 _ W) (HE2.out _ bel_) (fun K hK=>?_))|((with_reducible refine Zye ?_);refine Ord.wild_call rfl (fun W=>call93 _ W) (fun W hW=>HE2.out _ bel_) (fun K hK=>?_)))
 unfold Stop
 have hB4:w3 w4:=br_.drew.trans (hb4.mono sp_)
 have z4:=hB4.size
 go_wp2_with (first
  | (go_at_call 92;refine (HN.out _ _ _ _ (hvt3.below (hB4.alloc z4 _)) _ (Zjw _ _ _)).mono ?_;rintro e w5 ⟨rfl,hb5⟩;refine Za2 ?_)
  | (refine o_ ?_;intro K hK)|(with_reducible first|refine Zyo ?_ ?_|refine Zyj ?_|refine Zyf bn_ (fun _=>?_)))
 unfold Stop
 have hB5:w3 w5:=(hB4.alloc z4 _).trans (hb5.mono (by simp;omega))
 have z5:=hB5.size
 go_wp2_with (first
  | (go_at_call 90;refine (HA2.out _).mono ?_;rintro e w6 ⟨rfl,hb6⟩;refine Za2 ?_)
  | (refine o_ ?_;intro K hK)|(with_reducible first|refine Zyo ?_ ?_|refine Zyj ?_|refine Zyf bn_ (fun _=>?_)))
 unfold Stop
 have hB6:w3 w6:=hB5.trans (hb6.mono z5)
 have b5:=b3.below hB6 l3
 have r5:=b5.cell
 have f5:=b5.free
 have hB5:Below w.heap.size w w6:=hB3.trans (hB6.mono z3')
 go_wp2_with (first
  | (refine o_ ?_;intro K hK)|(with_reducible first|refine Zyo ?_ ?_|refine Zyj ?_|refine Zyf bn_ (fun _=>?_))
  | ((with_reducible refine Zyg ?_);refine Zyv rfl (fun W=>call91 _ W) (Zj6 _ _ _) (fun K hK=>?_))|((with_reducible refine Zye ?_);refine Ord.wild_call rfl (fun W=>call91 _ W) (fun W hW=>Zj6 _ _ _) (fun K hK=>?_)))
 refine Zdg ?_
 refine leaves_cons (f:=87) (args:=#[.pointer (some ⟨w.heap.size+2,0,none⟩)]) sp_ (by simp [go_sem]) ?_
 refine ((HC.out).2 (w.heap.size+2) _).mono ?_
 rintro e u' w6 ⟨rfl,rfl,rfl⟩
 have r6:=(b5.set 0 ↑()).cell
 simp only [settle,Leaves]
 simp [Leaves,settle,results,results32,go_sem,r6]
 exact ⟨rfl,(hB5.setCell ar_ _)⟩
end Go.Proofs.YtbapgefodmmikaaGreatDoor
namespace Go.Proofs.YtbapgefodmmikaaGreatDoor.Stab
open Go.Proofs Go.Sort
structure Ops (S α:Type) where
 get:S→Nat→α
 sw:S→Nat→Nat→S
section
variable {S α:Type}(O:Ops S α)
def swr (a b:Nat) (d:S):Nat→S
 | 0=>d
 | k+1=>O.sw (swr a b d k) (a+k) (b+k)
def rot (m:Nat):Nat→Nat→Nat→S→S
 | 0,_,_,d=>d
 | f+1,i,j,d=>if i=j then swr O (m - i) m d i else if j < i then rot m f (i - j) j (swr O (m - i) m d j) else rot m f i (j - i) (swr O (m - i) (m+j - i) d i)
def rotate (a m b:Nat) (d:S):S:=rot O m (b - a) (m - a) (b - m) d
def bs (p:Nat→Bool):Nat→Nat→Nat→Nat
 | 0,i,_=>i
 | f+1,i,j=>if i < j then (if p ((i+j) / 2) then bs p f ((i+j) / 2+1) j else bs p f i ((i+j) / 2)) else i
theorem bs_bd (p:Nat→Bool):∀ (f i j:Nat),i≤j→i≤bs p f i j∧bs p f i j≤j
 | 0,_,_,h=>⟨Nat.le_refl _,h⟩
 | f+1,i,j,h=>by
  rw [bs]
  split
  ·split
   ·have:=bs_bd p f ((i+j) / 2+1) j om_;omega
   ·have:=bs_bd p f i ((i+j) / 2) om_;omega
  ·omega
def ups (a:Nat) (d:S):Nat→S
 | 0=>d
 | k+1=>O.sw (ups a d k) (a+k) (a+k+1)
def dns (m:Nat) (d:S):Nat→S
 | 0=>d
 | k+1=>O.sw (dns m d k) (m - k) (m - k - 1)
variable (lt:α→α→Bool)
def s0 (a m b:Nat):Nat:=if m > (a+b) / 2 then (a+b) / 2+m - b else a
def r0 (a m b:Nat):Nat:=if m > (a+b) / 2 then (a+b) / 2 else m
def st (a m b:Nat) (d:S):Nat:=bs (fun c=>!lt (O.get d ((a+b) / 2+m - 1 - c)) (O.get d c)) (r0 a m b - s0 a m b) (s0 a m b) (r0 a m b)
def tn (a m b:Nat) (d:S):S:=if st O lt a m b d < m∧m < (a+b) / 2+m - st O lt a m b d then rotate O (st O lt a m b d) m ((a+b) / 2+m - st O lt a m b d) d else d
def sHi (a m b:Nat) (d:S):Nat:=bs (fun h=>lt (O.get d h) (O.get d a)) (b - m) m b
def sLo (a m b:Nat) (d:S):Nat:=bs (fun h=>!lt (O.get d m) (O.get d h)) (m - a) a m
def sym:Nat→Nat→Nat→Nat→S→S
 | 0,_,_,_,d=>d
 | f+1,a,m,b,d =>
  if m - a=1 then ups O a d (sHi O lt a m b d - 1 - a)
  else if b - m=1 then dns O m d (m - sLo O lt a m b d)
  else if (a+b) / 2 < (a+b) / 2+m - st O lt a m b d∧(a+b) / 2+m - st O lt a m b d < b then
   sym f ((a+b) / 2) ((a+b) / 2+m - st O lt a m b d) b (if a < st O lt a m b d∧st O lt a m b d < (a+b) / 2 then sym f a (st O lt a m b d) ((a+b) / 2) (tn O lt a m b d) else tn O lt a m b d)
  else (if a < st O lt a m b d∧st O lt a m b d < (a+b) / 2 then sym f a (st O lt a m b d) ((a+b) / 2) (tn O lt a m b d) else tn O lt a m b d)
def insI (a:Nat):Nat→S→S
 | 0,d=>d
 | j+1,d=>if j+1 > a && lt (O.get d (j+1)) (O.get d j) then insI a j (O.sw d (j+1) j) else d
def insO (a b:Nat):Nat→Nat→S→S
 | 0,_,d=>d
 | f+1,i,d=>if i < b then insO a b f (i+1) (insI O lt a i d) else d
def ins (d:S) (a b:Nat):S:=insO O lt a b (b - a) (a+1) d
def blocks (n:Nat):Nat→Nat→S→S
 | 0,_,d=>d
 | f+1,a,d=>if a+20≤n then blocks n f (a+20) (ins O lt d a (a+20)) else ins O lt d a n
def pass (n bz:Nat):Nat→Nat→S→S
 | 0,_,d=>d
 | f+1,a,d=>if a+2 * bz≤n then pass n bz f (a+2 * bz) (sym O lt (2 * bz) a (a+bz) (a+2 * bz) d) else if a+bz < n then sym O lt (n - a) a (a+bz) n d else d
def passes (n:Nat):Nat→Nat→S→S
 | 0,_,d=>d
 | f+1,bz,d=>if bz < n then passes n f (2 * bz) (pass O lt n bz (n+1) 0 d) else d
def stable (n:Nat) (d:S):S:=passes O lt n (n+1) 20 (blocks O lt n (n+1) 0 d)
end
structure Sim {S T α β:Type}(O:Ops S α) (O':Ops T β) (lt:α→α→Bool) (lt':β→β→Bool) (R:S→T→Prop):Prop where
 less:∀ {s t},R s t→∀ i j,lt (O.get s i) (O.get s j)=lt' (O'.get t i) (O'.get t j)
 sw:∀ {s t},R s t→∀ i j,R (O.sw s i j) (O'.sw t i j)
namespace Sim
variable {S T α β:Type}{O:Ops S α}{O':Ops T β}{lt:α→α→Bool}{lt':β→β→Bool}{R:S→T→Prop}(H:Sim O O' lt lt' R)
include H
theorem swr {s t} (h:R s t) (a b:Nat):∀ k,R (Stab.swr O a b s k) (Stab.swr O' a b t k)
 | 0=>h
 | k+1=>H.sw (swr h a b k) _ _
theorem ups {s t} (h:R s t) (a:Nat):∀ k,R (Stab.ups O a s k) (Stab.ups O' a t k)
 | 0=>h
 | k+1=>H.sw (ups h a k) _ _
theorem dns {s t} (h:R s t) (a:Nat):∀ k,R (Stab.dns O a s k) (Stab.dns O' a t k)
 | 0=>h
 | k+1=>H.sw (dns h a k) _ _
theorem rot (m:Nat):∀ (f i j:Nat) {s t},R s t→R (Stab.rot O m f i j s) (Stab.rot O' m f i j t)
 | 0,_,_,_,_,h=>h
 | f+1,i,j,s,t,h=>by
  rw [Stab.rot,Stab.rot]
  split
  ·exact H.swr h _ _ _
  ·split
   ·exact rot m f _ _ (H.swr h _ _ _)
   ·exact rot m f _ _ (H.swr h _ _ _)
theorem st {s t} (h:R s t) (a m b:Nat):Stab.st O lt a m b s=Stab.st O' lt' a m b t:=by
 unfold Stab.st;congr 1;funext c;rw [H.less h]
theorem tn {s t} (h:R s t) (a m b:Nat):R (Stab.tn O lt a m b s) (Stab.tn O' lt' a m b t):=by
 unfold Stab.tn;rw [H.st h];split
 ·exact H.rot _ _ _ _ h
 ·exact h
theorem sHi {s t} (h:R s t) (a m b:Nat):Stab.sHi O lt a m b s=Stab.sHi O' lt' a m b t:=by
 unfold Stab.sHi;congr 1;funext c;rw [H.less h]
theorem sLo {s t} (h:R s t) (a m b:Nat):Stab.sLo O lt a m b s=Stab.sLo O' lt' a m b t:=by
 unfold Stab.sLo;congr 1;funext c;rw [H.less h]
theorem sym:∀ (f a m b:Nat) {s t},R s t→R (Stab.sym O lt f a m b s) (Stab.sym O' lt' f a m b t)
 | 0,_,_,_,_,_,h=>h
 | f+1,a,m,b,s,t,h=>by
  rw [Stab.sym,Stab.sym,H.sHi h,H.sLo h,H.st h]
  have h2:R (if a < Stab.st O' lt' a m b t∧Stab.st O' lt' a m b t < (a+b) / 2 then Stab.sym O lt f a (Stab.st O' lt' a m b t) ((a+b) / 2) (Stab.tn O lt a m b s) else Stab.tn O lt a m b s)
    (if a < Stab.st O' lt' a m b t∧Stab.st O' lt' a m b t < (a+b) / 2 then Stab.sym O' lt' f a (Stab.st O' lt' a m b t) ((a+b) / 2) (Stab.tn O' lt' a m b t) else Stab.tn O' lt' a m b t):=by
   split
   ·exact sym f _ _ _ (H.tn h _ _ _)
   ·exact H.tn h _ _ _
  split
  ·exact H.ups h _ _
  ·split
   ·exact H.dns h _ _
   ·split
    ·exact sym f _ _ _ h2
    ·exact h2
theorem insI (a:Nat):∀ (j:Nat) {s t},R s t→R (Stab.insI O lt a j s) (Stab.insI O' lt' a j t)
 | 0,_,_,h=>h
 | j+1,s,t,h=>by
  rw [Stab.insI,Stab.insI,H.less h]
  split
  ·exact insI a j (H.sw h _ _)
  ·exact h
theorem insO (a b:Nat):∀ (f i:Nat) {s t},R s t→R (Stab.insO O lt a b f i s) (Stab.insO O' lt' a b f i t)
 | 0,_,_,_,h=>h
 | f+1,i,s,t,h=>by
  rw [Stab.insO,Stab.insO]
  split
  ·exact insO a b f _ (H.insI a i h)
  ·exact h
theorem blocks (n:Nat):∀ (f a:Nat) {s t},R s t→R (Stab.blocks O lt n f a s) (Stab.blocks O' lt' n f a t)
 | 0,_,_,_,h=>h
 | f+1,a,s,t,h=>by
  rw [Stab.blocks,Stab.blocks]
  split
  ·exact blocks n f _ (H.insO _ _ _ _ h)
  ·exact H.insO _ _ _ _ h
theorem pass (n bz:Nat):∀ (f a:Nat) {s t},R s t→R (Stab.pass O lt n bz f a s) (Stab.pass O' lt' n bz f a t)
 | 0,_,_,_,h=>h
 | f+1,a,s,t,h=>by
  rw [Stab.pass,Stab.pass]
  split
  ·exact pass n bz f _ (H.sym _ _ _ _ h)
  ·split
   ·exact H.sym _ _ _ _ h
   ·exact h
theorem passes (n:Nat):∀ (f bz:Nat) {s t},R s t→R (Stab.passes O lt n f bz s) (Stab.passes O' lt' n f bz t)
 | 0,_,_,_,h=>h
 | f+1,bz,s,t,h=>by
  rw [Stab.passes,Stab.passes]
  split
  ·exact passes n f _ (H.pass n bz _ _ h)
  ·exact h
theorem stable (n:Nat) {s t} (h:R s t):R (Stab.stable O lt n s) (Stab.stable O' lt' n t):=H.passes n _ _ (H.blocks n _ _ h)
end Sim
def arrO (α:Type) [Inhabited α]:Ops (Array α) α:=⟨fun d i=>d[i]!,swp⟩
section
variable {α:Type} [Inhabited α] (lt:α→α→Bool)
theorem swr_size (a b:Nat) (d:Array α):∀ k,(swr (arrO α) a b d k).size=d.size
 | 0=>rfl
 | k+1=>by rw [swr];show (swp _ _ _).size=_;rw [size_swp,swr_size a b d k]
theorem Zn0 (m:Nat):∀ (f i j:Nat) (d:Array α),(rot (arrO α) m f i j d).size=d.size
 | 0,_,_,_=>rfl
 | f+1,i,j,d=>by
  rw [rot];split
  ·exact swr_size _ _ _ _
  ·split
   ·rw [Zn0,swr_size]
   ·rw [Zn0,swr_size]
theorem ups_size (a:Nat) (d:Array α):∀ k,(ups (arrO α) a d k).size=d.size
 | 0=>rfl
 | k+1=>by rw [ups];show (swp _ _ _).size=_;rw [size_swp,ups_size a d k]
theorem dns_size (a:Nat) (d:Array α):∀ k,(dns (arrO α) a d k).size=d.size
 | 0=>rfl
 | k+1=>by rw [dns];show (swp _ _ _).size=_;rw [size_swp,dns_size a d k]
theorem tn_size (a m b:Nat) (d:Array α):(tn (arrO α) lt a m b d).size=d.size:=by
 unfold tn rotate;split
 ·exact Zn0 _ _ _ _ _
 ·rfl
theorem sym_size:∀ (f a m b:Nat) (d:Array α),(sym (arrO α) lt f a m b d).size=d.size
 | 0,_,_,_,_=>rfl
 | f+1,a,m,b,d=>by
  have h2:(if a < st (arrO α) lt a m b d∧st (arrO α) lt a m b d < (a+b) / 2 then sym (arrO α) lt f a (st (arrO α) lt a m b d) ((a+b) / 2) (tn (arrO α) lt a m b d) else tn (arrO α) lt a m b d).size=d.size:=by
   split
   ·rw [sym_size,tn_size]
   ·exact tn_size _ _ _ _ _
  rw [sym]
  split
  ·exact ups_size _ _ _
  ·split
   ·exact dns_size _ _ _
   ·split
    ·rw [sym_size];exact h2
    ·exact h2
end
def Zci:List (Fin 256)→Nat
 | []=>0
 | x :: l=>x.val+256 * Zci l
def natO (n:Nat):Ops Nat Nat:=⟨fun t i=>t / 256 ^ i % 256,fun t i j =>
 let x:=t / 256 ^ i % 256
 let y:=t / 256 ^ j % 256
 let t1:=if i < n then t - x * 256 ^ i+y * 256 ^ i else t
 if j < n then t1 - (t1 / 256 ^ j % 256) * 256 ^ j+x * 256 ^ j else t1⟩
theorem Zf9:∀ (l:List (Fin 256)) (i:Nat),Zci l / 256 ^ i % 256=(l[i]?.getD default).val
 | [],i=>by simp [Zci];rfl
 | x :: l,0=>by simp only [Zci,Nat.pow_zero,Nat.div_one,List.getElem?_cons_zero,Option.getD_some];omega
 | x :: l,i+1=>by
  have:Zci (x :: l) / 256 ^ (i+1)=Zci l / 256 ^ i:=by
   rw [Zci,Nat.pow_succ,Nat.mul_comm (256 ^ i),← Nat.div_div_eq_div_mul]
   congr 1
   omega
  rw [this,Zf9 l i];simp
theorem Zsx:∀ (l:List (Fin 256)) (i:Nat) (h:i < l.length),l[i].val * 256 ^ i≤Zci l
 | x :: l,0,_=>by simp [Zci]
 | x :: l,i+1,h=>by
  have hi:i < l.length:=by simpa using h
  have:=Zsx l i hi
  simp only [Zci,List.getElem_cons_succ,Nat.pow_succ]
  have e:l[i].val * (256 ^ i * 256)=l[i].val * 256 ^ i * 256:=by rw [Nat.mul_assoc]
  rw [e];omega
theorem Zpk:∀ (l:List (Fin 256)) (i:Nat) (h:i < l.length) (v:Fin 256),Zci (l.set i v)+l[i].val * 256 ^ i=Zci l+v.val * 256 ^ i
 | x :: l,0,_,v=>by simp [Zci];omega
 | x :: l,i+1,h,v=>by
  have hi:i < l.length:=by simpa using h
  have:=Zpk l i hi v
  simp only [List.set_cons_succ,Zci,List.getElem_cons_succ,Nat.pow_succ]
  have e:∀ q:Nat,q * (256 ^ i * 256)=q * 256 ^ i * 256:=fun q=>by rw [Nat.mul_assoc]
  rw [e,e];omega
theorem Zpl (l:List (Fin 256)) (i:Nat) (v:Fin 256):Zci (l.set i v)=if i < l.length then Zci l - (Zci l / 256 ^ i % 256) * 256 ^ i+v.val * 256 ^ i else Zci l:=by
 split
 ·rename_i h
  have h1:=Zpk l i h v
  have h2:=Zsx l i h
  rw [Zf9,List.getElem?_eq_getElem h,Option.getD_some]
  omega
 ·rename_i h
  rw [List.set_eq_of_length_le om_]
theorem Zjz (d:Array (Fin 256)) (i:Nat):Zci d.toList / 256 ^ i % 256=(d[i]!).val:=by
 rw [Zf9]
 congr 1
 rw [Array.getElem!_eq_getD,Array.getD_eq_getD_getElem?,Array.getElem?_toList]
theorem sim_nat (n:Nat) (lt:Fin 256→Fin 256→Bool) (lt':Nat→Nat→Bool) (hl:∀ x y:Fin 256,lt x y=lt' x.val y.val) :
  Sim (arrO (Fin 256)) (natO n) lt lt' (fun d t=>d.size=n∧Zci d.toList=t) where
 less:=by
  rintro s t ⟨h,rfl⟩ i j
  show lt s[i]! s[j]! = lt' (Zci s.toList / 256 ^ i % 256) (Zci s.toList / 256 ^ j % 256)
  rw [hl,Zjz,Zjz]
 sw:=by
  rintro s t ⟨rfl,rfl⟩ i j
  refine ⟨size_swp _ _ _,?_⟩
  show Zci (swp s i j).toList=_
  unfold swp
  rw [Array.toList_setIfInBounds,Array.toList_setIfInBounds,Zpl,List.length_set,Zpl]
  simp only [natO,Zjz,Array.length_toList]
def pop (n:Nat):Nat:=n % 2+n / 2 % 2+n / 4 % 2+n / 8 % 2+n / 16 % 2+n / 32 % 2+n / 64 % 2+n / 128 % 2
def ltp (x y:Nat):Bool:=Nat.blt (pop x) (pop y)
def bySize (k:Nat):List Nat:=(List.range (k+1)).flatMap fun s=>(List.range (2 ^ k)).filter fun x=>pop x == s
end Go.Proofs.YtbapgefodmmikaaGreatDoor.Stab
namespace Go.Proofs.YtbapgefodmmikaaGreatDoor
open Go.RowKit Go.Proofs Go.Ord Tryz
open Go.Shelf Go.RowKit Go.Lib Go.Sort
variable {α:Type} [Inhabited α]
theorem insI_go (lt:α→α→Bool) (a j:Nat) (d:Array α) (h1:a < j+1) (h2:lt d[j+1]! d[j]! = true):Stab.insI (Stab.arrO α) lt a (j+1) d=Stab.insI (Stab.arrO α) lt a j (swp d (j+1) j):=by
 rw [Stab.insI]
 show (if (decide (j+1 > a) && lt d[j+1]! d[j]!)=true then _ else _)=_
 rw [if_pos (by simp [h1,h2])];rfl
theorem Zwk (lt:α→α→Bool) (a j:Nat) (d:Array α) (h:j≤a∨lt d[j]! d[j - 1]! = false):Stab.insI (Stab.arrO α) lt a j d=d:=by
 cases j with
 | zero=>rfl
 | succ j =>
  rw [Stab.insI]
  show (if (decide (j+1 > a) && lt d[j+1]! d[j]!)=true then _ else _)=_
  rw [if_neg]
  rcases h with h|h
  ·simp;intro;omega
  ·simp at h;simp [h]
theorem insO_go (lt:α→α→Bool) (a b f i:Nat) (d:Array α) (h:i < b):Stab.insO (Stab.arrO α) lt a b (f+1) i d=Stab.insO (Stab.arrO α) lt a b f (i+1) (Stab.insI (Stab.arrO α) lt a i d):=by
 rw [Stab.insO,if_pos h]
theorem Zwj (lt:α→α→Bool) (a b f i:Nat) (d:Array α) (h:¬ i < b):Stab.insO (Stab.arrO α) lt a b f i d=d:=by
 cases f with
 | zero=>rfl
 | succ f=>rw [Stab.insO,if_neg h]
theorem _root_.Q2i {p:Prop}(h:p:=by
 go_wp2
 go_roundg f
 case measure=>omega
 case rel=>exact ⟨i+1,dj,by go_num,om_,om_,om_,hsj,S2,OUT2⟩):p:=h
theorem ins_w (enc:α→Value) (cf:α→α→Int) (g:Nat) (cb:Array Value) (blk off cap L:Nat) (d0 d:Array α) (w0 w:World)
  (eg:∀ args w,(callFunc g args).run prog w=.ok (.enter g args) w) (hcmp:CmpLays1 prog g cb enc cf blk off d0.size w0) (R:Row1 enc w0 blk off d0) (h0:d0.size=L) (hs:d.size=L) (hL:L≤256) (S:SW enc w0 blk off d w) (a b:Nat) (hab:a≤b) (hb:b≤L) :
  Calls prog 327 #[.slice (some ⟨blk,off,none⟩) L cap,a,b,.func (.func g) #[] cb] w fun e w'=>e=.returned (.tuple #[])∧SW enc w0 blk off (Stab.ins (Stab.arrO α) (ltOf cf) d a b) w':=by
 have mixed:prog.follows Departure.mixedOrders=true:=by kernel_rfl
 have hcl0:=R.hO.cells
 simp only [Value.cells] at hcl0
 have hst:=R.hO.store prog
 have HC:Aside _:=hcmp
 have S0:Aside (SW enc w0 blk off d w):=S
 clear S
 clear hcmp
 go_enter func327,ntmps327
 go_wp2
 go_loopg [8] (b - a) (fun g1 vi wr=>∃ (i:Nat) (dk:Array α),vi=↑i∧a < i∧i≤b+1∧b - i≤g1∧dk.size=L∧Aside (SW enc w0 blk off dk wr)∧Hid (Stab.insO (Stab.arrO α) (ltOf cf) a b g1 i dk=Stab.ins (Stab.arrO α) (ltOf cf) d a b))
 case atStart=>exact ⟨a+1,d,by go_num,om_,om_,om_,hs,S0,rfl⟩
 case round =>
  clear S0
  obtain ⟨i,dk,rfl,hai,hib,hg1,hsk,S1,HO⟩:=hrel
  by_cases hlt:i < b
  ·have hltz:(i:Int) < (b:Int):=by omega
   obtain ⟨f,rfl⟩:∃ f,gk=f+1:=⟨gk - 1,om_⟩
   have HO2:Hid (Stab.insO (Stab.arrO α) (ltOf cf) a b f (i+1) (Stab.insI (Stab.arrO α) (ltOf cf) a i dk)=Stab.ins (Stab.arrO α) (ltOf cf) d a b):=by
    show _=_;have:=HO.out;rwa [insO_go _ _ _ _ _ _ hlt] at this
   clear HO
   go_wp2
   go_loopg [9] i (fun g2 vj wr2=>∃ (j:Nat) (dj:Array α),vj=↑j∧a≤j∧j≤i∧j≤g2∧dj.size=L∧Aside (SW enc w0 blk off dj wr2)∧Hid (Stab.insI (Stab.arrO α) (ltOf cf) a j dj=Stab.insI (Stab.arrO α) (ltOf cf) a i dk))
   case atStart=>exact ⟨i,dk,by go_num,om_,Nat.le_refl _,Nat.le_refl _,hsk,S1,rfl⟩
   case round =>
    clear S1
    obtain ⟨j,dj,rfl,haj,hji,hg2,hsj,SJ,HI⟩:=hrel
    have out:(j≤a∨(ltOf cf) dj[j]! dj[j - 1]! = false)→Hid (Stab.insO (Stab.arrO α) (ltOf cf) a b f (i+1) dj=Stab.ins (Stab.arrO α) (ltOf cf) d a b):=fun hs=>by
     show _=_
     rw [← HO2.out,← HI.out,Zwk _ _ _ _ hs]
    have OUT:Aside _:=out
    clear out
    by_cases hja:a < j
    ·obtain ⟨jp,rfl⟩:∃ q,j=q+1:=⟨j - 1,om_⟩
     have hjad:decide ((jp:Int)+1 > (a:Int))=true:=decide_eq_true om_
     have hjaz':(a:Int) < (jp:Int)+1:=by omega
     rw [Nat.add_sub_cancel] at OUT
     cases hl0:(ltOf cf) dj[jp+1]! dj[jp]! with
     | true =>
      have hlv:=hd_ hl0
      have HI2:Hid (Stab.insI (Stab.arrO α) (ltOf cf) a jp (swp dj (jp+1) jp)=Stab.insI (Stab.arrO α) (ltOf cf) a i dk):=by
       show _=_;rw [← HI.out,insI_go _ _ _ _ om_ hl0]
      clear hl0 HI OUT
      obtain ⟨i0N,hi0N⟩:∃ q,q=jp+1:=⟨_,rfl⟩
      have ei0:((jp:Int)+1).toNat=i0N:=by omega
      have pi0:(0:Int)≤(jp:Int)+1:=by omega
      have bi0:(jp:Int)+1 < (L:Int):=by omega
      have ri0:IntKind.i64.wrap ((jp:Int)+1)=(jp:Int)+1:=by rw [IntKind.wrap_i64];omega
      have pj0:(0:Int)≤(jp:Int):=by omega
      have bj0:(jp:Int) < (L:Int):=by omega
      have rj0:IntKind.i64.wrap (jp:Int)=(jp:Int):=by rw [IntKind.wrap_i64];omega
      obtain ⟨x0,hx0⟩:∃ x,x=dj[jp+1]!:=⟨_,rfl⟩
      obtain ⟨y0,hy0⟩:∃ x,x=dj[jp]!:=⟨_,rfl⟩
      have la0:=SJ.out.cl R om_ (jp+1) om_
      have lb0:=SJ.out.cl R om_ (jp) om_
      rw [← hx0] at la0
      rw [← hy0] at lb0
      rw [← hi0N] at la0
      have hc0:=SJ.out.cmp HC.out om_ x0 y0
      have hv0:cf x0 y0 < 0:=by rw [hx0,hy0];exact of_decide_eq_true hlv.out
      have hd0:decide (cf x0 y0 < 0)=true:=decide_eq_true hv0
      clear hx0 hy0 hi0N
      go_wp2_with fail
      go_quiet_grown (first|(go_at_fn g;refine Calls.grown_of (hc0 _ _)))
      have S2:Aside (SW enc w0 blk off dj (grow (wr.drewN nq) osq)):=SJ.out.grown nq osq
      clear la0 lb0 hc0 SJ
      generalize grow (wr.drewN nq) osq=w2 at S2 ⊢
      clear nq osq
      clear hv0
      clear ei0
      go_wp2_with fail
      obtain ⟨i1N,hi1N⟩:∃ q,q=jp+1:=⟨_,rfl⟩
      have ei1:((jp:Int)+1).toNat=i1N:=by omega
      have pi1:(0:Int)≤(jp:Int)+1:=by omega
      have bi1:(jp:Int)+1 < (L:Int):=by omega
      have ri1:IntKind.i64.wrap ((jp:Int)+1)=(jp:Int)+1:=by rw [IntKind.wrap_i64];omega
      have pj1:(0:Int)≤(jp:Int):=by omega
      have bj1:(jp:Int) < (L:Int):=by omega
      have rj1:IntKind.i64.wrap (jp:Int)=(jp:Int):=by rw [IntKind.wrap_i64];omega
      obtain ⟨x1,hx1⟩:∃ x,x=dj[jp+1]!:=⟨_,rfl⟩
      obtain ⟨y1,hy1⟩:∃ x,x=dj[jp]!:=⟨_,rfl⟩
      have S3:Aside (SW enc w0 blk off (swp dj (jp+1) (jp)) ((w2.setCell ⟨blk,off+i1N,none⟩ (enc y1)).setCell ⟨blk,off+jp,none⟩ (enc x1)).drew):=by rw [hi1N,hx1,hy1];exact S2.out.swapped R (jp+1) (jp) om_ om_
      have ca1:=S2.out.c1 R om_ (jp+1) om_
      have cb1:=S2.out.c1 R om_ (jp) om_
      have fa1:=S2.out.f1 R om_ (jp+1) om_
      have fb1:=S2.out.f1 R om_ (jp) om_
      obtain ⟨u1,cc1⟩:=S2.out.c2 R om_ (jp+1) (jp) om_ om_ (enc y1)
      rw [← hx1] at ca1
      rw [← hy1] at cb1
      rw [← hi1N] at cc1 ca1 fa1
      clear S2 hx1 hy1 hi1N
      go_wp2_with fail
      go_big_region_o
      clear ca1 cb1 cc1 fa1 fb1
      generalize ((w2.setCell ⟨blk,off+i1N,none⟩ (enc y1)).setCell ⟨blk,off+jp,none⟩ (enc x1)).drew=w3 at S3 ⊢
      clear ei1
      go_wp2
      go_roundg jp
      case measure=>omega
      case rel=>exact ⟨jp,swp dj (jp+1) jp,by first|rfl|go_num|(congr 1;omega),om_,om_,Nat.le_refl _,by rw [size_swp];exact hsj,S3,HI2⟩
     | false =>
      have hlv:=hd_ hl0
      have OUT2:=OUT.out (Or.inr hl0)
      clear hl0 OUT HI
      obtain ⟨i0N,hi0N⟩:∃ q,q=jp+1:=⟨_,rfl⟩
      have ei0:((jp:Int)+1).toNat=i0N:=by omega
      have pi0:(0:Int)≤(jp:Int)+1:=by omega
      have bi0:(jp:Int)+1 < (L:Int):=by omega
      have ri0:IntKind.i64.wrap ((jp:Int)+1)=(jp:Int)+1:=by rw [IntKind.wrap_i64];omega
      have pj0:(0:Int)≤(jp:Int):=by omega
      have bj0:(jp:Int) < (L:Int):=by omega
      have rj0:IntKind.i64.wrap (jp:Int)=(jp:Int):=by rw [IntKind.wrap_i64];omega
      obtain ⟨x0,hx0⟩:∃ x,x=dj[jp+1]!:=⟨_,rfl⟩
      obtain ⟨y0,hy0⟩:∃ x,x=dj[jp]!:=⟨_,rfl⟩
      have la0:=SJ.out.cl R om_ (jp+1) om_
      have lb0:=SJ.out.cl R om_ (jp) om_
      rw [← hx0] at la0
      rw [← hy0] at lb0
      rw [← hi0N] at la0
      have hc0:=SJ.out.cmp HC.out om_ x0 y0
      have hv0:¬ cf x0 y0 < 0:=by rw [hx0,hy0];exact of_decide_eq_false hlv.out
      have hd0:decide (cf x0 y0 < 0)=false:=decide_eq_false hv0
      clear hx0 hy0 hi0N
      go_wp2_with fail
      go_quiet_grown (first|(go_at_fn g;refine Calls.grown_of (hc0 _ _)))
      have S2:Aside (SW enc w0 blk off dj (grow (wr.drewN nq) osq)):=SJ.out.grown nq osq
      clear la0 lb0 hc0 SJ
      generalize grow (wr.drewN nq) osq=w2 at S2 ⊢
      clear nq osq
      clear hv0
      clear ei0
      exact Q2i
    ·have hjaz:decide ((j:Int) > (a:Int))=false:=decide_eq_false om_
     have hjaz':¬ (a:Int) < (j:Int):=by omega
     have OUT2:=OUT.out (Or.inl om_)
     clear OUT HI
     go_wp2_with fail
     go_big_region_o
     have S2:Aside (SW enc w0 blk off dj wr.drew):=SJ.out.drew
     clear SJ
     generalize wr.drew=w2 at S2 ⊢
     exact Q2i
  ·have hltz:¬ (i:Int) < (b:Int):=by omega
   go_wp2
   go_end0
   exact ⟨rfl,by rw [← HO.out,Zwj _ _ _ _ _ _ hlt];exact S1.out⟩
end Go.Proofs.YtbapgefodmmikaaGreatDoor
namespace Go.Proofs.YtbapgefodmmikaaGreatDoor
open Go.RowKit Go.Proofs Go.Ord Tryz
attribute [local irreducible] Ord.walk
open Go.Sort Go.Shelf Go.Lib
theorem b_ones64 (x:Nat) (hx:x < 256) (w:World) :
  Calls prog 208 #[.int .u64 x] w (Same (.int .i64 (Stab.pop x:Nat)) w):=by
 have h0:(0:Int)≤(x:Int):=by omega
 have h1:(x:Int)≤255:=by omega
 go_enter func208,ntmps208
 go_wp2
 go_ret
 refine ⟨Zdv ?_,rfl⟩
 clear h0 h1
 revert hx
 revert x
 decide +kernel
theorem Zxt (x:Nat) (hx:x < 256) (w:World) :
  Calls prog 115 #[.int .u64 x] w (Same (.int .i64 (Stab.pop x:Nat)) w):=by
 have H:=hd_ (fun W=>b_ones64 x hx W)
 generalize Stab.pop x=p at *
 go_enter func115,ntmps115
 go_wp2_with (go_at_call 208;refine (H.out _).mono ?_;rintro e w' ⟨rfl,rfl⟩)
 go_ret
 exact ⟨rfl,rfl⟩
theorem Zsi (x:Nat):Stab.pop x≤8:=by unfold Stab.pop;omega
def enc8 (x:Fin 256):Value:=.int .u64 (x.val:Nat)
def cf8 (x y:Fin 256):Int:=(Stab.pop x.val:Int) - (Stab.pop y.val:Int)
theorem lt8 (x y:Fin 256):ltOf cf8 x y=Stab.ltp x.val y.val:=by
 unfold ltOf cf8 Stab.ltp
 rw [Bool.eq_iff_iff,decide_eq_true_iff,Nat.blt_eq]
 omega
namespace Stab
def to8 (l:List Nat):List (Fin 256):=l.map (Fin.ofNat 256)
theorem Zxa (l m:List (Fin 256)) (hl:l.length=m.length) (h:Zci l=Zci m):l=m:=by
 apply List.ext_getElem hl
 intro i h1 h2
 have a:=Zf9 l i
 have b:=Zf9 m i
 rw [h] at a
 rw [List.getElem?_eq_getElem h1,Option.getD_some] at a
 rw [List.getElem?_eq_getElem h2,Option.getD_some] at b
 exact Fin.ext (a.symm.trans b)
theorem _root_.Q28 {p:Prop}(h:p:=by
 intro k hk
 rcases (show k=0∨k=1∨k=2∨k=3∨k=4∨k=5∨k=6∨k=7∨k=8 by omega) with rfl|rfl|rfl|rfl|rfl|rfl|rfl|rfl|rfl <;> decide +kernel):p:=h
theorem bySize_all:∀ k,k≤8→Stab.stable (natO (2 ^ k)) ltp (2 ^ k) (Zci (to8 (List.range (2 ^ k))))=Zci (to8 (bySize k))∧(bySize k).length=2 ^ k∧(bySize k).all (fun x=>Nat.blt x (2 ^ k))=true:=Q28
theorem stable_all (k:Nat) (hk:k≤8):Stab.stable (arrO (Fin 256)) (ltOf cf8) (2 ^ k) (to8 (List.range (2 ^ k))).toArray=(to8 (bySize k)).toArray:=by
 obtain ⟨h1,h2,_⟩:=bySize_all k hk
 have hs:=(sim_nat (2 ^ k) (ltOf cf8) ltp lt8).stable (2 ^ k) (s:=(to8 (List.range (2 ^ k))).toArray) (t:=Zci (to8 (List.range (2 ^ k)))) ⟨by simp [to8],rfl⟩
 obtain ⟨h3,h4⟩:=hs
 rw [h1] at h4
 have:=Zxa _ _ (by rw [Array.length_toList,h3];simp [to8,h2]) h4
 apply Array.toList_inj.1
 exact this
end Stab
end Go.Proofs.YtbapgefodmmikaaGreatDoor
namespace Go.Proofs.YtbapgefodmmikaaGreatDoor
open Go.RowKit Go.Proofs Go.Ord Tryz
end Go.Proofs.YtbapgefodmmikaaGreatDoor
namespace Go.Proofs.YtbapgefodmmikaaGreatDoor
open Go.RowKit Go.Proofs Go.Ord Tryz
attribute [local irreducible] Ord.walk
theorem sz_pop:∀ x,x < 256→sz x=Stab.pop x:=by decide +kernel
theorem pop_pow:∀ k,k≤8→(List.range (2 ^ k)).all (fun x=>Nat.ble (Stab.pop x) k && (Nat.beq x (2 ^ k - 1) || Nat.blt (Stab.pop x) k))=true:=Q28
theorem pop_le_k {k x:Nat}(hk:k≤8) (hx:x < 2 ^ k):Stab.pop x≤k:=by
 have:=List.all_eq_true.1 (pop_pow k hk) x (List.mem_range.2 hx)
 rw [Bool.and_eq_true,Nat.ble_eq] at this
 exact this.1
end Go.Proofs.YtbapgefodmmikaaGreatDoor
namespace Go.Proofs.YtbapgefodmmikaaGreatDoor
open Go.RowKit Go.Proofs Go.Ord Tryz
open Go.Shelf Go.RowKit Go.Lib Go.Sort
variable {α:Type} [Inhabited α]
theorem Zqk (enc:α→Value) (cf:α→α→Int) (g:Nat) (cb:Array Value) (blk off cap L:Nat) (d0 d:Array α) (w0 w:World)
  (eg:∀ args w,(callFunc g args).run prog w=.ok (.enter g args) w) (hcmp:CmpLays1 prog g cb enc cf blk off d0.size w0) (R:Row1 enc w0 blk off d0) (h0:d0.size=L) (hs:d.size=L) (hL:L≤256) (S:SW enc w0 blk off d w) (a b n:Nat) (ha:a+n≤L) (hb:b+n≤L) :
  Calls prog 337 #[.slice (some ⟨blk,off,none⟩) L cap,a,b,n,.func (.func g) #[] cb] w fun e w'=>e=.returned (.tuple #[])∧SW enc w0 blk off (Stab.swr (Stab.arrO α) a b d n) w':=by
 have mixed:prog.follows Departure.mixedOrders=true:=by kernel_rfl
 have hcl0:=R.hO.cells
 simp only [Value.cells] at hcl0
 have hst:=R.hO.store prog
 have HC:Aside _:=hcmp
 have S0:Aside (SW enc w0 blk off d w):=S
 clear S
 clear hcmp
 go_enter func337,ntmps337
 go_wp2
 go_loopg [10] n (fun g1 vi wr=>∃ (i:Nat),vi=↑i∧i≤n∧n - i≤g1∧Aside (SW enc w0 blk off (Stab.swr (Stab.arrO α) a b d i) wr))
 case atStart=>exact ⟨0,by go_num,om_,om_,S0⟩
 case round =>
  clear S0
  obtain ⟨i,rfl,hi,hg1,S1⟩:=hrel
  by_cases hlt:i < n
  ·have hltz:(i:Int) < (n:Int):=by omega
   have hsk:(Stab.swr (Stab.arrO α) a b d i).size=L:=by rw [Stab.swr_size];exact hs
   have HST:Hid (Stab.swr (Stab.arrO α) a b d (i+1)=swp (Stab.swr (Stab.arrO α) a b d i) (a+i) (b+i)):=rfl
   generalize Stab.swr (Stab.arrO α) a b d i=dk at S1 hsk HST
   go_wp2_with fail
   obtain ⟨i1N,hi1N⟩:∃ q,q=a+i:=⟨_,rfl⟩
   have ei1:((a:Int)+(i:Int)).toNat=i1N:=by omega
   have pi1:(0:Int)≤(a:Int)+(i:Int):=by omega
   have bi1:(a:Int)+(i:Int) < (L:Int):=by omega
   have ri1:IntKind.i64.wrap ((a:Int)+(i:Int))=(a:Int)+(i:Int):=by rw [IntKind.wrap_i64];omega
   obtain ⟨j1N,hj1N⟩:∃ q,q=b+i:=⟨_,rfl⟩
   have ej1:((b:Int)+(i:Int)).toNat=j1N:=by omega
   have pj1:(0:Int)≤(b:Int)+(i:Int):=by omega
   have bj1:(b:Int)+(i:Int) < (L:Int):=by omega
   have rj1:IntKind.i64.wrap ((b:Int)+(i:Int))=(b:Int)+(i:Int):=by rw [IntKind.wrap_i64];omega
   obtain ⟨x1,hx1⟩:∃ x,x=dk[a+i]!:=⟨_,rfl⟩
   obtain ⟨y1,hy1⟩:∃ x,x=dk[b+i]!:=⟨_,rfl⟩
   have S3:Aside (SW enc w0 blk off (swp dk (a+i) (b+i)) ((wr.setCell ⟨blk,off+i1N,none⟩ (enc y1)).setCell ⟨blk,off+j1N,none⟩ (enc x1)).drew):=by rw [hi1N,hj1N,hx1,hy1];exact S1.out.swapped R (a+i) (b+i) om_ om_
   have ca1:=S1.out.c1 R om_ (a+i) om_
   have cb1:=S1.out.c1 R om_ (b+i) om_
   have fa1:=S1.out.f1 R om_ (a+i) om_
   have fb1:=S1.out.f1 R om_ (b+i) om_
   obtain ⟨u1,cc1⟩:=S1.out.c2 R om_ (a+i) (b+i) om_ om_ (enc y1)
   rw [← hx1] at ca1
   rw [← hy1] at cb1
   rw [← hi1N] at cc1 ca1 fa1
   rw [← hj1N] at cc1 cb1 fb1
   clear S1 hx1 hy1 hi1N hj1N
   go_wp2_with fail
   go_big_region_o
   clear ca1 cb1 cc1 fa1 fb1
   generalize ((wr.setCell ⟨blk,off+i1N,none⟩ (enc y1)).setCell ⟨blk,off+j1N,none⟩ (enc x1)).drew=w3 at S3 ⊢
   clear ei1 ej1
   go_wp2
   go_roundg (n - (i+1))
   case measure=>omega
   case rel=>exact ⟨i+1,by go_num,om_,Nat.le_refl _,by rw [HST.out];exact S3⟩
  ·have hltz:¬ (i:Int) < (n:Int):=by omega
   obtain rfl:i=n:=by omega
   go_wp2
   go_end0
   exact ⟨rfl,S1.out⟩
theorem Zsf (enc:α→Value) (cf:α→α→Int) (g:Nat) (cb:Array Value) (blk off cap L:Nat) (d0 d:Array α) (w0 w:World)
  (eg:∀ args w,(callFunc g args).run prog w=.ok (.enter g args) w) (hcmp:CmpLays1 prog g cb enc cf blk off d0.size w0) (R:Row1 enc w0 blk off d0) (h0:d0.size=L) (hs:d.size=L) (hL:L≤256) (S:SW enc w0 blk off d w) (a m b:Nat) (ham:a < m) (hmb:m < b) (hb:b≤L) :
  Calls prog 334 #[.slice (some ⟨blk,off,none⟩) L cap,a,m,b,.func (.func g) #[] cb] w fun e w'=>e=.returned (.tuple #[])∧SW enc w0 blk off (Stab.rotate (Stab.arrO α) a m b d) w':=by
 have mixed:prog.follows Departure.mixedOrders=true:=by kernel_rfl
 have hcl0:=R.hO.cells
 simp only [Value.cells] at hcl0
 have hst:=R.hO.store prog
 have HC:Aside _:=hcmp
 have S0:Aside (SW enc w0 blk off d w):=S
 clear S
 clear hcmp
 have SWP:=hd_ (fun (dk:Array α) (hk:dk.size=L) W (S:SW enc w0 blk off dk W) (xi yi ni:Int) (x y n:Nat) (hxi:xi=x) (hyi:yi=y) (hni:ni=n) (hx:x+n≤L) (hy:y+n≤L)=>(by subst hxi;subst hyi;subst hni;exact Zqk enc cf g cb blk off cap L d0 dk w0 W eg HC.out R h0 hk hL S x y n hx hy:Calls prog 337 #[.slice (some ⟨blk,off,none⟩) L cap,xi,yi,ni,.func (.func g) #[] cb] W fun e w'=>e=.returned (.tuple #[])∧SW enc w0 blk off (Stab.swr (Stab.arrO α) x y dk n) w'))
 go_enter func334,ntmps334
 go_wp2
 go_loopg [10,11] (b - a) (fun g1 vi vj wr=>∃ (i j:Nat) (dk:Array α),vi=↑i∧vj=↑j∧1≤i∧1≤j∧i≤m∧m+j≤L∧i+j≤g1∧dk.size=L∧Aside (SW enc w0 blk off dk wr)∧Hid (Stab.rot (Stab.arrO α) m g1 i j dk=Stab.rotate (Stab.arrO α) a m b d))
 case atStart=>exact ⟨m - a,b - m,d,by go_num,by go_num,om_,om_,om_,om_,om_,hs,S0,rfl⟩
 case round =>
  clear S0
  obtain ⟨i,j,dk,rfl,rfl,hi,hj,him,hjm,hg1,hsk,S1,HR⟩:=hrel
  obtain ⟨f,rfl⟩:∃ f,gk=f+1:=⟨gk - 1,om_⟩
  by_cases hij:i=j
  ·subst hij
   have HR2:Hid (Stab.swr (Stab.arrO α) (m - i) m dk i=Stab.rotate (Stab.arrO α) a m b d):=by
    show _=_;have:=HR.out;rwa [Stab.rot,if_pos rfl] at this
   have SW1:=hd_ (SWP.out dk hsk)
   clear HR SWP
   go_wp2_with (first
    | (go_at_call 337;refine (SW1.out _ S1.out _ _ _ (m - i) m i om_ om_ om_ om_ om_).mono ?_;rintro e w2 ⟨rfl,S2⟩))
   go_end0
   exact ⟨rfl,by rw [← HR2.out];exact S2⟩
  ·have hij1:((i:Int) == (j:Int))=false:=by simp;omega
   have hij2:((i:Int) != (j:Int))=true:=by simp;omega
   by_cases hlt:j < i
   ·have hltz:(j:Int) < (i:Int):=by omega
    have HR2:Hid (Stab.rot (Stab.arrO α) m f (i - j) j (Stab.swr (Stab.arrO α) (m - i) m dk j)=Stab.rotate (Stab.arrO α) a m b d):=by
     show _=_;have:=HR.out;rwa [Stab.rot,if_neg hij,if_pos hlt] at this
    have hs2:=Stab.swr_size (m - i) m dk j
    have SW1:=hd_ (SWP.out dk hsk)
    clear HR SWP hij
    go_wp2_with (first
     | (go_at_call 337;refine (SW1.out _ S1.out _ _ _ (m - i) m j om_ om_ om_ om_ om_).mono ?_;rintro e w2 ⟨rfl,S2⟩))
    have S3:Aside _:=S2
    go_roundg f
    case measure=>omega
    case rel=>exact ⟨i - j,j,_,by go_num,by go_num,om_,om_,om_,om_,om_,by rw [hs2];exact hsk,S3,HR2⟩
   ·have hltz:¬ (j:Int) < (i:Int):=by omega
    have hlt2:i < j:=by omega
    have HR2:Hid (Stab.rot (Stab.arrO α) m f i (j - i) (Stab.swr (Stab.arrO α) (m - i) (m+j - i) dk i)=Stab.rotate (Stab.arrO α) a m b d):=by
     show _=_;have:=HR.out;rwa [Stab.rot,if_neg hij,if_neg hlt] at this
    have hs2:=Stab.swr_size (m - i) (m+j - i) dk i
    have SW1:=hd_ (SWP.out dk hsk)
    clear HR SWP hij
    go_wp2_with (first
     | (go_at_call 337;refine (SW1.out _ S1.out _ _ _ (m - i) (m+j - i) i om_ om_ om_ om_ om_).mono ?_;rintro e w2 ⟨rfl,S2⟩))
    have S3:Aside _:=S2
    go_roundg f
    case measure=>omega
    case rel=>exact ⟨i,j - i,_,by go_num,by go_num,om_,om_,om_,om_,om_,by rw [hs2];exact hsk,S3,HR2⟩
end Go.Proofs.YtbapgefodmmikaaGreatDoor
