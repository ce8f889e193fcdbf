/- Parts of a proof. -/
import Derived.Test.YtbapgefodmmikaaGreatDoorLMin
import Derived.Test.YtbapgefodmmikaaGreatDoorL07
set_option linter.unusedVariables false
set_option linter.unusedSimpArgs false
set_option maxHeartbeats 40000000
set_option maxRecDepth 100000
namespace Go.Proofs.YtbapgefodmmikaaGreatDoor
open Go.RowKit Go.Proofs Go.Ord Tryz
attribute [local irreducible] Ord.walk
theorem Zfs:∀ a < 256,∀ i < 8,a < 2 ^ i→bits .or .i64 ((a:Nat):Int) ((2 ^ i:Nat):Int)=((a+2 ^ i:Nat):Int):=by decide +kernel
def cOne (V:Nat) (lo hi:Int) (ks:List Kn) (i:Nat):Nat→Nat:=Za6 V lo hi (ks ++ [Kn.g (2 ^ i) 1 1])
def Zay (m:(Nat→Nat)→Nat) (V:Nat) (lo hi:Int) (ks:List Kn):Nat→Nat × Nat
 | 0=>(0,0)
 | i+1 =>
  let s:=Zay m V lo hi ks i
  if m (cOne V lo hi ks i)=m (Za6 V lo hi ks) then (s.1+2 ^ i,s.2) else if m (cOne V lo hi ks i)=0 then (s.1,s.2+2 ^ i) else s
theorem Zoj (m:(Nat→Nat)→Nat) (V:Nat) (lo hi:Int) (ks:List Kn) (i:Nat):(Zay m V lo hi ks i).1 < 2 ^ i∧(Zay m V lo hi ks i).2 < 2 ^ i:=by
 induction i with
 | zero=>simp [Zay]
 | succ i ih =>
  rw [Nat.pow_succ]
  simp only [Zay]
  split
  ·simp only;omega
  ·split
   ·simp only;omega
   ·omega
theorem Zmp (k:Nat) (h:k < 9):wrap64 ((2:Int) ^ k)=((2 ^ k:Nat):Int):=by
 rcases (show k=0∨k=1∨k=2∨k=3∨k=4∨k=5∨k=6∨k=7∨k=8 by omega) with rfl|rfl|rfl|rfl|rfl|rfl|rfl|rfl|rfl <;> (unfold wrap64;decide)
theorem Zdu:Zdw prog 157 2:=⟨_,underlying157,rfl,by kernel_rfl⟩
def atN (n:Nat) (c:Nat→Nat):Nat:=c n
theorem Zjw (w:World) (k:Kn) (t:TypeId):KnAt (w.alloc (.cells #[knV k] t)) w.heap.size [k]:=by
 intro i hi
 have:i=0:=by simpa using hi
 subst this
 exact ⟨_,_,rfl,(Blk.new w #[knV k] t).cell 0⟩
theorem _root_.Qq {p:Prop}(h:p:=by
 clear hbw hb3 hb4 hb5 hbw3 hbw4 bs
 have r5:=bs5.cell
 have f5:=bs5.free
 refine Ord.wp_region [(0,0),(1,0),(2,0),(3,0),(4,0),(5,0),(6,2)] (fun _=>True) kr_ kr_ (fun c a d v w h=>by cases d <;> exact h) trivial ?_
 go_wp2_with (first|(refine o_ ?_;intro K hK)|(with_reducible first|refine Zyo ?_ ?_|refine Zyj ?_|refine Zyf bn_ (fun _=>?_)))
 refine ⟨⟨k+1,om_,by go_num,by exact bel_,?_⟩,by simp [intOf];omega⟩
 rw [HS2.out]
 simp only [Int.natCast_add]
 exact (bs5.set 1 _).drew):p:=h
theorem _root_.Qr {p:Prop}(h:p:=by
 clear hbw hb3 hb4 hb5 hbw3 hbw4 bs
 have r5:=bs5.cell
 have f5:=bs5.free
 refine Ord.wp_region [(0,0),(1,0),(2,0),(3,0),(4,0),(5,0),(6,2)] (fun _=>True) kr_ kr_ (fun c a d v w h=>by cases d <;> exact h) trivial ?_
 go_wp2_with (first|(refine o_ ?_;intro K hK)|(with_reducible first|refine Zyo ?_ ?_|refine Zyj ?_|refine Zyf bn_ (fun _=>?_)))
 refine ⟨⟨k+1,om_,by go_num,by exact bel_,?_⟩,by simp [intOf];omega⟩
 rw [HS2.out]
 simp only [Int.natCast_add]
 exact (bs5.set 0 _).drew):p:=h
theorem _root_.Q12 {p:Prop}(h:p:=by
 go_wp2_with (first
  | (refine Za0 157 (.tmp 4) Zdu rfl rfl rfl bs rfl ?_)
  | (refine Za1 157 (.tmp 4) (.tmp 48) Zdu rfl rfl rfl rfl bs rfl rfl (by simp [Value.oneCell']) ?_;intro w6 h6))
 (try simp only [Exit.inBlock,Exit.then])
 refine bodyPost_ret (v:=.agg #[.int .i64 s.1,.int .i64 s.2]) (Za5 rfl _ Zdu rfl h6.blk rfl) rfl ⟨rfl,?_⟩
 exact h6.below hbw nl_):p:=h
theorem _root_.Q15 {p:Prop}(h:p:=by
 intro w' i hi hb bk hk
 have:=(h.below hb).counts [Kn.g (2 ^ i) 1 1] (some ⟨bk,0,none⟩) 1 (2 ^ ks.length - 1) h.full hk sp_ (by
  intro x hx;simp only [List.mem_singleton] at hx;subst hx
  show 2 ^ i < 256
  have:=Nat.pow_le_pow_right (show 0 < 2 by omega) (show i≤7 by have:=h.hV8;omega)
  have e:(2:Nat) ^ 7=128:=rfl
  omega) sp_
 rwa [Zgw] at this):p:=h
theorem _root_.Q30 {p:Prop}(h:p:=by
 refine ⟨⟨k+1,om_,by go_num,hbw5,?_⟩,by simp [intOf];omega⟩
 rw [HS2.out]
 exact bs5):p:=h
theorem Zui {w:World}{v:Nat}{b:Bn}{V:Nat}{ks:List Kn}{ga:Option Addr}{gc:Nat}{pa:Option Addr}{pc:Nat}{ka:Option Addr}{kc:Nat}(h:Vt w v b V ks ga gc pa pc ka kc)  :
  Calls prog 96 #[.pointer (some ⟨v,0,none⟩),.func (.func 90) #[] #[]] w (Zak (.agg #[.int .i64 (Zay (csum) V b.lo b.hi ks V).1,.int .i64 (Zay (csum) V b.lo b.hi ks V).2]) w):=by
 have HE:=hd_ (fun w' (hb:Below w.heap.size w w')=>(h.below hb).every)
 have HC:=hd_ (fun w' (hb:Below w.heap.size w w')=>(h.below hb).all)
 have HO:Hid (∀ w' i,i < V→Below w.heap.size w w'→∀ bk,KnAt w' (some ⟨bk,0,none⟩) [Kn.g (2 ^ i) 1 1]→Calls prog 92 #[.pointer (some ⟨v,0,none⟩),.int .u64 ((2 ^ ks.length - 1:Nat):Int),.slice (some ⟨bk,0,none⟩) 1 1] w' (Zak (cv (cOne V b.lo b.hi ks i)) w')):=Q15
 have HM:Hid (∀ c w',csum c≤2304→Below w.heap.size w w'→Calls prog 90 #[cv c] w' (Zak (.int .i64 ((csum) c:Nat)) w')):=by
  intro c w' hc hb
  exact Zrr c om_ w'
 have HB:=hd_ b_one
 have hV8:=h.hV8
 have v0:=h.va.c0
 rw [h.hV] at v0
 have hvlt:=bl_ w _ v0
 have HCA:=hd_ (Zbb V hV8 b.lo b.hi)
 obtain ⟨C,hC⟩:∃ C,Za6 V b.lo b.hi ks=C:=⟨_,rfl⟩
 rw [hC] at HC
 have hCs:csum C≤2304:=by rw [← hC];exact HCA.out _
 have HCC:=hd_ hC
 clear hC
 have HLT:=hd_ (Zoj (csum) V b.lo b.hi ks)
 go_enter func96,ntmps96
 go_wp2_with (first
  | (go_at_call 93;refine (HE.out _ bel_).mono ?_;rintro e w' ⟨rfl,rfl⟩)
  | (go_at_call 92;refine (HC.out _ bel_).mono ?_;rintro e w1 ⟨rfl,hb1⟩;have z1:w.heap.size+1≤w1.heap.size:=(by have:=hb1.size;simpa using this);have bs1:Blk w1 w.heap.size #[(),()] 157:=(Blk.new _ _ _).below hb1 sp_)
  | (go_at_call 90;refine (HM.out _ _ hCs bel_).mono ?_;rintro e w2 ⟨rfl,hb2⟩;have hbw2:Below w.heap.size w w2:=bel_;have bs2:=bs1.below hb2 om_;have z2:=hb2.size;have v2:=Za4 hbw2 v0))
 clear bs1 hb2
 go_loopw [18] (fun i wr=>∃ k:Nat,k≤V∧i=↑k∧Below w.heap.size w wr∧Blk wr w.heap.size #[.int .i64 (Zay (csum) V b.lo b.hi ks k).1,.int .i64 (Zay (csum) V b.lo b.hi ks k).2] 157) (fun i _=>V - (intOf i).toNat)
 case atStart=>exact ⟨0,om_,rfl,hbw2,bs2⟩
 case round =>
  clear bs2 hbw2 v2 z1 z2
  obtain ⟨k,hk,rfl,hbw,bs⟩:=hrel
  have v2:=Za4 hbw v0
  have z:=hbw.size
  have ls:=bs.lt
  by_cases hlt:k < V
  ·have hlti:(k:Int) < (V:Int):=by omega
   have HOk:=hd_ (fun w' hb bk hkn=>HO.out w' k hlt hb bk hkn)
   have hCs2:csum (cOne V b.lo b.hi ks k)≤2304:=HCA.out _
   have hST:Zay (csum) V b.lo b.hi ks (k+1)=if (csum) (cOne V b.lo b.hi ks k)=(csum) C then ((Zay (csum) V b.lo b.hi ks k).1+2 ^ k,(Zay (csum) V b.lo b.hi ks k).2) else if (csum) (cOne V b.lo b.hi ks k)=0 then ((Zay (csum) V b.lo b.hi ks k).1,(Zay (csum) V b.lo b.hi ks k).2+2 ^ k) else Zay (csum) V b.lo b.hi ks k:=by rw [← HCC.out];rfl
   have HST:=hd_ hST
   clear hST
   have hl:=HLT.out k
   generalize cOne V b.lo b.hi ks k=D at *
   generalize Zay (csum) V b.lo b.hi ks k=s at *
   obtain ⟨sw,sb⟩:=s
   simp only at bs hl
   have hor1:=Zfs sw (by have:=Nat.pow_le_pow_right (show 0 < 2 by omega) (show k≤8 by omega);have e:(2:Nat) ^ 8=256:=rfl;omega) k om_ hl.1
   have hor2:=Zfs sb (by have:=Nat.pow_le_pow_right (show 0 < 2 by omega) (show k≤8 by omega);have e:(2:Nat) ^ 8=256:=rfl;omega) k om_ hl.2
   have HMD:=hd_ (fun w' hb=>HM.out D w' hCs2 hb)
   clear hCs2
   have hwp:=Zmp k om_
   have HB2:=hd_ (fun w'=>HB.out k k rfl om_ true w')
   obtain ⟨P,hP⟩:∃ P,2 ^ k=P:=⟨_,rfl⟩
   rw [hP] at HOk HST hl hor1 hor2 hwp HB2
   clear hP
   by_cases hA:(csum) D=(csum) C
   ·have hAi:(((csum) D:Int) == ((csum) C:Int))=true:=by rw [hA];simp
    have h2:=HST.out
    rw [if_pos hA] at h2
    have HS2:=hd_ h2
    clear h2 HST hA
    go_wp2_with (first
     | (go_at_call 93;refine (HE.out _ bel_).mono ?_;rintro e w' ⟨rfl,rfl⟩)
     | (go_at_call 94;refine (HB2.out _).mono ?_;rintro e w3 ⟨rfl,hb3⟩;have hbw3:Below w.heap.size w w3:=hbw.trans (hb3.mono z))
     | (go_at_call 92;refine (HOk.out _ (hbw3.alloc hbw3.size _) _ (Zjw _ _ _)).mono ?_;rintro e w4 ⟨rfl,hb4⟩;have hbw4:Below w.heap.size w w4:=(hbw3.alloc hbw3.size _).trans (hb4.mono (by have:=hbw3.size;simp;omega)))
     | (go_at_call 90;refine (HMD.out _ hbw4).mono ?_;rintro e w5 ⟨rfl,hb5⟩;have hbw5:Below w.heap.size w w5:=hbw4.trans (hb5.mono hbw4.size);have bs5:Blk w5 w.heap.size #[sw,sb] 157:=(((bs.below hb3 ls).alloc _).below hb4 (by have:=hb3.size;simp;omega)).below hb5 (by have:=hb3.size;have:=hb4.size;simp at this;omega)))
    exact Qr
   ·have hAi:(((csum) D:Int) == ((csum) C:Int))=false:=by simp;omega
    have h2:=HST.out
    rw [if_neg hA] at h2
    clear HST hA
    by_cases h0:(csum) D=0
    ·have h0i:(((csum) D:Int) == (0:Int))=true:=by rw [h0];rfl
     rw [if_pos h0] at h2
     have HS2:=hd_ h2
     clear h2 h0
     go_wp2_with (first
      | (go_at_call 93;refine (HE.out _ bel_).mono ?_;rintro e w' ⟨rfl,rfl⟩)
      | (go_at_call 94;refine (HB2.out _).mono ?_;rintro e w3 ⟨rfl,hb3⟩;have hbw3:Below w.heap.size w w3:=hbw.trans (hb3.mono z))
      | (go_at_call 92;refine (HOk.out _ (hbw3.alloc hbw3.size _) _ (Zjw _ _ _)).mono ?_;rintro e w4 ⟨rfl,hb4⟩;have hbw4:Below w.heap.size w w4:=(hbw3.alloc hbw3.size _).trans (hb4.mono (by have:=hbw3.size;simp;omega)))
      | (go_at_call 90;refine (HMD.out _ hbw4).mono ?_;rintro e w5 ⟨rfl,hb5⟩;have hbw5:Below w.heap.size w w5:=hbw4.trans (hb5.mono hbw4.size);have bs5:Blk w5 w.heap.size #[sw,sb] 157:=(((bs.below hb3 ls).alloc _).below hb4 (by have:=hb3.size;simp;omega)).below hb5 (by have:=hb3.size;have:=hb4.size;simp at this;omega)))
     exact Qq
    ·have h0i:(((csum) D:Int) == (0:Int))=false:=by simp;omega
     rw [if_neg h0] at h2
     have HS2:=hd_ h2
     clear h2 h0
     go_wp2_with (first
      | (go_at_call 93;refine (HE.out _ bel_).mono ?_;rintro e w' ⟨rfl,rfl⟩)
      | (go_at_call 94;refine (HB2.out _).mono ?_;rintro e w3 ⟨rfl,hb3⟩;have hbw3:Below w.heap.size w w3:=hbw.trans (hb3.mono z))
      | (go_at_call 92;refine (HOk.out _ (hbw3.alloc hbw3.size _) _ (Zjw _ _ _)).mono ?_;rintro e w4 ⟨rfl,hb4⟩;have hbw4:Below w.heap.size w w4:=(hbw3.alloc hbw3.size _).trans (hb4.mono (by have:=hbw3.size;simp;omega)))
      | (go_at_call 90;refine (HMD.out _ hbw4).mono ?_;rintro e w5 ⟨rfl,hb5⟩;have hbw5:Below w.heap.size w w5:=hbw4.trans (hb5.mono hbw4.size);have bs5:Blk w5 w.heap.size #[sw,sb] 157:=(((bs.below hb3 ls).alloc _).below hb4 (by have:=hb3.size;simp;omega)).below hb5 (by have:=hb3.size;have:=hb4.size;simp at this;omega)))
     exact Q30
  ·have hkV:k=V:=by omega
   subst hkV
   generalize Zay (csum) k b.lo b.hi ks k=s at *
   exact Q12
theorem Zrq (c:Nat→Nat) (pb n:Nat) (hn:n < 9) (w:World) (hp:w.cell? ⟨pb,0,none⟩=some (.int .i64 n)) :
  Calls prog 103 #[cv c,.pointer pb] w (Zak (.int .i64 (c n:Nat)) w):=by
 have hc:=Zpo c n hn
 generalize hv:(#[(c 0),(c 1),(c 2),(c 3),(c 4),(c 5),(c 6),(c 7),(c 8)]:Array Value)=A at *
 have hsz:A.size=9:=by rw [← hv];rfl
 have hlt:=bl_ w _ hp
 have hni:(n:Int) < 9:=by omega
 unfold cv
 rw [hv]
 clear hv
 go_enter func103,ntmps103
 go_wp2
 go_ret
 refine ⟨?_,br_.alloc nl_ _⟩
 obtain ⟨h1,h2⟩:=Array.getElem?_eq_some_iff.1 hc
 show Ending.returned (A[n]'h1)=_
 rw [h2]
theorem Zrp {w:World}{v:Nat}{b:Bn}{V:Nat}{ks:List Kn}{ga:Option Addr}{gc:Nat}{pa:Option Addr}{pc:Nat}{ka:Option Addr}{kc:Nat}(h:Vt w v b V ks ga gc pa pc ka kc) (pb n:Nat) (hn:n < 9) (hp:w.cell? ⟨pb,0,none⟩=some (.int .i64 n)) :
  Calls prog 96 #[.pointer (some ⟨v,0,none⟩),.func (.func 103) #[] #[.pointer pb]] w (Zak (.agg #[.int .i64 (Zay (atN n) V b.lo b.hi ks V).1,.int .i64 (Zay (atN n) V b.lo b.hi ks V).2]) w):=by
 have HE:=hd_ (fun w' (hb:Below w.heap.size w w')=>(h.below hb).every)
 have HC:=hd_ (fun w' (hb:Below w.heap.size w w')=>(h.below hb).all)
 have HO:Hid (∀ w' i,i < V→Below w.heap.size w w'→∀ bk,KnAt w' (some ⟨bk,0,none⟩) [Kn.g (2 ^ i) 1 1]→Calls prog 92 #[.pointer (some ⟨v,0,none⟩),.int .u64 ((2 ^ ks.length - 1:Nat):Int),.slice (some ⟨bk,0,none⟩) 1 1] w' (Zak (cv (cOne V b.lo b.hi ks i)) w')):=Q15
 have HM:Hid (∀ c w',csum c≤2304→Below w.heap.size w w'→Calls prog 103 #[cv c,.pointer pb] w' (Zak (.int .i64 ((atN n) c:Nat)) w')):=by
  intro c w' hc hb
  exact Zrq c pb n hn w' (Za4 hb hp)
 have HB:=hd_ b_one
 have hV8:=h.hV8
 have v0:=h.va.c0
 rw [h.hV] at v0
 have hvlt:=bl_ w _ v0
 have HCA:=hd_ (Zbb V hV8 b.lo b.hi)
 obtain ⟨C,hC⟩:∃ C,Za6 V b.lo b.hi ks=C:=⟨_,rfl⟩
 rw [hC] at HC
 have hCs:csum C≤2304:=by rw [← hC];exact HCA.out _
 have HCC:=hd_ hC
 clear hC
 have HLT:=hd_ (Zoj (atN n) V b.lo b.hi ks)
 go_enter func96,ntmps96
 go_wp2_with (first
  | (go_at_call 93;refine (HE.out _ bel_).mono ?_;rintro e w' ⟨rfl,rfl⟩)
  | (go_at_call 92;refine (HC.out _ bel_).mono ?_;rintro e w1 ⟨rfl,hb1⟩;have z1:w.heap.size+1≤w1.heap.size:=(by have:=hb1.size;simpa using this);have bs1:Blk w1 w.heap.size #[(),()] 157:=(Blk.new _ _ _).below hb1 sp_)
  | (go_at_call 103;refine (HM.out _ _ hCs bel_).mono ?_;rintro e w2 ⟨rfl,hb2⟩;have hbw2:Below w.heap.size w w2:=bel_;have bs2:=bs1.below hb2 om_;have z2:=hb2.size;have v2:=Za4 hbw2 v0))
 clear bs1 hb2
 go_loopw [18] (fun i wr=>∃ k:Nat,k≤V∧i=↑k∧Below w.heap.size w wr∧Blk wr w.heap.size #[.int .i64 (Zay (atN n) V b.lo b.hi ks k).1,.int .i64 (Zay (atN n) V b.lo b.hi ks k).2] 157) (fun i _=>V - (intOf i).toNat)
 case atStart=>exact ⟨0,om_,rfl,hbw2,bs2⟩
 case round =>
  clear bs2 hbw2 v2 z1 z2
  obtain ⟨k,hk,rfl,hbw,bs⟩:=hrel
  have v2:=Za4 hbw v0
  have z:=hbw.size
  have ls:=bs.lt
  by_cases hlt:k < V
  ·have hlti:(k:Int) < (V:Int):=by omega
   have HOk:=hd_ (fun w' hb bk hkn=>HO.out w' k hlt hb bk hkn)
   have hCs2:csum (cOne V b.lo b.hi ks k)≤2304:=HCA.out _
   have hST:Zay (atN n) V b.lo b.hi ks (k+1)=if (atN n) (cOne V b.lo b.hi ks k)=(atN n) C then ((Zay (atN n) V b.lo b.hi ks k).1+2 ^ k,(Zay (atN n) V b.lo b.hi ks k).2) else if (atN n) (cOne V b.lo b.hi ks k)=0 then ((Zay (atN n) V b.lo b.hi ks k).1,(Zay (atN n) V b.lo b.hi ks k).2+2 ^ k) else Zay (atN n) V b.lo b.hi ks k:=by rw [← HCC.out];rfl
   have HST:=hd_ hST
   clear hST
   have hl:=HLT.out k
   generalize cOne V b.lo b.hi ks k=D at *
   generalize Zay (atN n) V b.lo b.hi ks k=s at *
   obtain ⟨sw,sb⟩:=s
   simp only at bs hl
   have hor1:=Zfs sw (by have:=Nat.pow_le_pow_right (show 0 < 2 by omega) (show k≤8 by omega);have e:(2:Nat) ^ 8=256:=rfl;omega) k om_ hl.1
   have hor2:=Zfs sb (by have:=Nat.pow_le_pow_right (show 0 < 2 by omega) (show k≤8 by omega);have e:(2:Nat) ^ 8=256:=rfl;omega) k om_ hl.2
   have HMD:=hd_ (fun w' hb=>HM.out D w' hCs2 hb)
   clear hCs2
   have hwp:=Zmp k om_
   have HB2:=hd_ (fun w'=>HB.out k k rfl om_ true w')
   obtain ⟨P,hP⟩:∃ P,2 ^ k=P:=⟨_,rfl⟩
   rw [hP] at HOk HST hl hor1 hor2 hwp HB2
   clear hP
   by_cases hA:(atN n) D=(atN n) C
   ·have hAi:(((atN n) D:Int) == ((atN n) C:Int))=true:=by rw [hA];simp
    have h2:=HST.out
    rw [if_pos hA] at h2
    have HS2:=hd_ h2
    clear h2 HST hA
    go_wp2_with (first
     | (go_at_call 93;refine (HE.out _ bel_).mono ?_;rintro e w' ⟨rfl,rfl⟩)
     | (go_at_call 94;refine (HB2.out _).mono ?_;rintro e w3 ⟨rfl,hb3⟩;have hbw3:Below w.heap.size w w3:=hbw.trans (hb3.mono z))
     | (go_at_call 92;refine (HOk.out _ (hbw3.alloc hbw3.size _) _ (Zjw _ _ _)).mono ?_;rintro e w4 ⟨rfl,hb4⟩;have hbw4:Below w.heap.size w w4:=(hbw3.alloc hbw3.size _).trans (hb4.mono (by have:=hbw3.size;simp;omega)))
     | (go_at_call 103;refine (HMD.out _ hbw4).mono ?_;rintro e w5 ⟨rfl,hb5⟩;have hbw5:Below w.heap.size w w5:=hbw4.trans (hb5.mono hbw4.size);have bs5:Blk w5 w.heap.size #[sw,sb] 157:=(((bs.below hb3 ls).alloc _).below hb4 (by have:=hb3.size;simp;omega)).below hb5 (by have:=hb3.size;have:=hb4.size;simp at this;omega)))
    exact Qr
   ·have hAi:(((atN n) D:Int) == ((atN n) C:Int))=false:=by simp;omega
    have h2:=HST.out
    rw [if_neg hA] at h2
    clear HST hA
    by_cases h0:(atN n) D=0
    ·have h0i:(((atN n) D:Int) == (0:Int))=true:=by rw [h0];rfl
     rw [if_pos h0] at h2
     have HS2:=hd_ h2
     clear h2 h0
     go_wp2_with (first
      | (go_at_call 93;refine (HE.out _ bel_).mono ?_;rintro e w' ⟨rfl,rfl⟩)
      | (go_at_call 94;refine (HB2.out _).mono ?_;rintro e w3 ⟨rfl,hb3⟩;have hbw3:Below w.heap.size w w3:=hbw.trans (hb3.mono z))
      | (go_at_call 92;refine (HOk.out _ (hbw3.alloc hbw3.size _) _ (Zjw _ _ _)).mono ?_;rintro e w4 ⟨rfl,hb4⟩;have hbw4:Below w.heap.size w w4:=(hbw3.alloc hbw3.size _).trans (hb4.mono (by have:=hbw3.size;simp;omega)))
      | (go_at_call 103;refine (HMD.out _ hbw4).mono ?_;rintro e w5 ⟨rfl,hb5⟩;have hbw5:Below w.heap.size w w5:=hbw4.trans (hb5.mono hbw4.size);have bs5:Blk w5 w.heap.size #[sw,sb] 157:=(((bs.below hb3 ls).alloc _).below hb4 (by have:=hb3.size;simp;omega)).below hb5 (by have:=hb3.size;have:=hb4.size;simp at this;omega)))
     exact Qq
    ·have h0i:(((atN n) D:Int) == (0:Int))=false:=by simp;omega
     rw [if_neg h0] at h2
     have HS2:=hd_ h2
     clear h2 h0
     go_wp2_with (first
      | (go_at_call 93;refine (HE.out _ bel_).mono ?_;rintro e w' ⟨rfl,rfl⟩)
      | (go_at_call 94;refine (HB2.out _).mono ?_;rintro e w3 ⟨rfl,hb3⟩;have hbw3:Below w.heap.size w w3:=hbw.trans (hb3.mono z))
      | (go_at_call 92;refine (HOk.out _ (hbw3.alloc hbw3.size _) _ (Zjw _ _ _)).mono ?_;rintro e w4 ⟨rfl,hb4⟩;have hbw4:Below w.heap.size w w4:=(hbw3.alloc hbw3.size _).trans (hb4.mono (by have:=hbw3.size;simp;omega)))
      | (go_at_call 103;refine (HMD.out _ hbw4).mono ?_;rintro e w5 ⟨rfl,hb5⟩;have hbw5:Below w.heap.size w w5:=hbw4.trans (hb5.mono hbw4.size);have bs5:Blk w5 w.heap.size #[sw,sb] 157:=(((bs.below hb3 ls).alloc _).below hb4 (by have:=hb3.size;simp;omega)).below hb5 (by have:=hb3.size;have:=hb4.size;simp at this;omega)))
     exact Q30
  ·have hkV:k=V:=by omega
   subst hkV
   generalize Zay (atN n) k b.lo b.hi ks k=s at *
   exact Q12
end Go.Proofs.YtbapgefodmmikaaGreatDoor
namespace Go.Ord.Two
variable {P:Program}{ops:Array Oper}{Q:Exit→Act→World→Prop}{H:World→Prop}{hold:Nat→Bool}
def op (P:Program) (ops:Array Oper) (eff hold:Nat→Bool) (H:World→Prop) (Q:Exit→Act→World→Prop) (i:Nat) (K:Act→World→Prop) (a:Act) (w:World):Prop :=
 match ops[i]? with
 | none=>K a w
 | some o=>if Region.wanted o (yielded ops a.tmps) then
   (if eff i then o.wp P a w (fun a' w'=>(hold i=true→H w')∧K a' w') Q∨(o.asks P a w∧LetsOut Q)
    else ∃ v,Zyr P o a w v∧K (a.put o.dst v) w)
  else K (a.put o.dst undef) w
variable {eff:Nat→Bool}
theorem op_mono {i:Nat}{a:Act}{w:World}{K K':Act→World→Prop}(h:∀ a w,K a w→K' a w) (hh:op P ops eff hold H Q i K a w):op P ops eff hold H Q i K' a w:=Qw
def any (P:Program) (ops:Array Oper) (eff hold:Nat→Bool) (H:World→Prop) (Q:Exit→Act→World→Prop):Nat→Array Bool→Act→World→Prop
 | 0,listed,a,w=>Region.ready .any ops listed=[]∧Q .normal a w
 | fuel+1,listed,a,w =>
  (Region.ready .any ops listed=[]→Q .normal a w) ∧
  ∀ i∈Region.ready .any ops listed,op P ops eff hold H Q i (any P ops eff hold H Q fuel (listed.setIfInBounds i true)) a w
theorem wpOp_of_op {i:Nat}{K K':Act→World→Prop}{a:Act}{w:World}(h:∀ a w,K a w→K' a w) (hh:op P ops eff hold H Q i K a w):wpOp P ops Q i K' a w:=Q3b
theorem wpAny_of_any:∀ (fuel:Nat) (listed:Array Bool) (a:Act) (w:World),any P ops eff hold H Q fuel listed a w→wpAny P .any ops Q fuel listed a w
 | 0,_,_,_,h=>h
 | fuel+1,_,_,_,h=>⟨h.1,fun i hi=>wpOp_of_op (fun a w=>wpAny_of_any fuel _ a w) (h.2 i hi)⟩
variable {C:World→Prop}
theorem Zup {eff:Nat→Bool}{i:Nat}{o:Oper}{v:Value}{a:Act}{w:World}(hi:ops[i]? = some o) (he:eff i=false) (hw:C w) (hy:Yl P ops C o v a) {K:Act→World→Prop}(h:K (a.put o.dst v) w) :
  op P ops eff hold H Q i K a w:=by
 unfold op
 exact Q14
theorem op_put {j:Nat}{oi oj:Oper}{v:Value}(hj:ops[j]? = some oj) (hap:oi.apart ops oj=true)
  (hsi:∀ cs b,oi.op≠.select cs b) (hsj:∀ cs b,oj.op≠.select cs b) (hQ:∀ c a w,Q (.panic c) (a.put oi.dst v) w→Q (.panic c) a w) {K:Act→World→Prop}{a:Act}{w:World}
  (hy:Yl P ops C oi v a) (h:op P ops eff hold H Q j K (a.put oi.dst v) w) :
  op P ops eff hold H Q j (fun a' w'=>Yl P ops C oi v a'∧K (a'.put oi.dst v) w') a w:=Q4
theorem any_first {L:Array Bool}{i:Nat}{oi:Oper}{v:Value}(hi:ops[i]? = some oi) (he:eff i=false) (hsel:∀ (j:Nat) (o:Oper) cs b,ops[j]? = some o→o.op≠.select cs b)
  (hQ:∀ c a w,Q (.panic c) (a.put oi.dst v) w→Q (.panic c) a w) :
  ∀ (fuel:Nat) (listed:Array Bool) (a:Act) (w:World),H w→Calm ops (fun j=>eff j && !hold j) i L listed →
   (∀ j oj,ops[j]? = some oj→j≠i→listed.getD j true=false→(∀ e∈oj.after,Region.binds .any e=true→e.on≠i)→oi.apart ops oj=true) →
   i∈Region.ready .any ops listed→Yl P ops H oi v a →
   any P ops eff hold H Q fuel (listed.setIfInBounds i true) (a.put oi.dst v) w→any P ops eff hold H Q (fuel+1) listed a w:=by
 intro fuel
 induction fuel with
 | zero =>
  intro listed a w hw _ _ hr hy h
  refine ⟨fun h0=>(by rw [h0] at hr;cases hr),fun j hj=>?_⟩
  by_cases hji:j=i
  ·subst hji;exact Zup hi he hw hy h
  ·have:=ready_mono hj hji
   rw [h.1] at this
   cases this
 | succ fuel ih =>
  intro listed a w hw hc hfree hr hy h
  refine ⟨fun h0=>(by rw [h0] at hr;cases hr),fun j hj=>?_⟩
  by_cases hji:j=i
  ·subst hji;exact Zup hi he hw hy h
  ·have h1:=h.2 j (ready_mono hj hji)
   obtain ⟨hjun,oj,hoj,hall⟩:=mem_ready.1 hj
   obtain ⟨hej,hLj⟩:=hc.read hj hji
   have hnot:=Ze8 hr hoj hall
   have h2:=op_put hoj (hfree j oj hoj hji hjun hnot) (fun cs b=>hsel i oi cs b hi) (fun cs b=>hsel j oj cs b hoj) hQ hy h1
   have hfree':∀ k ok,ops[k]? = some ok→k≠i→(listed.setIfInBounds j true).getD k true=false →
     (∀ e∈ok.after,Region.binds .any e=true→e.on≠i)→oi.apart ops ok=true:=fun k ok hk hki hun hno=>by exact Q39
   have hH:op P ops eff hold H Q j (fun a' w'=>H w'∧Yl P ops H oi v a'∧any P ops eff hold H Q fuel ((listed.setIfInBounds i true).setIfInBounds j true) (a'.put oi.dst v) w') a w:=by
    revert h2
    unfold op
    simp only [hoj]
    intro h2
    split
    ·rename_i hwt
     simp only [hwt,if_true] at h2
     split
     ·rename_i hef
      simp only [hef,if_true] at h2
      exact h2.imp (Oper.wp_mono (fun a w hk=>⟨fun _=>hk.1 (by simpa [hef] using hej),hk.1 (by simpa [hef] using hej),hk.2⟩)) id
     ·exact Q1n
    ·rename_i hwt
     simp only [hwt] at h2
     exact ⟨hw,h2⟩
   refine op_mono (fun a' w' h3=>ih (listed.setIfInBounds j true) a' w' h3.1 (hc.set hLj) hfree' (ready_mono hr (Ne.symm hji)) h3.2.1 ?_) hH
   rw [Array.setIfInBounds_comm _ _ hji]
   exact h3.2.2
theorem any_calm {i:Nat}{oi:Oper}{v:Value}{w:World}{L:Array Bool}(hi:ops[i]? = some oi) (he:eff i=false) (hsel:∀ (j:Nat) (o:Oper) cs b,ops[j]? = some o→o.op≠.select cs b)
  (hQ:∀ c a w,Q (.panic c) (a.put oi.dst v) w→Q (.panic c) a w) :
  ∀ (fuel:Nat) (listed:Array Bool) (a:Act),Calm ops eff i L listed →
   (∀ j oj,ops[j]? = some oj→j≠i→listed.getD j true=false→(∀ e∈oj.after,Region.binds .any e=true→e.on≠i)→oi.apart ops oj=true) →
   i∈Region.ready .any ops listed→Yl P ops (· = w) oi v a →
   any P ops eff hold H Q fuel (listed.setIfInBounds i true) (a.put oi.dst v) w→any P ops eff hold H Q (fuel+1) listed a w:=by
 intro fuel
 induction fuel with
 | zero =>
  intro listed a _ _ hr hy h
  refine ⟨fun h0=>(by rw [h0] at hr;cases hr),fun j hj=>?_⟩
  by_cases hji:j=i
  ·subst hji;exact Zup (C:=(· = w)) hi he rfl hy h
  ·have:=ready_mono hj hji
   rw [h.1] at this
   cases this
 | succ fuel ih =>
  intro listed a hc hfree hr hy h
  refine ⟨fun h0=>(by rw [h0] at hr;cases hr),fun j hj=>?_⟩
  by_cases hji:j=i
  ·subst hji;exact Zup (C:=(· = w)) hi he rfl hy h
  ·have h1:=h.2 j (ready_mono hj hji)
   obtain ⟨hej,hLj⟩:=hc.read hj hji
   obtain ⟨hjun,oj,hoj,hall⟩:=mem_ready.1 hj
   have hnot:=Ze8 hr hoj hall
   have h2:=op_put hoj (hfree j oj hoj hji hjun hnot) (fun cs b=>hsel i oi cs b hi) (fun cs b=>hsel j oj cs b hoj) hQ hy h1
   have hfree':∀ k ok,ops[k]? = some ok→k≠i→(listed.setIfInBounds j true).getD k true=false →
     (∀ e∈ok.after,Region.binds .any e=true→e.on≠i)→oi.apart ops ok=true:=fun k ok hk hki hun hno=>by exact Q39
   have hH:op P ops eff hold H Q j (fun a' w'=>w'=w∧Yl P ops (· = w) oi v a'∧any P ops eff hold H Q fuel ((listed.setIfInBounds i true).setIfInBounds j true) (a'.put oi.dst v) w') a w:=Q3d
   exact Q3i
theorem Zt3 {eff:Nat→Bool}{i:Nat}{oi:Oper}{v:Value}(hi:ops[i]? = some oi) (he:eff i=false) (hsel:∀ (j:Nat) (o:Oper) cs b,ops[j]? = some o→o.op≠.select cs b)
  (hQ:∀ c a w,Q (.panic c) (a.put oi.dst v) w→Q (.panic c) a w) :
  ∀ (fuel:Nat) (listed:Array Bool) (a:Act) (w:World),
   (∀ j oj,ops[j]? = some oj→j≠i→listed.getD j true=false→(∀ e∈oj.after,Region.binds .any e=true→e.on≠i)→oi.apart ops oj=true) →
   i∈Region.ready .any ops listed→Yl P ops (fun _=>True) oi v a →
   any P ops eff hold H Q fuel (listed.setIfInBounds i true) (a.put oi.dst v) w→any P ops eff hold H Q (fuel+1) listed a w:=by
 intro fuel
 induction fuel with
 | zero =>
  intro listed a w _ hr hy h
  refine ⟨fun h0=>(by rw [h0] at hr;cases hr),fun j hj=>?_⟩
  by_cases hji:j=i
  ·subst hji;exact Zup (C:=fun _=>True) hi he trivial hy h
  ·have:=ready_mono hj hji
   rw [h.1] at this
   cases this
 | succ fuel ih =>
  intro listed a w hfree hr hy h
  refine ⟨fun h0=>(by rw [h0] at hr;cases hr),fun j hj=>?_⟩
  by_cases hji:j=i
  ·subst hji;exact Zup (C:=fun _=>True) hi he trivial hy h
  ·have h1:=h.2 j (ready_mono hj hji)
   obtain ⟨hjun,oj,hoj,hall⟩:=mem_ready.1 hj
   have hnot:=Ze8 hr hoj hall
   have h2:=op_put hoj (hfree j oj hoj hji hjun hnot) (fun cs b=>hsel i oi cs b hi) (fun cs b=>hsel j oj cs b hoj) hQ hy h1
   have hfree':∀ k ok,ops[k]? = some ok→k≠i→(listed.setIfInBounds j true).getD k true=false →
     (∀ e∈ok.after,Region.binds .any e=true→e.on≠i)→oi.apart ops ok=true:=fun k ok hk hki hun hno=>by exact Q39
   refine op_mono (fun a' w' h3=>ih (listed.setIfInBounds j true) a' w' hfree' (ready_mono hr (Ne.symm hji)) h3.1 ?_) h2
   rw [Array.setIfInBounds_comm _ _ hji]
   exact h3.2
def ok1 (ops:Array Oper) (eff hold:Nat→Bool) (k c:Nat) (listed:Array Bool):Bool :=
 if eff k then c == 2 && hold k && decide (Region.ready .any ops listed=[k])
 else decide (c < 2) && (Region.ready .any ops listed).contains k && Region.free .any ops listed k && (if c == 1 then calm ops (fun j=>eff j && !hold j) k listed else calm ops eff k listed)
def Zjq (ops:Array Oper) (eff hold:Nat→Bool):List (Nat × Nat)→Array Bool→Option (Array Bool)
 | [],listed=>some listed
 | (k,c) :: l,listed=>if ok1 ops eff hold k c listed=true then Zjq ops eff hold l (listed.setIfInBounds k true) else none
def Zvr (ops:Array Oper) (eff hold:Nat→Bool):List (Nat × Nat)→Array Bool→Bool
 | [],listed=>(Region.ready .any ops listed).isEmpty
 | (k,c) :: l,listed =>
  (if eff k then c == 2 && !hold k && decide (Region.ready .any ops listed=[k])
   else decide (c < 2) && (Region.ready .any ops listed).contains k && Region.free .any ops listed k && (c == 1 || calm ops eff k listed)) &&
  Zvr ops eff hold l (listed.setIfInBounds k true)
def Zg5 (l:List (Nat × Nat)) (i:Nat):Bool:=l.any fun (k,c)=>k == i && c == 2
def planOk (ops:Array Oper) (l1 l2:List (Nat × Nat)):Bool :=
 Region.noSelect ops && l1.length+l2.length == ops.size &&
 match Zjq ops (Zg5 (l1 ++ l2)) (Zg5 l1) l1 (Array.replicate ops.size false) with
 | none=>false
 | some L=>Zvr ops (Zg5 (l1 ++ l2)) (Zg5 l1) l2 L
variable {eff:Nat→Bool}
theorem wp_qn {o:Oper}{a:Act}{w:World}{K R:Act→World→Prop}(h:o.wp P a w K (Qn Q R)):o.wp P a w K Q:=by
 unfold Oper.wp at *
 generalize (execOp a.eval o).run P w=r at *
 cases r with
 | ok x w'=>cases x <;> simp only [Oper.upon] at h ⊢ <;> exact h
 | halt x w'=>cases x <;> simp only [Oper.upon] at h ⊢ <;> exact h
theorem Zfk (hs:Region.noSelect ops=true) (hQ:∀ c a d v w,Q (.panic c) (a.put d v) w→Q (.panic c) a w):∀ (l:List (Nat × Nat)) (listed:Array Bool) (a:Act) (w:World),listed.size=ops.size →
  Zvr ops eff hold l listed=true→walk P ops (fun _=>True) Q l a w→any P ops eff hold H Q l.length listed a w
 | [],_,_,_,_,hB,h=>⟨by simpa [Zvr] using hB,h⟩
 | (k,c) :: l,listed,a,w,hsz,hB,h=>by
  rw [Zvr,Bool.and_eq_true] at hB
  obtain ⟨hB,hB'⟩:=hB
  rw [walk] at h
  cases ho:ops[k]? with
  | none=>simp only [ho] at h
  | some o =>
   simp only [ho] at h
   have hsz':(listed.setIfInBounds k true).size=ops.size:=by simp [hsz]
   have ih:∀ a w,walk P ops (fun _=>True) Q l a w→any P ops eff hold H Q l.length (listed.setIfInBounds k true) a w:=fun a w h2=>Zfk hs hQ l _ a w hsz' hB' h2
   cases he:eff k with
   | true =>
    simp only [he,if_true,Bool.and_eq_true,beq_iff_eq,decide_eq_true_eq,Bool.not_eq_true'] at hB
    obtain ⟨⟨rfl,hh⟩,hr⟩:=hB
    refine ⟨fun h0=>(by rw [h0] at hr;cases hr),fun j hj=>?_⟩
    rw [hr] at hj
    have hjk:j=k:=by simpa using hj
    subst hjk
    unfold op
    simp only [ho,he,if_true]
    split
    ·rename_i hwt
     simp only [hwt,if_true] at h
     exact h.imp (Oper.wp_mono (fun a w hk=>⟨fun e=>(by rw [hh] at e;cases e),ih a w hk.2⟩)) id
    ·rename_i hwt
     simp only [hwt] at h
     exact ih _ _ h
   | false =>
    simp only [he,Bool.false_eq_true,if_false,Bool.and_eq_true,Bool.or_eq_true,beq_iff_eq,decide_eq_true_eq] at hB
    obtain ⟨⟨⟨hc2,hr⟩,hf⟩,hcc⟩:=hB
    have hr':k∈Region.ready .any ops listed:=by simpa using hr
    by_cases hwt:Region.wanted o (yielded ops a.tmps)=true
    ·simp only [hwt,if_true] at h
     match c,hc2,h with
     | 0,_,h =>
      obtain ⟨v,h1,h2⟩:=h
      obtain ⟨L,hL⟩:=Zdj hsz (hcc.resolve_left sp_)
      exact any_calm ho he (Region.noSelect_spec hs) (fun c a w=>hQ c a _ _ w) l.length listed a hL (Region.free_spec ho hf) hr' (.inl ⟨hwt,fun w' e=>by subst e;exact h1⟩) (ih _ _ h2)
     | 1,_,h =>
      obtain ⟨v,h1,h2⟩:=h
      exact Zt3 ho he (Region.noSelect_spec hs) (fun c a w=>hQ c a _ _ w) l.length listed a w (Region.free_spec ho hf) hr' (.inl ⟨hwt,h1⟩) (ih _ _ h2)
     | (n+2),hc2,_=>exact absurd hc2 om_
    ·have hwt':Region.wanted o (yielded ops a.tmps)=false:=by simpa using hwt
     simp only [hwt',Bool.false_eq_true,if_false] at h
     exact Zt3 ho he (Region.noSelect_spec hs) (fun c a w=>hQ c a _ _ w) l.length listed a w (Region.free_spec ho hf) hr' (.inr ⟨hwt',rfl⟩) (ih _ _ h)
theorem Zfl {R:Act→World→Prop}{m:Nat}{LL:Array Bool}(hs:Region.noSelect ops=true) (hQ:∀ c a d v w,Q (.panic c) (a.put d v) w→Q (.panic c) a w)
  (hR:∀ a w,R a w→any P ops eff hold H Q m LL a w):∀ (l:List (Nat × Nat)) (listed:Array Bool) (a:Act) (w:World),listed.size=ops.size→H w →
  Zjq ops eff hold l listed=some LL→walk P ops H (Qn Q R) l a w→any P ops eff hold H Q (l.length+m) listed a w
 | [],listed,a,w,_,hw,hB,h=>by
  simp only [Zjq,Option.some.injEq] at hB
  subst hB
  simp only [List.length_nil,Nat.zero_add]
  exact hR a w h
 | (k,c) :: l,listed,a,w,hsz,hw,hB,h=>by
  rw [Zjq] at hB
  split at hB
  ·rename_i hb
   unfold ok1 at hb
   rw [walk] at h
   cases ho:ops[k]? with
   | none=>simp only [ho] at h
   | some o =>
    simp only [ho] at h
    have hsz':(listed.setIfInBounds k true).size=ops.size:=by simp [hsz]
    have ih:∀ a w,H w→walk P ops H (Qn Q R) l a w→any P ops eff hold H Q (l.length+m) (listed.setIfInBounds k true) a w:=fun a w h1 h2=>Zfl hs hQ hR l _ a w hsz' h1 hB h2
    have hlen:((k,c) :: l).length+m=l.length+m+1:=by simp;omega
    rw [hlen]
    cases he:eff k with
    | true =>
     simp only [he,if_true,Bool.and_eq_true,beq_iff_eq,decide_eq_true_eq] at hb
     obtain ⟨⟨rfl,hh⟩,hr⟩:=hb
     refine ⟨fun h0=>(by rw [h0] at hr;cases hr),fun j hj=>?_⟩
     rw [hr] at hj
     have hjk:j=k:=by simpa using hj
     subst hjk
     unfold op
     simp only [ho,he,if_true]
     split
     ·rename_i hwt
      simp only [hwt,if_true] at h
      refine h.imp (fun h=>Oper.wp_mono (fun a w hk=>⟨fun _=>hk.1,ih a w hk.1 hk.2⟩) (wp_qn h)) id
     ·rename_i hwt
      simp only [hwt] at h
      exact ih _ _ hw h
    | false =>
     simp only [he,Bool.false_eq_true,if_false,Bool.and_eq_true,decide_eq_true_eq] at hb
     obtain ⟨⟨⟨hc2,hr⟩,hf⟩,hcc⟩:=hb
     have hr':k∈Region.ready .any ops listed:=by simpa using hr
     have hc01:c=0∨c=1:=by omega
     by_cases hwt:Region.wanted o (yielded ops a.tmps)=true
     ·simp only [hwt,if_true] at h
      rcases hc01 with rfl|rfl
      ·simp only at h hcc
       obtain ⟨v,h1,h2⟩:=h
       obtain ⟨L,hL⟩:=Zdj hsz (by simpa using hcc)
       exact Q16
      ·simp only at h hcc
       obtain ⟨v,h1,h2⟩:=h
       obtain ⟨L,hL⟩:=Zdj hsz (by simpa using hcc)
       exact any_first ho he (Region.noSelect_spec hs) (fun c a w=>hQ c a _ _ w) (l.length+m) listed a w hw hL (Region.free_spec ho hf) hr' (.inl ⟨hwt,h1⟩) (ih _ _ hw h2)
     ·have hwt':Region.wanted o (yielded ops a.tmps)=false:=by simpa using hwt
      simp only [hwt',Bool.false_eq_true,if_false] at h
      rcases hc01 with rfl|rfl
      ·obtain ⟨L,hL⟩:=Zdj hsz (by simpa using hcc)
       exact any_calm ho he (Region.noSelect_spec hs) (fun c a w=>hQ c a _ _ w) (l.length+m) listed a hL (Region.free_spec ho hf) hr' (.inr ⟨hwt',rfl⟩) (ih _ _ hw h)
      ·obtain ⟨L,hL⟩:=Zdj hsz (by simpa using hcc)
       exact any_first ho he (Region.noSelect_spec hs) (fun c a w=>hQ c a _ _ w) (l.length+m) listed a w hw hL (Region.free_spec ho hf) hr' (.inr ⟨hwt',rfl⟩) (ih _ _ hw h)
  ·cases hB
theorem _root_.Qm {p:Prop}(h:p:=by
 have hsz:L.size=lo.toArray.size:=by
  have:∀ (l:List (Nat × Nat)) (x y:Array Bool),Zjq lo.toArray (Zg5 (l1 ++ l2)) (Zg5 l1) l x=some y→y.size=x.size:=by
   intro l
   induction l with
   | nil=>intro x y h;simp only [Zjq,Option.some.injEq] at h;rw [h]
   | cons p l ih =>
    intro x y h
    rw [Zjq] at h
    split at h
    ·rw [ih _ _ h];simp
    ·cases h
  rw [this _ _ _ hL];simp
 have h2:=Zfl (H:=H) (eff:=Zg5 (l1 ++ l2)) (hold:=Zg5 l1) hs hQ (m:=l2.length) (fun a w hR=>Zfk hs hQ l2 L a w hsz hp hR) l1 (Array.replicate lo.toArray.size false) a _ sp_ hH hL h
 rw [hl] at h2
 exact h2):p:=h
theorem wp_region {id:Nat}{a:Act}{w:World}{lo:List Oper}(l1 l2:List (Nat × Nat)) (H:World→Prop) (hm:P.follows .mixedOrders=true) (hp:planOk lo.toArray l1 l2=true)
  (hQ:∀ c a d v w,Q (.panic c) (a.put d v) w→Q (.panic c) a w) (hH:H w.drew) (h:walk P lo.toArray H (Qn Q (walk P lo.toArray (fun _=>True) Q l2)) l1 a w.drew):(Code.region id lo.toArray true).wp P Q a w:=by
 simp only [planOk,Bool.and_eq_true,beq_iff_eq] at hp
 obtain ⟨⟨hs,hl⟩,hp⟩:=hp
 split at hp
 ·cases hp
 ·rename_i L hL
  refine wp_region_any hm (wpAny_of_any (H:=H) (eff:=Zg5 (l1 ++ l2)) (hold:=Zg5 l1) _ _ _ _ ?_)
  exact Qm
theorem walk_next {a:Act}{w:World}{lo:List Oper}{l2:List (Nat × Nat)}(h:walk P lo.toArray (fun _=>True) Q l2 a w):walk P lo.toArray H (Qn Q (walk P lo.toArray (fun _=>True) Q l2)) [] a w:=h
end Go.Ord.Two
