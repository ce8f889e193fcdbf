/- Parts of a proof. -/
import Derived.Test.YtbapgefodmmikaaGreatDoorLMin
import Derived.Test.YtbapgefodmmikaaGreatDoorL35
set_option linter.unusedVariables false
set_option linter.unusedSimpArgs false
set_option maxHeartbeats 40000000
set_option maxRecDepth 100000
namespace Go.Proofs.YtbapgefodmmikaaGreatDoor
open Go.RowKit Go.Proofs Go.Ord Tryz
attribute [local irreducible] Ord.walk
attribute [local go_sem] Oper.semAt_some
theorem v_span (x y:Int) (w:World) :
  Calls prog 46 #[x,y] w (Zak (.agg #[x,y]) w):=by
 go_enter func46,ntmps46
 go_wp2_with (refine Za1 23 (.tmp 4) (.tmp 7) Zt5 rfl rfl rfl rfl (Blk.new _ _ _) rfl rfl (by simp [Value.oneCell']) ?_;intro w2 h2)
 (try simp only [Exit.inBlock,Exit.then])
 refine bodyPost_ret (v:=.agg #[x,y]) (Za5 rfl _ Zt5 rfl h2.blk rfl) rfl ⟨rfl,?_⟩
 exact h2.below (br_.alloc nl_ _) nl_
theorem v_sample (w:World) :
  Calls prog 18 #[] w (fun e w'=>∃ sa sc fa fc,e=.returned (.agg (bgV sampleO sa sc fa fc))∧Below w.heap.size w w'∧RowsAt w' sa 2 Zax sampleO.strays∧RowsAt w' fa 1 numL sampleO.fl):=by
 have H:=hd_ (fun x y W=>v_span x y W)
 go_enter func18,ntmps18
 go_wp2_with (first
  | (go_at_call 46;refine (H.out _ _ _).mono ?_;rintro e w1 ⟨rfl,hb1⟩;have b1:=(Blk.new w #[(),(),(),(),(),(),.slice none 0 0,.slice none 0 0,(),(),()] 27).below hb1 sp_;have hB:=((Below.refl w.heap.size w).alloc nl_ _).trans (hb1.mono sp_);refine Za2 ?_))
 unfold Stop
 go_wp2_with (first
  | (go_at_call 46;refine (H.out _ _ _).mono ?_;rintro e w2 ⟨rfl,hb2⟩;refine Za2 ?_))
 unfold Stop
 have b2:=b1.below hb2 b1.lt
 have hB2:=hB.trans (hb2.mono hB.size)
 go_wp2_with (first
  | (go_at_call 46;refine (H.out _ _ _).mono ?_;rintro e w3 ⟨rfl,hb3⟩;refine Za2 ?_))
 unfold Stop
 have b3:=b2.below hb3 b2.lt
 have hB3:=hB2.trans (hb3.mono hB2.size)
 clear b1 b2 hb1 hb2 hb3 hB hB2
 go_wp2_with (first
  | (refine Za1 27 (.tmp 0) (.tmp 6) Zge rfl rfl rfl rfl ((b3.alloc _).alloc _) rfl rfl (by simp [Value.oneCell']) ?_;intro w4 h4))
 (try simp only [Exit.inBlock,Exit.then])
 have bS:Blk w4 w3.heap.size _ _:=h4.other ((Blk.new w3 #[(),.int .i64 1,.int .i64 (-1),()] 23).alloc _) (by have:=b3.lt;omega)
 have bF:Blk w4 (w3.heap.size+1) _ _:=h4.other (Blk.new' (w3.alloc (.cells #[(),.int .i64 1,.int .i64 (-1),()] 23)) #[.int .i64 10,.int .i64 10,.int .i64 8] 3 (w3.heap.size+1) sp_) (by have:=b3.lt;omega)
 refine bodyPost_ret (v:=.agg (bgV sampleO w3.heap.size 2 ↑(w3.heap.size+1) 3)) (Za5 rfl _ Zge rfl h4.blk rfl) rfl ⟨_,_,_,_,rfl,?_,?_,?_⟩
 ·exact h4.below ((hB3.alloc hB3.size _).alloc (by have:=hB3.size;simp;omega) _) nl_
 ·exact RB.rows (f:=Zax) (l:=sampleO.strays) (fun _=>rfl) ⟨_,bS,rfl⟩
 ·exact RB.rows (f:=numL) (l:=sampleO.fl) (fun _=>rfl) ⟨_,bF,rfl⟩
theorem _root_.Q10 {p:Prop}(h:p:=by
 go_wp2_with fail
 refine Ord.wp_region [(0,0),(1,0),(2,0),(3,0),(4,0),(5,0),(6,0),(7,0),(8,0)] (fun _=>True) kr_ kr_ (fun c a d v w h=>by cases d <;> exact h) trivial ?_
 go_wp2_with (first|(refine o_ ?_;intro K hK)|(with_reducible first|refine Zyo ?_ ?_|refine Zyj ?_|refine Zyf bn_ (fun _=>?_)))
 exact ⟨⟨k+1,om_,by go_num,hbr.drew,HN1⟩,by simp [intOf];omega⟩):p:=h
theorem _root_.Q11 {p:Prop}(h:p:=by
 rw [HF.out he]
 go_wp2_with fail
 refine Ord.wp_region [(0,0),(1,0),(2,0),(3,0),(4,0),(5,0),(6,0),(7,0),(8,0)] (fun _=>True) kr_ kr_ (fun c a d v w h=>by cases d <;> exact h) trivial ?_
 go_wp2_with (first|(refine o_ ?_;intro K hK)|(with_reducible first|refine Zyo ?_ ?_|refine Zyj ?_|refine Zyf bn_ (fun _=>?_)))
 go_ret
 exact ⟨rfl,hbr.drew⟩):p:=h
theorem _root_.Q1q {p:Prop}(h:p:=by
 obtain rfl:k=n:=by omega
 have hR:=hd_ (HT.out ht.out)
 have hlti:¬ (k:Int) < (k:Int):=by omega
 go_wp2_with fail
 go_ret
 exact ⟨by rw [hR.out];rfl,hbr⟩):p:=h
theorem Zod (la lb:List Bs) (a b:Option Addr) (c d:Nat) (w:World) (ha:RowsAt w a 1 strL la) (hb:RowsAt w b 1 strL lb) (hla:la.length≤1000000) (hlb:lb.length≤1000000) :
  Calls prog 16 #[.slice a la.length c,.slice b lb.length d] w (Zak (.bool (la == lb)) w):=by
 by_cases hl:la.length=lb.length
 ·have HK:Hid (∀ W,Below w.heap.size w W→∀ k,k < la.length→∃ s t ga oa gb ob,a=some ⟨ga,oa,none⟩∧b=some ⟨gb,ob,none⟩∧W.cell? ⟨ga,oa+k,none⟩=some (strV s)∧W.cell? ⟨gb,ob+k,none⟩=some (strV t)∧(s≠t→(la == lb)=false)∧(la.take k=lb.take k→s=t→la.take (k+1)=lb.take (k+1))):=fun W hB k h=>by
   have h':k < lb.length:=by omega
   obtain ⟨ga,oa,e1,hqa⟩:=(ha.below hB) k h
   obtain ⟨gb,ob,e2,hqb⟩:=(hb.below hB) k h'
   have q0:=hqa 0 _ rfl
   have q1:=hqb 0 _ rfl
   rw [Nat.add_zero,Nat.mul_one] at q0 q1
   refine ⟨la[k],lb[k],ga,oa,gb,ob,e1,e2,q0,q1,fun hn=>?_,fun e1 e2=>?_⟩
   ·rw [beq_eq_false_iff_ne]
    intro e
    subst e
    exact hn rfl
   ·rw [List.take_succ_eq_append_getElem h,List.take_succ_eq_append_getElem h',e1,e2]
  have HT:Hid (la.take la.length=lb.take la.length→(la == lb)=true):=fun e=>by
   rw [List.take_length,hl,List.take_length] at e
   simpa using e
  rw [← hl]
  clear ha hb hl hlb
  generalize la.length=n at *
  generalize (la == lb)=R at *
  have hli:(n:Int)≤1000000:=by omega
  go_enter func16,ntmps16
  go_wp2_with fail
  go_loopw [5] (fun x5 wr=>∃ k:Nat,k≤n∧x5=.int .i64 (k:Int)∧Below w.heap.size w wr∧Hid (la.take k=lb.take k)) (fun x5 _=>n - (intOf x5).toNat)
  case atStart=>exact ⟨0,om_,rfl,Below.refl _ _,(rfl:la.take 0=lb.take 0)⟩
  case round =>
   obtain ⟨k,hk,rfl,hbr,ht⟩:=hrel
   by_cases hlt:k < n
   ·have hlti:(k:Int) < (n:Int):=by omega
    obtain ⟨s,t,ga,oa,gb,ob,rfl,rfl,q0,q1,hF,hN⟩:=HK.out wr hbr k hlt
    have lg0:=bl_ _ _ q0
    have lg1:=bl_ _ _ q1
    have HN:=hd_ (hN ht.out)
    clear hN
    have HF:=hd_ hF
    clear hF
    unfold strV at *
    by_cases he:s=t
    ·subst he
     have HN1:=hd_ (HN.out rfl)
     exact Q10
    ·have hst:(s == t)=false:=by simpa using he
     exact Q11
   ·exact Q1q
 ·have hb:(la == lb)=false:=by rw [beq_eq_false_iff_ne];intro e;exact hl (by rw [e])
  rw [hb]
  have hli2:¬ (la.length:Int)=(lb.length:Int):=by omega
  have hlb2:((la.length:Int) == (lb.length:Int))=false:=by simpa using hli2
  have hlb3:((la.length:Int) != (lb.length:Int))=true:=by simpa using hli2
  clear ha hb hl
  go_enter func16,ntmps16
  go_wp2_with fail
  go_ret
  exact ⟨rfl,Below.refl _ _⟩
theorem Zy0:Zke=[[119,104,105,116,101,115],[103,114,111,117,112,32,55,32,50,32,51],[112,97,105,114,32,48,32,49,32,49],[103,114,111,117,112,32,50,56,32,48,32,49],[107,110,111,119,110],[116,101,108,108,32,52],[115,116,114,105,107,101],[112,111,114,116,32,48,32,54,32,54],[115,104,111,114,110,32,48],[102,101,108,116,32,48,32,49],[102,101,108,116,32,48,32,49],[119,114,111,110,103,32,48],[109,111,114,101,32,49],[102,101,108,116,32,48,32,48,49]]:=by decide +kernel
theorem Zxz:Zhf=[[119,104,105,116,101,115,32,50,32,51],[110,111,116,101,32,48],[110,111,116,101,32,49],[110,111,116,101,32,50],[107,110,111,119,110,32,51,32,48],[],[115,116,114,105,107,101,32,50],[110,111,116,101,32,50],[115,104,111,114,110,32,54,32,54],[110,111,116,101,32,51],[110,111,116,101,32,52],[119,114,111,110,103,32,49,32,49,48],[109,111,114,101,32,57],[]]:=by decide +kernel
theorem Ztq:Zqs sampleO Zke=(Zhf,2,0):=by
 unfold Zqs
 rw [if_neg (by decide +kernel),if_pos Zot,alive_lines.1,alive_lines.2]
theorem Zv2 (w:World) (hv:VarsOk w):Calls prog 13 #[] w (Zak (.bool true) w):=by
 have HS:=hd_ (fun W=>v_sample W)
 have HVar:=hd_ (fun W (hb:Below w.heap.size w W)=>hv.below hb hv.2.2.2.2)
 have HP:Hid (∀ W sa sc fa fc ta tc,VarsOk W→RowsAt W sa 2 Zax sampleO.strays→RowsAt W fa 1 numL sampleO.fl→RowsAt W ta 1 strL Zke→Calls prog 14 #[.agg (bgV sampleO sa sc fa fc),.slice ta 14 tc] W (PlayP (Zhf,2,0) W)):=fun W sa sc fa fc ta tc hv h1 h2 h3=>by
  have:=o_Play (w:=W) (b:=sampleO) (sa:=sa) (sc:=sc) (fa:=fa) (fc:=fc) Zke ta tc h1 h2 de_ de_ hv h3 de_
  rw [Ztq] at this
  exact this
 have HC:Hid (∀ W a c b d,RowsAt W a 1 strL Zhf→RowsAt W b 1 strL Zhf→Calls prog 16 #[.slice a 14 c,.slice b 14 d] W (Zak (.bool true) W)):=fun W a c b d h1 h2=>by
  have:=Zod Zhf Zhf a b c d W h1 h2 de_ de_
  rw [beq_self_eq_true] at this
  exact this
 clear hv
 go_enter func13,ntmps13
 go_wp2_with (first
  | (go_at_call 18;refine (HS.out _).mono ?_;rintro e w1 ⟨sa,sc,fa,fc,rfl,hb1,h1,h2⟩;refine Za2 ?_))
 unfold Stop
 go_wp2_with (first
  | (go_at_call 14;refine (HP.out _ sa sc fa fc _ 14 (HVar.out _ (hb1.alloc hb1.size _)) (h1.below (br_.alloc nl_ _)) (h2.below (br_.alloc nl_ _)) (RB.rows (f:=strL) (l:=Zke) (fun _=>rfl) ⟨_,Blk.new _ _ _,by rw [Zy0];rfl⟩)).mono ?_;rintro e w2 ⟨v,rfl,hb2,hown⟩;refine Za2 ?_))
 unfold Stop
 have hB3:w w2:=(hb1.alloc hb1.size _).trans (hb2.mono (hb1.alloc hb1.size _).size)
 obtain ⟨av,cv,rfl,hrv⟩:=Zbm Zmw hown
 clear hown hb2 h1 h2
 go_wp2_with (first
  | (go_at_call 16;refine (HC.out _ av cv _ 14 (hrv.below (br_.alloc nl_ _)) (RB.rows (f:=strL) (l:=Zhf) (fun _=>rfl) ⟨_,Blk.new _ _ _,by rw [Zxz];rfl⟩)).mono ?_;rintro e w3 ⟨rfl,hb3⟩))
 go_ret
 exact ⟨rfl,(hB3.alloc hB3.size _).trans (hb3.mono (hB3.alloc hB3.size _).size)⟩
end Go.Proofs.YtbapgefodmmikaaGreatDoor
namespace Go.Proofs.YtbapgefodmmikaaGreatDoor
open Go.RowKit Go.Proofs Go.Ord Tryz
def Zk0 (s:Bs):Option (List Int × Wd) :=
 match wordsO.find? (fun x=>x.1 == (Zab s).headD []) with
 | none=>none
 | some x=>if ((Zab s).length:Int)=x.2.1+1 then (Zg2 (Zab s).tail).map fun a=>(a,x.2.2) else none
theorem Zn9 (b:Ov) (l:List Nt) (s:Bs):Zb8 b l s=if 40 < s.length then ([],3,l) else match Zk0 s with
  | none=>([],8,l)
  | some x=>doO b l x.1 x.2:=by
 unfold Zb8 Zk0
 split
 ·rfl
 ·cases wordsO.find? (fun x=>x.1 == (Zab s).headD []) with
  | none=>rfl
  | some x =>
   simp only
   split
   ·cases Zg2 (Zab s).tail <;> rfl
   ·rfl
def Wd.ok:Wd→Bool
 | .ask k=>decide (k≤10)
 | _=>true
theorem words_ok:wordsO.all (fun x=>x.2.2.ok)=true:=by decide +kernel
theorem form_ok {s:Bs}{x:List Int × Wd}(h:Zk0 s=some x):x.2.ok=true:=by
 unfold Zk0 at h
 cases hf:wordsO.find? (fun x=>x.1 == (Zab s).headD []) with
 | none=>rw [hf] at h;cases h
 | some y =>
  rw [hf] at h
  simp only at h
  split at h
  ·cases hn:Zg2 (Zab s).tail with
   | none=>rw [hn] at h;cases h
   | some a =>
    rw [hn] at h
    simp only [Option.map_some,Option.some.injEq] at h
    rw [← h]
    exact List.all_eq_true.1 words_ok y (List.mem_of_find?_eq_some hf)
  ·cases h
inductive Did (b:Ov) (l:List Nt):Bs × Int × List Nt→Prop
 | err (e:Int) (h:e≠0):Did b l ([],e,l)
 | note (n:Nt) (h1:l.length < 30) (h2:Zbq b (l ++ [n])=true):Did b l (Zam Zhu [(l.length:Int)],0,l ++ [n])
 | strike (h:l.length≠0):Did b l (Zam Zb3 [(l.length:Int) - 1],0,l.take (l.length - 1))
 | ask (k:Nat) (hk:k≤10) (xs:List Int):Did b l (Zam (askW k) xs,0,l)
theorem doO_did (b:Ov) (l:List Nt) (a:List Int) (wd:Wd) (hw:wd.ok=true):Did b l (doO b l a wd):=by
 cases wd with
 | note k f la m =>
  unfold doO
  simp only
  split
  ·split
   ·exact .note _ om_ as_
   ·exact .err 2 de_
  ·exact .err 9 de_
 | strike =>
  unfold doO
  simp only
  split
  ·exact .err 4 de_
  ·exact .strike as_
 | ask k =>
  unfold doO
  simp only
  split
  ·exact .ask k (by simpa [Wd.ok] using hw) _
  ·exact .err _ as_
theorem Zp5 (b:Ov) (l:List Nt) (s:Bs):Did b l (Zb8 b l s):=by
 rw [Zn9]
 split
 ·exact .err 3 de_
 ·cases h:Zk0 s with
  | none=>exact .err 8 de_
  | some x=>exact doO_did b l x.1 x.2 (form_ok h)
structure Kept (b:Ov) (l:List Nt):Prop where
 len:l.length≤30
 ok:∀ n≤l.length,Zbq b (l.take n)=true
theorem Kept.nil {b:Ov}(h:Zbq b []=true):Kept b []:=⟨sp_,fun n hn=>by simpa using h⟩
theorem Kept.did {b:Ov}{l:List Nt}{r:Bs × Int × List Nt}(h:Kept b l) (hd:Did b l r):Kept b r.2.2:=by
 cases hd with
 | err e he=>exact h
 | note n h1 h2 =>
  refine ⟨by simp;omega,fun k hk=>?_⟩
  simp only [List.length_append,List.length_cons,List.length_nil] at hk
  by_cases e:k=l.length+1
  ·subst e;rw [List.take_of_length_le sp_];exact h2
  ·rw [List.take_append_of_le_length om_];exact h.ok k om_
 | strike h0 =>
  refine ⟨by simp;have:=h.len;omega,fun k hk=>?_⟩
  simp only [List.length_take] at hk
  rw [List.take_take,Nat.min_eq_left om_]
  exact h.ok k om_
 | ask k hk xs=>exact h
theorem Kept.line {b:Ov}{l:List Nt}(h:Kept b l) (s:Bs):Kept b (Zb8 b l s).2.2:=h.did (Zp5 b l s)
theorem Kept.lines {b:Ov}:∀ (ss:List Bs) {l:List Nt},Kept b l→Kept b (Zao b l ss).2.2
 | [],_,h=>h
 | s :: r,_,h=>Kept.lines r (h.line s)
def wordO (s:Bs):Bs:=s.takeWhile (· != 32)
theorem Zta {w:Bs}(hw:w.all (· != 32)=true) (l:List Int):wordO (Zam w l)=w:=by
 unfold wordO Zam
 rw [List.takeWhile_append_of_pos (fun x hx=>List.all_eq_true.1 hw x hx)]
 cases l <;> simp
theorem Zun:∀ k,k≤10→(askW k).all (· != 32)=true∧askW k≠Zhu∧askW k≠Zb3∧askW k≠[]:=by decide +kernel
end Go.Proofs.YtbapgefodmmikaaGreatDoor
namespace Go.Proofs.YtbapgefodmmikaaGreatDoor
open Go.RowKit Go.Proofs Go.Ord Tryz
attribute [local irreducible] Ord.walk
attribute [local go_sem] Oper.semAt_some
def NewK (b:Ov) (w:World) (e:Ending) (w':World):Prop:=∃ O sa sc fa fc,e=.returned (.tuple #[.pointer (some ⟨O,0,none⟩),()])∧w w'∧w.heap.size≤O∧OvOk w' O b [] sa sc fa fc none 0∧(∀ p,sa=some p→p.block < O)∧(∀ p,fa=some p→p.block < O)
theorem o_NewYes {w:World}{b:Ov}{sa:Option Addr}{sc:Nat}{fa:Option Addr}{fc:Nat}(hs:RowsAt w sa 2 Zax b.strays) (hf:RowsAt w fa 1 numL b.fl) (hls:b.strays.length≤40) (hlf:b.fl.length≤40) (hv:VarsOk w) (hvd:Zbq b []=true):Calls prog 17 #[.agg (bgV b sa sc fa fc)] w (NewK b w) :=
 (o_New hs hf hls hlf hv).mono (by
  rintro e w' (⟨-,O,sa,sc,fa,fc,h1,h2,h3,h4,h5,h6⟩ | ⟨h,-⟩)
  ·exact ⟨O,sa,sc,fa,fc,h1,h2,h3,OvOk.new h4 h5 h6 hls hlf,fun p e=>by subst e;exact (h5 p.block rfl).2,fun p e=>by subst e;exact (h6 p.block rfl).2⟩
  ·rw [hvd] at h;cases h)
theorem o_NewNo {w:World}{b:Ov}{sa:Option Addr}{sc:Nat}{fa:Option Addr}{fc:Nat}(hs:RowsAt w sa 2 Zax b.strays) (hf:RowsAt w fa 1 numL b.fl) (hls:b.strays.length≤40) (hlf:b.fl.length≤40) (hv:VarsOk w) (hvd:Zbq b []=false):Calls prog 17 #[.agg (bgV b sa sc fa fc)] w (Zat (.pointer none) (.int .i64 1) w) :=
 (o_New hs hf hls hlf hv).mono (by
  rintro e w' (⟨h,-⟩ | ⟨-,h1,h2⟩)
  ·rw [hvd] at h;cases h
  ·exact ⟨h1,h2⟩)
def Zqc (b:Ov) (ss:List Bs):Prop:=b.strays.length≤40∧b.fl.length≤40∧ss.length≤81∧∀ s∈ss,s.length≤409
def LongP (b:Ov) (ss:List Bs) (w:World) (e:Ending) (w':World):Prop:=∃ v,e=.returned (.bool v)∧(v=false→Zqc b ss)∧w w'
theorem v_long (b:Ov) (sa:Option Addr) (sc:Nat) (fa:Option Addr) (fc:Nat) (ss:List Bs) (ta:Option Addr) (tc:Nat) (w:World) (h1:b.strays.length≤maxLen) (h2:b.fl.length≤maxLen) (h3:ss.length≤maxLen) (h4:∀ s∈ss,s.length≤maxLen) (ht:RowsAt w ta 1 strL ss) :
  Calls prog 24 #[.agg (bgV b sa sc fa fc),.slice ta ss.length tc] w (LongP b ss w):=by
 have HSh:Hid (∀ n:Int,n≤40→(b.strays.length:Int)≤n→(b.fl.length:Int)≤n→(ss.length:Int) / 2≤n→(∀ k,(h:k < ss.length)→(ss[k].length:Int) / 10≤n)→Zqc b ss):=fun n h0 g1 g2 g3 g4=>by
  refine ⟨om_,om_,om_,fun s hs=>?_⟩
  obtain ⟨k,hk,rfl⟩:=List.getElem_of_mem hs
  have:=g4 k hk
  omega
 have HT:=hd_ (fun W (hb:Below w.heap.size w W)=>ht.below hb)
 have H4:=hd_ h4
 have hB1:w (w.alloc (.cells (bgV b sa sc fa fc) 27)):=by exact bel_
 clear ht h4
 unfold maxLen at *
 unfold bgV at *
 generalize b.strays.length=n1 at *
 generalize b.fl.length=n2 at *
 go_enter func24,ntmps24
 go_wp2
 all_goals
  go_loopw [5,7,20] (fun x5 x7 x20 wr=>∃ (k:Nat) (n:Int),k≤ss.length∧x20=.int .i64 (k:Int)∧x5=.int .i64 n∧Below w.heap.size w wr∧(n1:Int)≤n∧(n2:Int)≤n∧(ss.length:Int) / 2≤n∧Hid (∀ i,(h:i < ss.length)→i < k→(ss[i].length:Int) / 10≤n)) (fun _ _ x20 _=>ss.length - (intOf x20).toNat)
  case atStart=>exact ⟨0,_,om_,rfl,rfl,hB1,by first|omega|(split <;> omega),by first|omega|(split <;> omega),by first|omega|(split <;> omega),fun i h h0=>absurd h0 om_⟩
  case round =>
   obtain ⟨k,n,hk,rfl,rfl,hbr,g1,g2,g3,g4⟩:=hrel
   by_cases hlt:k < ss.length
   ·have hlti:(k:Int) < (ss.length:Int):=by omega
    obtain ⟨gb,go,rfl,hq⟩:=HT.out wr hbr k hlt
    have q0:=hq 0 _ rfl
    rw [Nat.add_zero,Nat.mul_one] at q0
    have lg:=bl_ wr _ q0
    have hsl:=H4.out ss[k] (List.getElem_mem hlt)
    have HG:Hid (∀ m:Int,n≤m→(ss[k].length:Int) / 10≤m→∀ i,(h:i < ss.length)→i < k+1→(ss[i].length:Int) / 10≤m):=fun m h1 h2 i hi hik=>by
     by_cases e:i=k
     ·subst e;exact h2
     ·exact Int.le_trans (g4.out i hi om_) h1
    clear hq g4
    generalize ss[k]=s at *
    unfold strV at *
    go_wp2
    all_goals exact ⟨⟨k+1,_,om_,by go_num,rfl,hbr,om_,om_,om_,HG.out _ om_ om_⟩,by simp [intOf];omega⟩
   ·obtain rfl:k=ss.length:=by omega
    have HSn:=hd_ (fun h0=>HSh.out n h0 g1 g2 g3 (fun i h=>g4.out i h h))
    have hlti:¬ (ss.length:Int) < (ss.length:Int):=by omega
    go_wp2_with fail
    go_ret
    exact ⟨_,rfl,fun h=>HSn.out (by simpa using h),hbr⟩
theorem notes_ne (x y:Nt) (W:World):(Go.binOp .neq 88 (.agg #[.int .i64 x.1,.int .i64 x.2.1,.int .i64 x.2.2.1,.int .i64 x.2.2.2]) (.agg #[.int .i64 y.1,.int .i64 y.2.1,.int .i64 y.2.2.1,.int .i64 y.2.2.2])).run prog W=.ok (.bool (decide (x≠y))) W:=by
 obtain ⟨x1,x2,x3,x4⟩:=x
 obtain ⟨y1,y2,y3,y4⟩:=y
 simp [go_sem]
 by_cases h1:x1=y1
 ·by_cases h2:x2=y2
  ·by_cases h3:x3=y3
   ·by_cases h4:x4=y4
    ·simp [h1,h2,h3,h4]
    ·simp [h1,h2,h3,h4]
   ·simp [h1,h2,h3]
  ·simp [h1,h2]
 ·simp [h1]
theorem v_Notes (la lb:List Nt) (a b:Option Addr) (c d:Nat) (w:World) (ha:RowsAt w a 4 ntL la) (hb:RowsAt w b 4 ntL lb) (hla:la.length≤1000000) (hlb:lb.length≤1000000) :
  Calls prog 22 #[.slice a la.length c,.slice b lb.length d] w (Zak (.bool (la == lb)) w):=by
 by_cases hl:la.length=lb.length
 ·have HK:Hid (∀ W,Below w.heap.size w W→∀ k,k < la.length→∃ s t ga oa gb ob,a=some ⟨ga,oa,none⟩∧b=some ⟨gb,ob,none⟩∧(∀ j u,(ntL s)[j]? = some u→W.cell? ⟨ga,oa+k * 4+j,none⟩=some u)∧(∀ j u,(ntL t)[j]? = some u→W.cell? ⟨gb,ob+k * 4+j,none⟩=some u)∧(s≠t→(la == lb)=false)∧(la.take k=lb.take k→s=t→la.take (k+1)=lb.take (k+1))):=fun W hB k h=>by
   have h':k < lb.length:=by omega
   obtain ⟨ga,oa,e1,hqa⟩:=(ha.below hB) k h
   obtain ⟨gb,ob,e2,hqb⟩:=(hb.below hB) k h'
   refine ⟨la[k],lb[k],ga,oa,gb,ob,e1,e2,hqa,hqb,fun hn=>?_,fun e1 e2=>?_⟩
   ·rw [beq_eq_false_iff_ne]
    intro e
    subst e
    exact hn rfl
   ·rw [List.take_succ_eq_append_getElem h,List.take_succ_eq_append_getElem h',e1,e2]
  have HT:Hid (la.take la.length=lb.take la.length→(la == lb)=true):=fun e=>by
   rw [List.take_length,hl,List.take_length] at e
   simpa using e
  rw [← hl]
  clear ha hb hl hlb
  generalize la.length=n at *
  generalize (la == lb)=R at *
  have hli:(n:Int)≤1000000:=by omega
  go_enter func22,ntmps22
  go_wp2_with fail
  go_loopw [5] (fun x5 wr=>∃ k:Nat,k≤n∧x5=.int .i64 (k:Int)∧Below w.heap.size w wr∧Hid (la.take k=lb.take k)) (fun x5 _=>n - (intOf x5).toNat)
  case atStart=>exact ⟨0,om_,rfl,Below.refl _ _,(rfl:la.take 0=lb.take 0)⟩
  case round =>
   obtain ⟨k,hk,rfl,hbr,ht⟩:=hrel
   by_cases hlt:k < n
   ·have hlti:(k:Int) < (n:Int):=by omega
    obtain ⟨s,t,ga,oa,gb,ob,rfl,rfl,hqa,hqb,hF,hN⟩:=HK.out wr hbr k hlt
    have q0:=hqa 0 _ rfl
    have q0b:=hqa 1 _ rfl
    have q0c:=hqa 2 _ rfl
    have q0d:=hqa 3 _ rfl
    have q1:=hqb 0 _ rfl
    have q1b:=hqb 1 _ rfl
    have q1c:=hqb 2 _ rfl
    have q1d:=hqb 3 _ rfl
    rw [Nat.add_zero] at q0 q1
    have hne:∀ W,(Go.binOp .neq 88 (.agg #[.int .i64 s.1,.int .i64 s.2.1,.int .i64 s.2.2.1,.int .i64 s.2.2.2]) (.agg #[.int .i64 t.1,.int .i64 t.2.1,.int .i64 t.2.2.1,.int .i64 t.2.2.2])).run prog W=.ok (.bool (decide (s≠t))) W:=fun W=>notes_ne s t W
    clear hqa hqb
    have lg0:=bl_ _ _ q0
    have lg1:=bl_ _ _ q1
    have HN:=hd_ (hN ht.out)
    clear hN
    have HF:=hd_ hF
    clear hF
    by_cases he:s=t
    ·subst he
     have HN1:=hd_ (HN.out rfl)
     have hdd:decide (s≠s)=false:=by simp
     simp only [hdd] at hne
     exact Q10
    ·have hdd:decide (s≠t)=true:=by simpa using he
     simp only [hdd] at hne
     exact Q11
   ·exact Q1q
 ·have hb:(la == lb)=false:=by rw [beq_eq_false_iff_ne];intro e;exact hl (by rw [e])
  rw [hb]
  have hli2:¬ (la.length:Int)=(lb.length:Int):=by omega
  have hlb2:((la.length:Int) == (lb.length:Int))=false:=by simpa using hli2
  have hlb3:((la.length:Int) != (lb.length:Int))=true:=by simpa using hli2
  clear ha hb hl
  go_enter func22,ntmps22
  go_wp2_with fail
  go_ret
  exact ⟨rfl,Below.refl _ _⟩
def OvQ (T:Nat→Prop) (w:World) (O:Nat) (b:Ov) (l:List Nt):Prop :=
 9≤O∧∃ sa sc fa fc na nc,OvOk w O b l sa sc fa fc na nc∧(∀ p,sa=some p→p.block < O)∧(∀ p,fa=some p→p.block < O)∧∀ p,na=some p→p.block < w.heap.size∧¬ T p.block
section
variable {T:Nat→Prop}{w w':World}{O:Nat}{b:Ov}{l:List Nt}
theorem OvQ.lt (h:OvQ T w O b l):O < w.heap.size:=by
 obtain ⟨_,sa,sc,fa,fc,na,nc,h,-⟩:=h
 exact h.at_.blk.lt
theorem OvQ.vars (h:OvQ T w O b l):VarsOk w:=by
 obtain ⟨_,sa,sc,fa,fc,na,nc,h,-⟩:=h
 exact h.at_.vars
theorem OvQ.below (h:OvQ T w O b l) (hb:w w'):OvQ T w' O b l:=by
 obtain ⟨h9,sa,sc,fa,fc,na,nc,h,h1,h2,h3⟩:=h
 exact ⟨h9,sa,sc,fa,fc,na,nc,h.below hb,h1,h2,fun p e=>⟨Nat.lt_of_lt_of_le (h3 p e).1 hb.size,(h3 p e).2⟩⟩
theorem OvQ.off {X:Nat→Option Obj→Prop}(h:OvQ T w O b l) (hl:Lets X w w') (hX:∀ k o,X k o→O < k∧T k):OvQ T w' O b l:=by
 obtain ⟨h9,sa,sc,fa,fc,na,nc,h,h1,h2,h3⟩:=h
 exact ⟨h9,sa,sc,fa,fc,na,nc,h.off hl (fun e=>by have:=(hX _ _ e).1;omega) (fun p o e x=>by have:=h1 p e;have:=(hX _ _ x).1;omega) (fun p o e x=>by have:=h2 p e;have:=(hX _ _ x).1;omega) (fun p o e x=>(h3 p e).2 (hX _ _ x).2) (fun k o hk x=>by have:=(hX _ _ x).1;omega),h1,h2,fun p e=>⟨Nat.lt_of_lt_of_le (h3 p e).1 hl.size,(h3 p e).2⟩⟩
theorem OvQ.turn {T':Nat→Prop}(h:OvQ T w O b l) (hT:∀ g,T' g→T g∨w.heap.size≤g):OvQ T' w O b l:=by
 obtain ⟨h9,sa,sc,fa,fc,na,nc,h,h1,h2,h3⟩:=h
 exact ⟨h9,sa,sc,fa,fc,na,nc,h,h1,h2,fun p e=>⟨(h3 p e).1,fun x=>by
  rcases hT _ x with y|y
  ·exact (h3 p e).2 y
  ·have:=(h3 p e).1;omega⟩⟩
theorem OvQ.grow {v v':Value}(h:OvQ (fun g=>T g∨v.ownBlock=some g) w O b l) (hg:w.grownBy w' v.ownBlock) (hO:∀ g,v.ownBlock=some g→O < g) (hat:v'.ownBlock=v.ownBlock∨v'.ownBlock=some w.heap.size):OvQ (fun g=>T g∨v'.ownBlock=some g) w' O b l:=by
 have h1:OvQ (fun g=>(T g∨v.ownBlock=some g)∨g=w.heap.size) w O b l:=h.turn (fun g hg=>hg.elim .inl (fun e=>.inr om_))
 have hl:Lets (fun k _=>v.ownBlock=some k) w w':=(Lets.refl _ _).grown hg (fun g hg _=>hg)
 refine (h1.off hl (fun k o e=>⟨hO k e,.inl (.inr e)⟩)).turn (fun g hg=>?_)
 rcases hg with e|e
 ·exact .inl (.inl (.inl e))
 ·rcases hat with e2|e2
  ·exact .inl (.inl (.inr (e2 ▸ e)))
  ·rw [e] at e2
   exact .inl (.inr (by simpa using e2))
theorem OvQ.line (h:OvQ T w O b l) (hT:∀ g,T g→g < w.heap.size) (s:Bs) :
  Calls prog 19 #[.pointer O,strV s] w (fun e w'=>e=.returned (.tuple #[strV (Zb8 b l s).1,.int .i64 (Zb8 b l s).2.1])∧Lets (fun k _=>k=O) w w'∧OvQ T w' O b (Zb8 b l s).2.2):=by
 obtain ⟨h9,sa,sc,fa,fc,na,nc,h,h1,h2,h3⟩:=h
 refine (o_Line h h9 s).mono ?_
 rintro e w' ⟨rfl,hl,na',nc',h',hn⟩
 refine ⟨rfl,hl,h9,sa,sc,fa,fc,na',nc',h',h1,h2,fun p e=>?_⟩
 rcases hn p e with e | ⟨e1,e2⟩
 ·exact ⟨Nat.lt_of_lt_of_le (h3 p e).1 hl.size,(h3 p e).2⟩
 ·exact ⟨e2,fun x=>by have:=hT _ x;omega⟩
theorem OvQ.notes (h:OvQ T w O b l) :
  Calls prog 23 #[.pointer O] w (fun e w'=>∃ v,e=.returned v∧Below w.heap.size w w'∧w'.ownsRow w.heap.size 88 4 v l.length (l.flatMap ntL)):=by
 obtain ⟨h9,sa,sc,fa,fc,na,nc,h,-⟩:=h
 exact o_Notes h.at_ (by have:=h.inn.notes;omega)
def NewQ (b:Ov) (T:Nat→Prop) (w:World) (e:Ending) (w':World):Prop:=∃ O,e=.returned (.tuple #[.pointer (some ⟨O,0,none⟩),()])∧w w'∧w.heap.size≤O∧OvQ T w' O b []
theorem new_yes {sa:Option Addr}{sc:Nat}{fa:Option Addr}{fc:Nat}(hs:RowsAt w sa 2 Zax b.strays) (hf:RowsAt w fa 1 numL b.fl) (hls:b.strays.length≤40) (hlf:b.fl.length≤40) (hv:VarsOk w) (hvd:Zbq b []=true) :
  Calls prog 17 #[.agg (bgV b sa sc fa fc)] w (NewQ b T w) :=
 (o_NewYes hs hf hls hlf hv hvd).mono (by
  rintro e w' ⟨O,sa,sc,fa,fc,rfl,h1,h2,h3,h4,h5⟩
  exact ⟨O,rfl,h1,h2,Nat.le_trans hv.2.2.2.2 h2,sa,sc,fa,fc,none,0,h3,h4,h5,fun p e=>by cases e⟩)
end
theorem Ztx (b:Ov) (ss:List Bs) (k:Nat) (h:k < ss.length):(Zao b [] (ss.take (k+1))).2.2=(Zb8 b (Zao b [] (ss.take k)).2.2 ss[k]).2.2:=by
 rw [List.take_succ_eq_append_getElem h,Zjv]
end Go.Proofs.YtbapgefodmmikaaGreatDoor
namespace Go.Proofs.YtbapgefodmmikaaGreatDoor
open Go.RowKit Go.Proofs Go.Ord Tryz
theorem Zxw : [0,2,3,7].all (fun k=>(Zk0 (askW k)).isSome && ((Zk0 (askW k)).map (fun x=>(x.1,match x.2 with | .ask j=>j|_=>99)) == some ([],k)) && decide ((askW k).length≤40))=true:=by decide +kernel
theorem Zxv : [1,4,5,6,8,9,10].all (fun k=>(List.range 10).all fun i=>((Zk0 (Zam (askW k) [(i:Int) - 1])).map (fun x=>(x.1,match x.2 with | .ask j=>j|_=>99)) == some ([(i:Int) - 1],k)) && decide ((Zam (askW k) [(i:Int) - 1]).length≤40))=true:=by decide +kernel
theorem asked {b:Ov}{l:List Nt}{s:Bs}{a:List Int}{k:Nat}(hl:s.length≤40) (h:(Zk0 s).map (fun x=>(x.1,match x.2 with | .ask j=>j|_=>99))=some (a,k)) (hk:k≤10) :
  Zb8 b l s=if (askO b l k a).2=0 then (Zam (askW k) (askO b l k a).1,0,l) else ([],(askO b l k a).2,l):=by
 rw [Zn9,if_neg om_]
 cases hf:Zk0 s with
 | none=>rw [hf] at h;cases h
 | some x =>
  rw [hf] at h
  obtain ⟨a',wd⟩:=x
  cases wd with
  | note _ _ _ _=>simp at h;omega
  | strike=>simp at h;omega
  | ask j =>
   simp only [Option.map_some,Option.some.injEq,Prod.mk.injEq] at h
   obtain ⟨rfl,rfl⟩:=h
   rfl
theorem Zim {b:Ov}{l:List Nt}{k:Nat}(hk:k=0∨k=2∨k=3∨k=7):Zb8 b l (askW k)=if (askO b l k []).2=0 then (Zam (askW k) (askO b l k []).1,0,l) else ([],(askO b l k []).2,l):=by
 have:=List.all_eq_true.1 Zxw k (by simp;exact hk)
 simp only [Bool.and_eq_true,decide_eq_true_eq,beq_iff_eq] at this
 exact asked this.2 this.1.2 om_
theorem Zgd {b:Ov}{l:List Nt}{k:Nat}(hk:k=1∨k=4∨k=5∨k=6∨k=8∨k=9∨k=10) {n:Int}(hn : -1≤n∧n≤8):Zb8 b l (Zam (askW k) [n])=if (askO b l k [n]).2=0 then (Zam (askW k) (askO b l k [n]).1,0,l) else ([],(askO b l k [n]).2,l):=by
 have:=List.all_eq_true.1 (List.all_eq_true.1 Zxv k (by simp;exact hk)) (n+1).toNat (by simp;omega)
 simp only [Bool.and_eq_true,decide_eq_true_eq,beq_iff_eq] at this
 rw [show (((n+1).toNat:Nat):Int) - 1=n by omega] at this
 exact asked this.2 this.1 om_
end Go.Proofs.YtbapgefodmmikaaGreatDoor
namespace Go.Proofs.YtbapgefodmmikaaGreatDoor
open Go.RowKit Go.Proofs Go.Ord Tryz
attribute [local irreducible] Ord.walk
attribute [local go_sem] Oper.semAt_some
def E13:List Int:=[0,1,2,3,4,5,6,7,8,9,10,11,12,13]
theorem told_e13 (b:Bn) (v:Bool):Zdm b v ∈E13:=by
 unfold Zdm
 split <;> (try split) <;> (try split) <;> decide
theorem Zeg (b:Ov) (l:List Nt) (k:Nat) (a:List Int):(askO b l k a).2 ∈E13:=by
 have h1:=fun v=>told_e13 (bnO b l) v
 have h2:∀ p i,(ofR p (tyO b l) i).2∈E13:=fun p i=>by unfold ofR;(repeat' split) <;> first|decide|(show (0:Int)∈E13;decide)
 have h3:(Zbs (tyO b l)).2 ∈E13:=by unfold Zbs;(repeat' split) <;> first|decide|(show (0:Int)∈E13;decide)
 have h4:∀ i,(Zc6 (clO b l) i).2∈E13:=fun i=>by unfold Zc6;(repeat' split) <;> first|decide|(show (0:Int)∈E13;decide)
 have h5:∀ i,(Zdi (clO b l) i).2∈E13:=fun i=>by
  have:=h4 i
  unfold Zdi
  split
  ·(first|decide|(show (0:Int)∈E13;decide))
  ·exact this
 have h6:∀ i,(Zgn (clO b l) i).2∈E13:=fun i=>by unfold Zgn;(repeat' split) <;> first|decide|(show (0:Int)∈E13;decide)
 unfold askO
 split
 ·unfold Zc4;dsimp only;split
  ·(first|decide|(show (0:Int)∈E13;decide))
  ·exact h1 _
 ·unfold Zei;dsimp only;split
  ·(first|decide|(show (0:Int)∈E13;decide))
  ·exact h1 _
 ·unfold Zd0;dsimp only;split
  ·(first|decide|(show (0:Int)∈E13;decide))
  ·exact h1 _
 ·unfold Zcx;dsimp only;split
  ·(first|decide|(show (0:Int)∈E13;decide))
  ·exact h1 _
 ·unfold Zfx;dsimp only;split
  ·split <;> first|decide|(show (0:Int)∈E13;decide)
  ·exact h1 _
 ·exact h2 _ _
 ·exact h2 _ _
 ·exact h3
 ·exact h4 _
 ·exact h5 _
 ·exact h6 _
theorem e13_i64 {n:Int}(h:n∈E13):0≤n∧n≤13:=by
 have:∀ n∈E13,0≤n∧n≤13:=by decide
 exact this n h
def askS:List Bs:=[askW 0,askW 2,askW 3,Zam (askW 5) [0],Zam (askW 6) [0],askW 7,Zam (askW 8) [0],Zam (askW 9) [0],Zam (askW 10) [0]]
theorem Zvh (w:Bs) (l:List Int):(Zam w l).length≤w.length+22 * l.length:=by
 rw [Zow,List.length_append]
 have:(l.flatMap numT).length≤22 * l.length:=by
  induction l with
  | nil=>simp
  | cons n l ih =>
   have:=Zh1 n
   simp only [List.flatMap_cons,List.length_append,List.length_cons]
   omega
 omega
theorem Zef (b:Ov) (l:List Nt) (k:Nat) (a:List Int):(askO b l k a).1.length≤2:=by
 unfold askO
 split <;> simp
theorem askS_len (b:Ov) (l:List Nt):∀ s∈askS,(Zb8 b l s).1.length≤60:=by
 have key:∀ (x:List Int × Int) (w:Bs),w.length≤10→x.1.length≤2→((if x.2=0 then (Zam w x.1,(0:Int),l) else ([],x.2,l):Bs × Int × List Nt)).1.length≤60:=fun x w h h2=>by
  split
  ·have:=Zvh w x.1
   simp only;omega
  ·simp
 intro s hs
 unfold askS at hs
 simp only [List.mem_cons,List.not_mem_nil,or_false] at hs
 rcases hs with rfl|rfl|rfl|rfl|rfl|rfl|rfl|rfl|rfl
 ·rw [Zim om_];exact key _ _ de_ (Zef _ _ _ _)
 ·rw [Zim om_];exact key _ _ de_ (Zef _ _ _ _)
 ·rw [Zim om_];exact key _ _ de_ (Zef _ _ _ _)
 ·rw [Zgd om_ om_];exact key _ _ de_ (Zef _ _ _ _)
 ·rw [Zgd om_ om_];exact key _ _ de_ (Zef _ _ _ _)
 ·rw [Zim om_];exact key _ _ de_ (Zef _ _ _ _)
 ·rw [Zgd om_ om_];exact key _ _ de_ (Zef _ _ _ _)
 ·rw [Zgd om_ om_];exact key _ _ de_ (Zef _ _ _ _)
 ·rw [Zgd om_ om_];exact key _ _ de_ (Zef _ _ _ _)
theorem Zxx (b:Ov) (l:List Nt):∀ s∈askS,(Zb8 b l s).2.2=l∧(Zb8 b l s).2.1∈E13:=by
 have key:∀ (x:List Int × Int) (w:Bs),x.2∈E13→((if x.2=0 then (Zam w x.1,(0:Int),l) else ([],x.2,l):Bs × Int × List Nt)).2.2=l∧((if x.2=0 then (Zam w x.1,(0:Int),l) else ([],x.2,l):Bs × Int × List Nt)).2.1∈E13:=fun x w h=>by
  split
  ·exact ⟨rfl,(by show (0:Int)∈E13;decide)⟩
  ·exact ⟨rfl,h⟩
 intro s hs
 unfold askS at hs
 simp only [List.mem_cons,List.not_mem_nil,or_false] at hs
 rcases hs with rfl|rfl|rfl|rfl|rfl|rfl|rfl|rfl|rfl
 ·rw [Zim om_];exact key _ _ (Zeg _ _ _ _)
 ·rw [Zim om_];exact key _ _ (Zeg _ _ _ _)
 ·rw [Zim om_];exact key _ _ (Zeg _ _ _ _)
 ·rw [Zgd om_ om_];exact key _ _ (Zeg _ _ _ _)
 ·rw [Zgd om_ om_];exact key _ _ (Zeg _ _ _ _)
 ·rw [Zim om_];exact key _ _ (Zeg _ _ _ _)
 ·rw [Zgd om_ om_];exact key _ _ (Zeg _ _ _ _)
 ·rw [Zgd om_ om_];exact key _ _ (Zeg _ _ _ _)
 ·rw [Zgd om_ om_];exact key _ _ (Zeg _ _ _ _)
def askR (b:Ov) (l:List Nt) (s:Bs):Bs:=(Zb8 b l s).1 ++ ([32] ++ Zct (Zb8 b l s).2.1)
theorem askS_eq:askS=[[119,104,105,116,101,115],[107,110,111,119,110],[112,97,115,115,101,100],[115,104,111,114,110,32,48],[105,110,115,105,100,101,32,48],[102,97,108,115,101],[119,114,111,110,103,32,48],[107,101,101,112,115,32,48],[109,111,114,101,32,48]]:=by decide +kernel
theorem Zv1 {T:Nat→Prop}{w:World}{O:Nat}{b:Ov}{l:List Nt}(h:OvQ T w O b l) (hT:∀ g,T g→g < w.heap.size) (p:Nat) (hp:Blk w p #[.pointer O] 38) (hpO:p≠O) :
  Calls prog 42 #[.pointer (some ⟨p,0,none⟩)] w (fun e w'=>∃ v,e=.returned v∧Lets (fun k _=>k=O) w w'∧OvQ T w' O b l∧w'.ownsRow w.heap.size 9 1 v askS.length ((askS.map (askR b l)).flatMap strL)):=by
 obtain ⟨i0,hi,hz0,hz1,hz2⟩:=Zbp Znf
 have HL:Hid (∀ T' W,OvQ T' W O b l→(∀ g,T' g→g < W.heap.size)→∀ k,(hk:k < askS.length)→Calls prog 19 #[.pointer O,strV askS[k]] W (fun e w'=>∃ t er,e=.returned (.tuple #[strV t,.int .i64 er])∧Lets (fun k _=>k=O) W w'∧OvQ T' w' O b l∧er∈E13∧t.length≤60∧askR b l askS[k]=t ++ ([32] ++ Zct er))):=fun T' W h hT k hk=>by
  obtain ⟨h1,h2⟩:=Zxx b l askS[k] (List.getElem_mem hk)
  refine (h.line hT askS[k]).mono ?_
  rintro e w' ⟨rfl,hl,hq⟩
  rw [h1] at hq
  exact ⟨_,_,rfl,hl,hq,h2,askS_len b l _ (List.getElem_mem hk),rfl⟩
 have HI:Hid (∀ W er,VarsOk W→er∈E13→Calls prog 30 #[.int .i64 er] W (Zak (.string ⟨(Zct er).toArray⟩) W)):=fun W er hv he=>Zsm er (by have:=e13_i64 he;unfold I64;omega) W hv
 have HTk:Hid (∀ k,(hk:k < askS.length)→((askS.take (k+1)).map (askR b l)).flatMap strL=((askS.take k).map (askR b l)).flatMap strL ++ [strV (askR b l askS[k])]):=fun k hk=>by
  rw [List.take_succ_eq_append_getElem hk,List.map_append,List.flatMap_append]
  rfl
 have HEnd:Hid (((askS.take askS.length).map (askR b l)).flatMap strL=(askS.map (askR b l)).flatMap strL):=by show _=_;rw [List.take_length]
 have hlen:askS.length=9:=by decide
 have HLen:=hd_ hlen
 have hOlt:=h.lt
 have hplt:=hp.lt
 have rp:=hp.cell
 go_enter func42,ntmps42
 go_wp2_with fail
 go_loopw [1,8] (fun x1 x8 wr=>∃ k:Nat,k≤9∧x8=.int .i64 (k:Int)∧Lets (fun k _=>k=O) w wr∧RowsAt wr w.heap.size 1 strL askS∧w.heap.size < wr.heap.size∧wr.ownsRow (w.heap.size+1) 9 1 x1 k (((askS.take k).map (askR b l)).flatMap strL)∧OvQ (fun g=>T g∨x1.ownBlock=some g) wr O b l) (fun _ x8 _=>9 - (intOf x8).toNat)
 case atStart =>
  refine ⟨0,om_,rfl,(Lets.refl _ _).alloc _,?_,sp_,World.ownsRow_nil _ _ _ _,(h.below (br_.alloc nl_ _)).turn (fun g hg=>hg.elim .inl (fun e=>by cases e))⟩
  have hb:=Blk.new w #[.string ⟨#[119,104,105,116,101,115]⟩,.string ⟨#[107,110,111,119,110]⟩,.string ⟨#[112,97,115,115,101,100]⟩,.string ⟨#[115,104,111,114,110,32,48]⟩,.string ⟨#[105,110,115,105,100,101,32,48]⟩,.string ⟨#[102,97,108,115,101]⟩,.string ⟨#[119,114,111,110,103,32,48]⟩,.string ⟨#[107,101,101,112,115,32,48]⟩,.string ⟨#[109,111,114,101,32,48]⟩] 9
  exact RB.rows (f:=strL) (l:=askS) (fun _=>rfl) ⟨_,hb,by rw [askS_eq];rfl⟩
 case round =>
  obtain ⟨k,hk,rfl,hLt,hrow,hNr,hown,hq⟩:=hrel
  by_cases hlt:k < 9
  ·have hlti:(k:Int) < 9:=by omega
   have hkl:k < askS.length:=by rw [HLen.out];omega
   obtain ⟨gb,go,e,hc⟩:=hrow k hkl
   simp only [Option.some.injEq,Addr.mk.injEq,and_true] at e
   obtain ⟨rfl,rfl⟩:=e
   have q0:=hc 0 _ rfl
   rw [Nat.add_zero,Nat.mul_one,Nat.zero_add] at q0
   have lg:=bl_ wr _ q0
   have hpr:=hLt.blk hp hpO
   have rpr:=hpr.cell
   have lpr:=hpr.lt
   have HLk:=hd_ (HL.out _ wr hq (by
    rintro g (hg|hg)
    ·have:=hT g hg;omega
    ·exact (Zad hown hg).2) k hkl)
   have HTkk:=hd_ (HTk.out k hkl)
   clear hc rp hq
   generalize askR b l askS[k]=ak at *
   generalize askS[k]=s at *
   obtain ⟨av,cv,rfl⟩:=Zb9 hown
   have hkx:(k:Int)≤9:=by omega
   unfold strV at q0 HLk
   go_wp2_with (first
    | (go_at_call 19;refine HLk.out.mono ?_;rintro e w3 ⟨t,er,rfl,hl3,hq3,he3,htl,har⟩;refine Za2 ?_))
   unfold Stop
   have hown3:=Zaw hown hl3 (fun k _ h e=>om_)
   have hrow3:=Zcc hrow hl3 (fun p _ e h=>by cases e;simp only at h;omega)
   have hsz3:=hl3.size
   have hLt3:=hLt.trans hl3
   have hIl:=Zh7 er
   go_wp2_with (first
    | (go_at_call 30;refine (HI.out w3 er hq3.vars he3).mono ?_;rintro e w4 ⟨rfl,hb4⟩)
    | (at_builtin;refine Za2 ?_))
   unfold Stop
   have hN4:w.heap.size+1≤w4.heap.size:=by have:=hb4.size;omega
   have hown4:=Zbn hown3 nl_ fun g hg=>hb4.block g (Zad hown3 hg).2
   have hrow4:=hrow3.below hb4
   have hq4:=hq3.below hb4
   have hLt4:=hLt3.trans (Lets.of_below hb4)
   have hcat:Hid (Value.string (⟨t.toArray⟩ ++ ⟨#[32]⟩ ++ ⟨(Zct er).toArray⟩)=strV ak):=by
    show Value.string (⟨t.toArray⟩ ++ ⟨([32]:Bs).toArray⟩ ++ ⟨(Zct er).toArray⟩)=_
    rw [Zt2,Zt2,har,List.append_assoc]
    rfl
   clear hown3 hrow3 hq3 hLt3 har
   refine wpList_append_own_at _ rfl _ _ 28 rfl (w.heap.size+1) 9 i0 _ 1 16 underlying28 hi hz0 hz1 hz2 rfl de_ (.slice av k cv) k _ rfl (hown4.alloc _) ⟨w4.heap.size,0,none⟩ 1 1 [.string (⟨t.toArray⟩ ++ ⟨#[32]⟩ ++ ⟨(Zct er).toArray⟩)] rfl rfl (cell_one_new _ _ _) (by simp [Value.oneCell']) (by unfold maxLen;omega) om_ (by simp;omega) ?_
   intro v' w8 hown8 hgrow _ hat
   obtain ⟨av',cv',rfl⟩:=Zb9 hown8
   have hqa:=hq4.below (br_.alloc nl_ (.cells #[.string (⟨t.toArray⟩ ++ ⟨#[32]⟩ ++ ⟨(Zct er).toArray⟩)] 9))
   have hl8:Lets (fun k _=>w.heap.size+1≤k) w4 w8:=((Lets.refl _ _).alloc _).grown hgrow (fun g hg _=>(Zad hown4 hg).1)
   have hq8:=hqa.grow hgrow (fun g hg=>by have:=(Zad hown4 hg).1;omega) hat
   have hrow8:=Zcc hrow4 hl8 (fun p _ e h=>by cases e;simp only at h;omega)
   have hLt8:Lets (fun k _=>k=O) w w8:=⟨hl8.os.trans hLt4.os,hl8.tape.trans hLt4.tape,hl8.output.trans hLt4.output,Nat.le_trans hLt4.size hl8.size,fun k hk hx=>(hl8.block k (Nat.lt_of_lt_of_le hk hLt4.size) om_).trans (hLt4.block k hk hx)⟩
   have hN8:=hl8.size
   rw [hcat.out] at hown8
   clear hat hgrow hqa
   go_wp2_with fail
   exact ⟨⟨k+1,om_,by go_num,hLt8,hrow8,om_,by rw [HTkk.out];exact hown8,hq8⟩,by simp [intOf];omega⟩
  ·obtain rfl:k=9:=by omega
   have hE:=HEnd.out
   rw [HLen.out] at hE
   go_wp2_with fail
   go_ret
   refine ⟨_,rfl,hLt,hq.turn (fun g hg=>.inl (.inl hg)),?_⟩
   rw [← hE,HLen.out]
   exact Zbn hown om_ (fun _ _=>rfl)
end Go.Proofs.YtbapgefodmmikaaGreatDoor
namespace Go.Proofs.YtbapgefodmmikaaGreatDoor
open Go.RowKit Go.Proofs Go.Ord Tryz
end Go.Proofs.YtbapgefodmmikaaGreatDoor
