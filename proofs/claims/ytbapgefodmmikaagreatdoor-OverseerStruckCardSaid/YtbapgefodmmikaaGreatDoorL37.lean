/- Parts of a proof. -/
import Derived.Test.YtbapgefodmmikaaGreatDoorLMin
import Derived.Test.YtbapgefodmmikaaGreatDoorL36
import Derived.OpenShut
import Derived.ChangeMaps5
import Derived.Deep.Slices
import Derived.Test.YtbapgefodmmikaaGreatDoorRows
import Derived.HandedShaped
import Derived.LaidMore
import Derived.Lay
import Derived.Shelf.Vars
set_option linter.unusedVariables false
set_option linter.unusedSimpArgs false
set_option maxHeartbeats 40000000
set_option maxRecDepth 100000
namespace Go.Proofs.YtbapgefodmmikaaGreatDoor
open Go.RowKit Go.Proofs Go.Ord Tryz
def preN:Bs:=[110,111,116,101,32]
def preS:Bs:=[115,116,114,105,107,101,32]
theorem Zgi (b:Ov) (l:List Nt):Zb8 b l Zb3=if l.length=0 then ([],4,l) else (Zam Zb3 [(l.length:Int) - 1],0,l.take (l.length - 1)):=by
 rw [Zn9,if_neg de_,show Zk0 Zb3=some ([],Wd.strike) from rfl]
 rfl
theorem Ziy {p w:Bs}(hp:p.all (· != 32)=true) (hw:w.all (· != 32)=true) {xs:List Int}(h:(p ++ [32]).isPrefixOf (Zam w xs)=true):w=p:=by
 rw [List.isPrefixOf_iff_prefix] at h
 obtain ⟨t,ht⟩:=h
 have h1:=congrArg wordO ht
 rw [Zta hw] at h1
 unfold wordO at h1
 rw [List.append_assoc,List.takeWhile_append_of_pos (fun x hx=>List.all_eq_true.1 hp x hx)] at h1
 simpa using h1.symm
theorem Zvk (w:Bs) (x:Int):(w ++ [32]).isPrefixOf (Zam w [x])=true:=by
 rw [List.isPrefixOf_iff_prefix]
 exact ⟨Zct x,by simp [Zam]⟩
def Zyd (b:Ov) (l:List Nt) (r:Bs × Int × List Nt):Prop :=
 (Lib.hasPrefix r.1 preS=false∧((Lib.hasPrefix r.1 preN=false∧r.2.2=l)∨(Lib.hasPrefix r.1 preN=true∧Zb8 b r.2.2 Zb3=(preS ++ Zct l.length,0,l)))) ∨
 (Lib.hasPrefix r.1 preN=false∧Lib.hasPrefix r.1 preS=true∧r.2.2.length+1=l.length)
theorem behind (b:Ov) (l:List Nt) (s:Bs):Zyd b l (Zb8 b l s):=by
 have key:∀ r,Did b l r→Zyd b l r:=fun r h=>by
  cases h with
  | err e he=>exact .inl ⟨rfl,.inl ⟨rfl,rfl⟩⟩
  | note n h1 h2 =>
   refine .inl ⟨?_,.inr ⟨Zvk Zhu _,?_⟩⟩
   ·cases h:Lib.hasPrefix (Zam Zhu [(l.length:Int)]) preS with
    | false=>rfl
    | true=>exact absurd (Ziy (p:=Zb3) de_ de_ h) de_
   ·simp only
    rw [Zgi,if_neg sp_]
    simp only [List.length_append,List.length_cons,List.length_nil,Nat.add_sub_cancel,List.take_left,Nat.zero_add]
    rw [show (((l.length+1:Nat):Int) - 1)=(l.length:Int) by omega]
    simp [Zam,Zb3,preS]
  | strike h0 =>
   refine .inr ⟨?_,Zvk Zb3 _,by simp;omega⟩
   cases h:Lib.hasPrefix (Zam Zb3 [(l.length:Int) - 1]) preN with
   | false=>rfl
   | true=>exact absurd (Ziy (p:=Zhu) de_ de_ h) de_
  | ask k hk xs =>
   obtain ⟨h1,h2,h3,-⟩:=Zun k hk
   refine .inl ⟨?_,.inl ⟨?_,rfl⟩⟩
   ·cases h:Lib.hasPrefix (Zam (askW k) xs) preS with
    | false=>rfl
    | true=>exact absurd (Ziy (p:=Zb3) de_ h1 h) h3
   ·cases h:Lib.hasPrefix (Zam (askW k) xs) preN with
    | false=>rfl
    | true=>exact absurd (Ziy (p:=Zhu) de_ h1 h) h2
 exact key _ (Zp5 b l s)
theorem Zok (b:Ov) (l:List Nt) (k:Nat) (h:k < l.length):(Zb8 b (l.take (l.length - k)) Zb3).2.1=0∧(Zb8 b (l.take (l.length - k)) Zb3).2.2=l.take (l.length - (k+1)):=by
 rw [Zgi,if_neg (by simp;omega)]
 refine ⟨rfl,?_⟩
 simp only [List.length_take,List.take_take]
 congr 1
 omega
theorem Zjd (b:Ov) (l:List Nt):Zb8 b (l.take (l.length - l.length)) Zb3=([],4,[]):=by
 rw [Zgi,if_pos sp_]
 simp
end Go.Proofs.YtbapgefodmmikaaGreatDoor
namespace Go.Proofs.YtbapgefodmmikaaGreatDoor
open Go.RowKit Go.Proofs Go.Ord Tryz
attribute [local irreducible] Ord.walk
attribute [local go_sem] Oper.semAt_some
theorem rows_src {w:World}{a:Option Addr}{ss:List Bs}(h:RowsAt w a 1 strL ss) (c:Nat):Zy9 w (.slice a ss.length c) ss.length 1 (ss.flatMap strL):=by
 have e:ss.flatMap strL=ss.map strV:=by
  clear h
  induction ss with
  | nil=>rfl
  | cons x r ih=>rw [List.flatMap_cons,ih];rfl
 rw [e]
 refine ⟨sp_,?_⟩
 cases a with
 | none =>
  left
  refine ⟨c,rfl,?_⟩
  cases ss with
  | nil=>rfl
  | cons x r=>obtain ⟨gb,go,e,_⟩:=h 0 sp_;cases e
 | some ad =>
  right
  refine ⟨ad,c,rfl,fun j u hj=>?_⟩
  have hjl:j < ss.length:=by simpa using (List.getElem?_eq_some_iff.1 hj).1
  obtain ⟨gb,go,e,hc⟩:=h j hjl
  obtain rfl:ad=⟨gb,go,none⟩:=by injection e
  rw [Addr.add_lit]
  rw [List.getElem?_map,List.getElem?_eq_getElem hjl] at hj
  have:=hc 0 (strV ss[j]) rfl
  rw [Nat.mul_one,Nat.add_zero] at this
  rw [this]
  simpa using hj
def NoB:Nat→Prop:=fun _=>False
structure StK (N:Nat) (w W:World) (p7 O:Nat) (b:Ov) (l l0:List Nt) (v12 v13:Value) (z:Nat):Prop where
 hB:Below N w W
 b7:Blk W p7 #[.pointer O] 38
 q:OvQ NoB W O b l
 old:W.ownsRow z 88 4 v12 l0.length (l0.flatMap ntL)
 fst:W.ownsRow z 9 1 v13 9 ((askS.map (askR b l0)).flatMap strL)
 ne:p7≠O
 Oz:O < z
 NO:N≤O
 Nw:N≤w.heap.size
section
variable {N:Nat}{w W W':World}{p7 O:Nat}{b:Ov}{l l' l0:List Nt}{v12 v13:Value}{z:Nat}
theorem StK.lets (h:StK N w W p7 O b l l0 v12 v13 z) (hl:Lets (fun k _=>k=O) W W') (hq:OvQ NoB W' O b l'):StK N w W' p7 O b l' l0 v12 v13 z :=
 ⟨Za3 h.hB hl h.Nw (fun k _ hk e=>by have:=h.NO;omega),hl.blk h.b7 h.ne,hq,Zaw h.old hl (fun k _ hk e=>by have:=h.Oz;omega),Zaw h.fst hl (fun k _ hk e=>by have:=h.Oz;omega),h.ne,h.Oz,h.NO,h.Nw⟩
theorem StK.below (h:StK N w W p7 O b l l0 v12 v13 z) (hb:W W'):StK N w W' p7 O b l l0 v12 v13 z:=h.lets (Lets.of_below hb) (h.q.below hb)
theorem StK.line (h:StK N w W p7 O b l l0 v12 v13 z) (s:Bs):Calls prog 19 #[.pointer O,strV s] W (fun e W'=>e=.returned (.tuple #[strV (Zb8 b l s).1,.int .i64 (Zb8 b l s).2.1])∧StK N w W' p7 O b (Zb8 b l s).2.2 l0 v12 v13 z) :=
 (h.q.line (fun _ h=>h.elim) s).mono (by rintro e W' ⟨rfl,hl,hq⟩;exact ⟨rfl,h.lets hl hq⟩)
theorem StK.notes (h:StK N w W p7 O b l l0 v12 v13 z):Calls prog 23 #[.pointer O] W (fun e W'=>∃ a c,e=.returned (.slice a l.length c)∧RowsAt W' a 4 ntL l∧StK N w W' p7 O b l l0 v12 v13 z) :=
 h.q.notes.mono (by
  rintro e W' ⟨v,rfl,hb,ho⟩
  obtain ⟨a,c,rfl,hr⟩:=Zbm (f:=ntL) (n:=4) (l:=l) (fun _=>rfl) ho
  exact ⟨a,c,rfl,hr,h.below hb⟩)
theorem Zq6 {w:World}{base:Nat}{v:Value}(h:w.ownsRow base 9 1 v 9 ((askS.map (askR b l)).flatMap strL)):∃ a c,v=.slice a 9 c∧RowsAt w a 1 strL (askS.map (askR b l)):=by
 have:=Zbm (l:=askS.map (askR b l)) Zmw (show w.ownsRow base 9 1 v (askS.map (askR b l)).length _ by rw [List.length_map];exact h)
 rw [List.length_map] at this
 exact this
theorem StK.asked (h:StK N w W p7 O b l l0 v12 v13 z):Calls prog 42 #[.pointer p7] W (fun e W'=>∃ a c,e=.returned (.slice a 9 c)∧RowsAt W' a 1 strL (askS.map (askR b l))∧StK N w W' p7 O b l l0 v12 v13 z) :=
 (Zv1 h.q (fun _ h=>h.elim) p7 h.b7 h.ne).mono (by
  rintro e W' ⟨v,rfl,hl,hq,ho⟩
  obtain ⟨a,c,rfl,hr⟩:=Zq6 ho
  exact ⟨a,c,rfl,hr,h.lets hl hq⟩)
theorem StK.rold {a:Option Addr}{n c:Nat}(h:StK N w W p7 O b l l0 (.slice a n c) v13 z):RowsAt W a 4 ntL l0:=by
 obtain ⟨a,c,e,hr⟩:=Zbm (f:=ntL) (n:=4) (l:=l0) (fun _=>rfl) h.old
 cases e
 exact hr
theorem StK.rfst {a:Option Addr}{n c:Nat}(h:StK N w W p7 O b l l0 v12 (.slice a n c) z):RowsAt W a 1 strL (askS.map (askR b l0)):=by
 obtain ⟨a,c,e,hr⟩:=Zq6 h.fst
 cases e
 exact hr
theorem StK.alive (h:StK N w W p7 O b l l0 v12 v13 z):Calls prog 13 #[] W (fun e W'=>e=.returned (.bool true)∧Below N w W') :=
 (Zv2 W h.q.vars).mono (by
  rintro e W' ⟨rfl,hb⟩
  exact ⟨rfl,(h.below hb).hB⟩)
end
theorem St_begin {N:Nat}{w W W2 W3:World}{p7 O:Nat}{b:Ov}{l:List Nt}{v12 v13:Value}(hB:Below N w W) (h7:Blk W p7 #[.pointer O] 38) (ne:p7≠O) (NO:N≤O) (Nw:N≤w.heap.size) (hq:OvQ NoB W O b l)
  (hb2:W W2) (ho:W2.ownsRow W.heap.size 88 4 v12 l.length (l.flatMap ntL))
  (hl:Lets (fun k _=>k=O) W2 W3) (hq3:OvQ NoB W3 O b l) (ho3:W3.ownsRow W2.heap.size 9 1 v13 9 ((askS.map (askR b l)).flatMap strL)):StK N w W3 p7 O b l l v12 v13 W.heap.size :=
 ⟨Za3 (hB.trans (hb2.mono (by have:=hB.size;have:=hq.lt;omega))) hl Nw (fun k _ hk e=>om_),hl.blk (h7.below hb2 h7.lt) ne,hq3,Zaw ho hl (fun k _ hk e=>by have:=hq.lt;omega),Zbn ho3 hb2.size (fun _ _=>rfl),ne,hq.lt,NO,Nw⟩
theorem _root_.Q3 {p:Prop}(h:p:=by
 have r7:=hK20.b7.cell
 have l7:=hK20.b7.lt
 go_wp2_with (first
  | (go_at_call 43;refine (HPre.out _ _ _).mono ?_;rintro e w' ⟨rfl,rfl⟩)
  | (go_at_call 23;refine hK20.notes.mono ?_;rintro e w21 ⟨a21,c21,rfl,hr21,hK21⟩)
  | (go_at_call 22;refine (HEqN.out L _ _ _ _ _ hL30 hr21 hK21.rold).mono ?_;rintro e w22 ⟨rfl,hb22⟩;refine Za2 ?_))
 unfold Stop
 have hK22:=hK21.below hb22
 go_wp2_with (first
  | (go_at_call 42;refine hK22.asked.mono ?_;rintro e w23 ⟨a23,c23,rfl,hr23,hK23⟩)
  | (go_at_call 16;refine (HEqS.out _ _ _ _ _ _ rfl hr23 hK23.rfst).mono ?_;rintro e w24 ⟨rfl,hb24⟩;refine Za2 ?_))
 unfold Stop
 have hK24:=hK23.below hb24
 clear hK22 hr21 hK21 hK20 hb22 hr23 hK23 hb24 r7 l7
 go_wp2_with fail
 go_loopw [109] (fun x109 wr=>∃ k:Nat,k≤L.length∧x109=.int .i64 (k:Int)∧StK N w wr p7 O b (L.take (L.length - k)) L (.slice a12 L.length c12) (.slice a13 9 c13) z) (fun x109 _=>L.length - (intOf x109).toNat)
 case atStart=>exact ⟨0,om_,rfl,by rw [Nat.sub_zero,List.take_length];exact hK24⟩
 case round =>
  obtain ⟨k,hk,rfl,hKr⟩:=hrel
  have r7:=hKr.b7.cell
  have l7:=hKr.b7.lt
  by_cases hlt:k < L.length
  ·have hlti:(k:Int) < (L.length:Int):=by omega
   have hS:=hKr.line Zb3
   obtain ⟨e1,e2⟩:=Zok b L k hlt
   rw [e1,e2] at hS
   have HS:=hd_ hS
   clear hS e1 e2
   unfold strV at HS
   go_wp2_with (first
    | (go_at_call 19;refine HS.out.mono ?_;rintro e w25 ⟨rfl,hK25⟩;refine Za2 ?_))
   unfold Stop
   go_wp2_with fail
   exact ⟨⟨k+1,om_,by go_num,hK25⟩,by simp [intOf];omega⟩
  ·obtain rfl:k=L.length:=by omega
   have hlti:¬ (L.length:Int) < (L.length:Int):=by omega
   have hS:=hKr.line Zb3
   rw [Zjd] at hS
   have HS:=hd_ hS
   clear hS
   unfold strV at HS
   go_wp2_with (first
    | (go_at_call 19;refine HS.out.mono ?_;rintro e w25 ⟨rfl,hK25⟩;have r7':=hK25.b7.cell;have l7':=hK25.b7.lt)
    | (go_at_call 23;refine hK25.notes.mono ?_;rintro e w26 ⟨a26,c26,rfl,-,hK26⟩)
    | (go_at_call 13;refine hK26.alive.mono ?_;rintro e w27 ⟨rfl,hb27⟩))
   go_ret
   exact ⟨rfl,by rw [HN.out];exact hb27⟩):p:=h
theorem Zis (b:Ov) (sa:Option Addr) (sc:Nat) (fa:Option Addr) (fc:Nat) (ss:List Bs) (ta:Option Addr) (tc:Nat) (t:Bs) (w:World) (hv:VarsOk w) (hs:RowsAt w sa 2 Zax b.strays) (hf:RowsAt w fa 1 numL b.fl) (la:b.strays.length≤maxLen) (lb:b.fl.length≤maxLen) (ht:RowsAt w ta 1 strL ss) (lt:(1+ss.length) * 16≤140737488355328) (lm:∀ x∈ss,x.length≤maxLen) (lx:t.length≤maxLen) :
  Calls prog 7 #[.agg (bgV b sa sc fa fc),.slice ta ss.length tc,strV t] w (Zak (.bool true) w):=by
 obtain ⟨i0,hi,hz0,hz1,hz2⟩:=Zbp Znf
 have HVar:=hd_ (fun W (hb:Below w.heap.size w W)=>hv.below hb hv.2.2.2.2)
 have HAl:=hd_ (fun W hv=>Zv2 W hv)
 have HPre:Hid (∀ (s p:Bs) W,Calls prog 43 #[.string ⟨s.toArray⟩,.string ⟨p.toArray⟩] W (fun e w'=>e=.returned (.bool (Lib.hasPrefix s p))∧w'=W)):=fun s p W=>Tryz.strings_HasPrefix ⟨s.toArray⟩ ⟨p.toArray⟩ W
 have HEqS:Hid (∀ (rs:List Bs) W a c d e,rs.length=9→RowsAt W a 1 strL rs→RowsAt W d 1 strL rs→Calls prog 16 #[.slice a 9 c,.slice d 9 e] W (Zak (.bool true) W)):=fun rs W a c d e h1 h2 h3=>by
  have:=Zod rs rs a d c e W h2 h3 om_ om_
  rw [beq_self_eq_true,h1] at this
  exact this
 have HEqN:Hid (∀ (l:List Nt) W a c d e,l.length≤30→RowsAt W a 4 ntL l→RowsAt W d 4 ntL l→Calls prog 22 #[.slice a l.length c,.slice d l.length e] W (Zak (.bool true) W)):=fun l W a c d e h1 h2 h3=>by
  have:=v_Notes l l a d c e W h2 h3 om_ om_
  rw [beq_self_eq_true] at this
  exact this
 have HIt:Hid (∀ W n,n≤30→VarsOk W→Calls prog 30 #[.int .i64 ((n:Nat):Int)] W (Zak (.string ⟨(Zct (n:Int)).toArray⟩) W)):=fun W n h hv=>Zsm _ (by unfold I64;omega) W hv
 have HLg:Hid (∀ W v,w.heap.size≤W.heap.size→W.ownsRow w.heap.size 9 1 v (1+ss.length) ([strV t] ++ ss.flatMap strL)→Calls prog 24 #[.agg (bgV b sa sc fa fc),v] W (fun e w'=>∃ v,e=.returned (.bool v)∧(v=false→Zqc b (t :: ss))∧Below W.heap.size W w')):=fun W v hn ho=>by
  have e:(t :: ss).length=1+ss.length:=by simp;omega
  obtain ⟨a,c,rfl,hr⟩:=Zbm (l:=t :: ss) Zmw (show W.ownsRow w.heap.size 9 1 v (t :: ss).length _ by rw [e];exact ho)
  have:=v_long b sa sc fa fc (t :: ss) a c W la lb (by rw [e];unfold maxLen;omega) (by
   intro x hx
   rcases List.mem_cons.1 hx with rfl|hx
   ·exact lx
   ·exact lm x hx) hr
  exact this
 have HSrc:=hd_ (fun W (hb:Below w.heap.size w W)=>rows_src (ht.below hb) tc)
 have HT:=hd_ (fun W (hb:Below w.heap.size w W)=>ht.below hb)
 have HOne:Hid (∀ u∈ss.flatMap strL,u.oneCell'=true):=fun u hu=>by
  obtain ⟨x,-,hx⟩:=List.mem_flatMap.1 hu
  simp only [strL,strV,List.mem_singleton] at hx
  subst hx
  rfl
 have HNo:Hid (∀ W,Zqc b (t :: ss)→Zbq b []=false→Below w.heap.size w W→Calls prog 17 #[.agg (bgV b sa sc fa fc)] W (Zat (.pointer none) (.int .i64 1) W)):=fun W hsh hvd hB=>o_NewNo (hs.below hB) (hf.below hB) hsh.1 hsh.2.1 (HVar.out W hB) hvd
 have HYes:Hid (∀ W,Zqc b (t :: ss)→Zbq b []=true→Below w.heap.size w W→Calls prog 17 #[.agg (bgV b sa sc fa fc)] W (NewQ b NoB W)):=fun W hsh hvd hB=>new_yes (hs.below hB) (hf.below hB) hsh.1 hsh.2.1 (HVar.out W hB) hvd
 have HLT:=hd_ (fun k (h:k < ss.length)=>Ztx b ss k h)
 have HK:Hid (Zbq b []=true→Kept b (Zao b [] ss).2.2):=fun h=>(Kept.nil h).lines ss
 have HEnd:Hid ((Zao b [] (ss.take ss.length)).2.2=(Zao b [] ss).2.2):=by show _=_;rw [List.take_length]
 have HZ:Hid ((Zao b [] (ss.take 0)).2.2=[]):=by show _=_;rfl
 obtain ⟨LN,hLN⟩:∃ LN:Nat→List Nt,∀ k,LN k=(Zao b [] (ss.take k)).2.2:=⟨_,fun _=>rfl⟩
 obtain ⟨L,hL⟩:∃ L,L=(Zao b [] ss).2.2:=⟨_,rfl⟩
 simp only [← hLN,← hL] at HLT HK HEnd HZ
 clear hLN hL hs hf ht hv la lb lm lx
 have HVd:Hid (Zbq b []=true∨Zbq b []=false):=by
  cases Zbq b [] with
  | true=>exact .inl rfl
  | false=>exact .inr rfl
 unfold bgV at *
 unfold strV at *
 generalize hN:w.heap.size=N at *
 have HN:=hd_ hN
 go_enter func7,ntmps7
 go_upto_region 1 with fail
 have bg0:Blk (w.alloc (.cells #[b.V,b.nd,b.lo,b.hi,b.sh,b.most,.slice sa b.strays.length sc,.slice fa b.fl.length fc,b.may,b.drift,b.mist] 27)) N #[b.V,b.nd,b.lo,b.hi,b.sh,b.most,.slice sa b.strays.length sc,.slice fa b.fl.length fc,b.may,b.drift,b.mist] 27:=Blk.new' _ _ _ _ HN.out
 have hB0:Below N w (w.alloc (.cells #[b.V,b.nd,b.lo,b.hi,b.sh,b.most,.slice sa b.strays.length sc,.slice fa b.fl.length fc,b.may,b.drift,b.mist] 27)).drew:=by rw [← HN.out];exact bel_
 have hs0:(w.alloc (.cells #[b.V,b.nd,b.lo,b.hi,b.sh,b.most,.slice sa b.strays.length sc,.slice fa b.fl.length fc,b.may,b.drift,b.mist] 27)).drew.heap.size=N+1:=by simp [HN.out]
 refine Ord.wp_region [(0,1),(1,0),(3,1),(2,2),(4,2),(5,2)] (fun W=>Blk W N #[b.V,b.nd,b.lo,b.hi,b.sh,b.most,.slice sa b.strays.length sc,.slice fa b.fl.length fc,b.may,b.drift,b.mist] 27) kr_ kr_ (fun c a d v w h=>by cases d <;> exact h) bg0.drew ?_
 obtain ⟨w1,hw1⟩:∃ w1,(w.alloc (.cells #[b.V,b.nd,b.lo,b.hi,b.sh,b.most,.slice sa b.strays.length sc,.slice fa b.fl.length fc,b.may,b.drift,b.mist] 27)).drew=w1:=⟨_,rfl⟩
 have bg1:Blk w1 N #[b.V,b.nd,b.lo,b.hi,b.sh,b.most,.slice sa b.strays.length sc,.slice fa b.fl.length fc,b.may,b.drift,b.mist] 27:=by rw [← hw1];exact bg0.drew
 have bg2:=bg1.alloc (.cells #[.string ⟨t.toArray⟩] 9)
 rw [hw1] at hB0 hs0
 have hS1:=HSrc.out _ (hB0.alloc om_ (.cells #[.string ⟨t.toArray⟩] 9))
 rw [hw1]
 clear hw1 bg0
 go_wp2_with (first
  | ((with_reducible refine Zye ?_);refine Zyq (ad:=⟨N,0,none⟩) (.agg #[b.V,b.nd,b.lo,b.hi,b.sh,b.most,.slice sa b.strays.length sc,.slice fa b.fl.length fc,b.may,b.drift,b.mist]) rfl rfl ?_ ?_;(focus (exact fun W hW=>Zbo Zge hW rfl));intro K hK)
  | with_reducible refine Zyh rfl (by first|exact bg1|exact bg2) (fun K hK=>?_)
  | (refine Zyf (by first|with_reducible exact bg1|with_reducible exact bg2) (fun _=>?_))
  | (at_builtin;refine Za2 ?_)
  | (refine o_ ?_;intro K hK)|(with_reducible first|refine Zyo ?_ ?_|refine Zyj ?_|refine Zyf bn_ (fun _=>?_)))
 unfold Stop
 have hone:(w1.alloc (.cells #[.string ⟨t.toArray⟩] 9)).ownsRow N 9 1 (.slice ↑(N+1) 1 1) 1 [.string ⟨t.toArray⟩]:=Zm4 (Blk.new' _ _ _ _ hs0) om_ rfl om_ (by unfold maxLen;omega)
 refine Zhi rfl _ _ 28 rfl N 9 i0 _ 1 16 underlying28 hi hz0 hz1 hz2 rfl de_ _ 1 _ rfl hone _ ss.length (ss.flatMap strL) rfl hS1 HOne.out (by unfold maxLen;omega) om_ (by simp;omega) ?_
 intro v4 w4 hown4 hgrow
 have hob:∀ k,(Value.slice ↑(N+1) 1 1).ownBlock=some k→k=N+1:=fun k e=>by simpa [Value.ownBlock] using e.symm
 have bg4:Blk w4 N _ _:=(hgrow.block N (by simp;omega) (fun e=>by have:=hob _ e.symm;omega)).trans bg2
 have hB4:Below N w w4:=(hB0.alloc om_ _).grown hgrow (by simp;omega) (fun j e=>by have:=hob _ e;omega)
 have hs4:N+1 < w4.heap.size:=by have:=hgrow.size;simp at this;omega
 have hs4':N≤w4.heap.size:=by omega
 clear hgrow hone bg1 bg2 hB0 hs0 hob hS1
 go_wp2_with (first
  | (go_at_call 24;refine (HLg.out _ _ hs4' hown4).mono ?_;rintro e w5 ⟨v5,rfl,hS5,hb5⟩;refine Za2 ?_)
  | with_reducible refine Zyh rfl (by exact bg4) (fun K hK=>?_)
  | (refine Zyf (by exact bg4) (fun _=>?_))
  | (refine o_ ?_;intro K hK)|(with_reducible first|refine Zyo ?_ ?_|refine Zyj ?_|refine Zyf bn_ (fun _=>?_)))
 unfold Stop
 have bg5:=bg4.below hb5 bg4.lt
 have hB5:Below N w w5:=hB4.trans (hb5.mono hs4')
 have hs5:=hb5.size
 clear bg4 hB4 hown4 hb5
 cases v5 with
 | true =>
  clear hS5
  go_wp2_with (first
   | (go_at_call 13;refine (HAl.out _ (HVar.out _ hB5)).mono ?_;rintro e w6 ⟨rfl,hb6⟩)
   | (refine Zyf (by exact bg5) (fun _=>?_))
   | (refine o_ ?_;intro K hK)|(with_reducible first|refine Zyo ?_ ?_|refine Zyj ?_|refine Zyf bn_ (fun _=>?_)))
  go_ret
  exact ⟨rfl,by rw [HN.out];exact hB5.trans (hb6.mono om_)⟩
 | false =>
  have hSh:=hS5 rfl
  have HSh:=hd_ hSh
  clear hS5 hSh
  rcases HVd.out with hvd|hvd
  ·have HY:=hd_ (HYes.out w5 HSh.out hvd hB5)
   have HKp:=hd_ (HK.out hvd)
   clear hvd
   go_wp2_with (first
    | (refine Za0 27 (.tmp 3) Zge rfl rfl rfl bg5 rfl ?_)
    | (go_at_call 17;refine HY.out.mono ?_;rintro e w6 ⟨O,rfl,hb6,hO6,hq6⟩;refine Za2 ?_)
    | (refine Zyf (by exact bg5) (fun _=>?_))
    | (refine o_ ?_;intro K hK)|(with_reducible first|refine Zyo ?_ ?_|refine Zyj ?_|refine Zyf bn_ (fun _=>?_)))
   unfold Stop
   have hB6:Below N w w6:=hB5.trans (hb6.mono om_)
   have hOl:=hq6.lt
   have hNO:N≤O:=by omega
   clear bg5 hb6 hO6 HNo HLg HY HYes HK hB5
   go_wp2_with fail
   go_loopw [47] (fun x47 wr=>∃ k:Nat,k≤ss.length∧x47=.int .i64 (k:Int)∧Below N w wr∧Blk wr w6.heap.size #[.pointer O] 38∧OvQ NoB wr O b (LN k)) (fun x47 _=>ss.length - (intOf x47).toNat)
   case atStart =>
    refine ⟨0,om_,rfl,hB6.alloc om_ _,Blk.new _ _ _,?_⟩
    rw [HZ.out]
    exact hq6.below (br_.alloc nl_ _)
   case round =>
    obtain ⟨k,hk,rfl,hbr,b7,hq⟩:=hrel
    have hne:w6.heap.size≠O:=by omega
    generalize w6.heap.size=p7 at *
    have r7:=b7.cell
    have l7:=b7.lt
    by_cases hlt:k < ss.length
    ·have hlti:(k:Int) < (ss.length:Int):=by omega
     obtain ⟨gb,go,hgo,hcl⟩:=HT.out wr hbr k hlt
     have q0:=hcl 0 _ rfl
     rw [Nat.add_zero,Nat.mul_one] at q0
     have lg:=bl_ wr _ q0
     have hLk:=HLT.out k hlt
     have HLi:=hd_ (hq.line (fun _ h=>h.elim) ss[k])
     rw [← hLk] at HLi
     subst hgo
     clear hcl hLk hq
     generalize ss[k]=s at *
     unfold strV at q0 HLi
     go_wp2_with (first
      | (go_at_call 19;refine HLi.out.mono ?_;rintro e w8 ⟨rfl,hl8,hq8⟩;refine Za2 ?_))
     unfold Stop
     have hB8:=Za3 hbr hl8 (by rw [HN.out];exact Nat.le_refl _) (fun j _ h e=>om_)
     have b78:=hl8.blk b7 hne
     clear hbr b7 hl8 HLi
     go_wp2_with fail
     exact ⟨⟨k+1,om_,by go_num,hB8,b78,hq8⟩,by simp [intOf];omega⟩
    ·obtain rfl:k=ss.length:=by omega
     rw [HEnd.out] at hq
     have hlti:¬ (ss.length:Int) < (ss.length:Int):=by omega
     have hL30:L.length≤30:=HKp.out.len
     clear HLT HT HSrc HZ HEnd HVd
     go_wp2_with (first
      | (go_at_call 23;refine hq.notes.mono ?_;rintro e w8 ⟨v12,rfl,hb8,ho8⟩;refine Za2 ?_))
     unfold Stop
     have hq8:=hq.below hb8
     have b78:=b7.below hb8 b7.lt
     go_wp2_with (first
      | (go_at_call 42;refine (Zv1 hq8 (fun _ h=>h.elim) p7 b78 hne).mono ?_;rintro e w9 ⟨v13,rfl,hl9,hq9,ho9⟩;refine Za2 ?_))
     unfold Stop
     have hK:=St_begin hbr b7 hne hNO (by rw [HN.out];exact Nat.le_refl _) hq hb8 ho8 hl9 hq9 ho9
     obtain ⟨a12,c12,rfl⟩:=Zb9 ho8
     have ho9':=ho9
     rw [show askS.length=9 from rfl] at ho9'
     obtain ⟨a13,c13,rfl⟩:=Zb9 ho9'
     clear hq hb8 ho8 hl9 hq9 ho9 hq8 b78 b7 hbr
     generalize wr.heap.size=z at *
     have r7:=hK.b7.cell
     have l7:=hK.b7.lt
     go_wp2_with (first
      | (go_at_call 19;refine (hK.line t).mono ?_;rintro e w10 ⟨rfl,hK10⟩;refine Za2 ?_))
     unfold Stop
     have hC:=behind b L t
     unfold Zyd preN preS at hC
     generalize Zb8 b L t=r at *
     obtain ⟨r1,r2,r3⟩:=r
     simp only at hC hK10
     clear r7 l7 hK
     unfold strV
     rcases hC with ⟨h2,h1⟩ | ⟨h1,h2,h3⟩
     ·rcases h1 with ⟨h1,e3⟩ | ⟨h1,hs⟩
      ·rw [e3] at hK10
       have hK20:=hK10
       clear hK10 e3
       exact Q3
      ·have hSt:=hd_ (hK10.line Zb3)
       rw [hs] at hSt
       have hs9:(⟨([115,116,114,105,107,101,32] ++ Zct (L.length:Int)).toArray⟩:ByteArray)=⟨#[115,116,114,105,107,101,32]⟩ ++ ⟨(Zct (L.length:Int)).toArray⟩:=by rw [show (#[115,116,114,105,107,101,32]:Array UInt8)=([115,116,114,105,107,101,32]:Bs).toArray from rfl,Zt2]
       unfold strV at hSt
       simp only [hs9] at hSt
       have r7:=hK10.b7.cell
       have l7:=hK10.b7.lt
       clear hs hs9
       have hIl:=Zh7 (L.length:Int)
       go_wp2_with (first
        | (go_at_call 43;refine (HPre.out _ _ _).mono ?_;rintro e w' ⟨rfl,rfl⟩)
        | (go_at_call 19;refine hSt.out.mono ?_;rintro e w11 ⟨rfl,hK11⟩)
        | (go_at_call 30;refine (HIt.out _ L.length hL30 hK11.q.vars).mono ?_;rintro e w12 ⟨rfl,hb12⟩;refine Za2 ?_))
       unfold Stop
       have hK20:=hK11.below hb12
       clear hK11 hK10 hb12 hSt r7 l7
       exact Q3
     ·have r7:=hK10.b7.cell
      have l7:=hK10.b7.lt
      have h3i:(r3.length:Int)=(L.length:Int) - 1:=by omega
      go_wp2_with (first
       | (go_at_call 43;refine (HPre.out _ _ _).mono ?_;rintro e w' ⟨rfl,rfl⟩)
       | (go_at_call 23;refine hK10.notes.mono ?_;rintro e w21 ⟨a21,c21,rfl,-,hK21⟩)
       | (go_at_call 13;refine hK21.alive.mono ?_;rintro e w27 ⟨rfl,hb27⟩))
      go_ret
      exact ⟨rfl,by rw [HN.out];exact hb27⟩
  ·have HNo5:=hd_ (HNo.out w5 HSh.out hvd hB5)
   clear hvd
   go_wp2_with (first
    | (refine Za0 27 (.tmp 3) Zge rfl rfl rfl bg5 rfl ?_)
    | (go_at_call 17;refine HNo5.out.mono ?_;rintro e w6 ⟨rfl,hb6⟩;have hB6:Below N w ((w6.alloc (.cells #[.pointer none] 38))):=by have:=hb6.size;exact (hB5.trans (hb6.mono om_)).alloc om_ _)
    | (go_at_call 13;refine (HAl.out _ (HVar.out _ hB6)).mono ?_;rintro e w7 ⟨rfl,hb7⟩)
    | (refine Zyf (by exact bg5) (fun _=>?_))
    | (refine o_ ?_;intro K hK)|(with_reducible first|refine Zyo ?_ ?_|refine Zyj ?_|refine Zyf bn_ (fun _=>?_)))
   go_ret
   exact ⟨rfl,by rw [HN.out];exact hB6.trans (hb7.mono (by have:=hb6.size;simp;omega))⟩
end Go.Proofs.YtbapgefodmmikaaGreatDoor
namespace Go.Proofs.YtbapgefodmmikaaGreatDoor
open Go.RowKit Go.Proofs
open Go.ChangeShapes Go.WideShapes Go.ChangeAt Go.RowKit Go.Deep Go.Joins
theorem Zp3 {α β:Type}{f:β→Option α}:∀ (l:List β) (cs:List α),l.mapM f=some cs→cs.length=l.length∧∀ (j:Nat) (b:β),l[j]? = some b→f b=cs[j]?
 | [],cs,h=>by
  simp only [List.mapM_nil,Option.pure_def,Option.some.injEq] at h
  subst h
  exact ⟨rfl,fun j b h=>by simp at h⟩
 | a :: l,cs,h=>by
  simp only [List.mapM_cons,Option.pure_def,Option.bind_eq_bind,Option.bind_eq_some_iff,Option.some.injEq] at h
  obtain ⟨c,e,r,hr,rfl⟩:=h
  obtain ⟨h1,h2⟩:=Zp3 l r hr
  refine ⟨by simp [h1],fun j b hj=>?_⟩
  cases j with
  | zero=>simp at hj;subst hj;simpa using e
  | succ j=>simpa using h2 j b (by simpa using hj)
section
variable {H:Type}{enc:TypeId × Value→H}{w:World}{base:Nat}{spare:Nat→Bool}{held:Bool}
theorem cellsN {a:Addr}{n:Nat}{cs:List Value}(h:w.cells? base a n=some cs):cs.length=n∧∀ j,j < n→w.cell? (a.add j)=cs[j]?:=by
 unfold World.cells? at h
 split at h
 ·obtain ⟨h1,h2⟩:=Zp3 _ _ h
  exact ⟨by simpa using h1,fun j hj=>h2 j j (by simp [hj])⟩
 ·cases h
theorem Zmm (b o j:Nat):(⟨b,o,none⟩:Addr).add j=⟨b,o+j,none⟩:=by unfold Addr.add;split <;> simp_all
theorem Zhk {α:Type} [Inhabited α] {t e:TypeId}{n:Nat}{cs:List Value}{y:DataW H × List MemPlace}(k:Nat) (ht:Tryz.prog.underlying t=some (.slice e)) (hc:Tryz.prog.cellsOf e=k+1) (f:α→List Value) (hf:∀ a,(f a).length=k+1)
  (hel:∀ n cs y,DataW.trod enc Tryz.prog w base spare held n e cs=some y→cs.length=k+1→∃ a,cs=f a) (h:DataW.trod enc Tryz.prog w base spare held n t cs=some y) :
  ∃ (l:List α) (a:Option Addr) (c:Nat),cs=[.slice a l.length c]∧l.length≤maxLen∧RowsAt w a (k+1) f l:=by
 rcases open_slice ht h with ⟨rfl,_⟩ | ⟨a,len,cap,m,n,D,Pl,rfl,_,hl,hm,hmm,_,hi⟩
 ·exact ⟨[],none,0,rfl,Nat.zero_le _,Zse none⟩
 ·have hlm:len≤m:=by rw [hmm];split <;> omega
  have key:∀ i,i < len→∃ x:α,∀ j,j < k+1→w.cell? ((a.add (i * (k+1))).add j)=(f x)[j]?:=by
   intro i hlt
   obtain ⟨cs',h1,h2⟩:=hi i om_
   rw [hc] at h1
   obtain ⟨hlen,hcell⟩:=cellsN h1
   obtain ⟨x,hx⟩:=hel _ _ _ h2 hlen
   exact ⟨x,fun j hj=>by rw [← hx];exact hcell j hj⟩
  obtain ⟨g,hg⟩:=choose_lt key
  refine ⟨(List.range len).map g,some a,cap,sp_,by simp;omega,fun i hlt=>?_⟩
  have hlt':i < len:=by simpa using hlt
  have hs:a.spot=none:=by
   have h0:=hg 0 om_ 0 om_
   have hl3:=hf (g 0)
   have:(f (g 0))[0]? = some ((f (g 0))[0]'om_):=List.getElem?_eq_getElem _
   rw [this] at h0
   simpa [Addr.add] using World.cell?_spot h0
  obtain ⟨gb,go,sp⟩:=a
  simp only at hs
  subst hs
  refine ⟨gb,go,rfl,fun j u hj=>?_⟩
  have hjn:j < k+1:=by
   by_cases hlt2:j < k+1
   ·exact hlt2
   ·exact Q2s
  have:=hg i hlt' j hjn
  rw [Zmm,Zmm] at this
  rw [this]
  simpa using hj
theorem Zqi {n:Nat}{cs:List Value}{y:DataW H × List MemPlace}(h:DataW.trod enc Tryz.prog w base spare held n 23 cs=some y) (hc:cs.length=2):∃ a,cs=Zax a:=by
 match cs,hc with
 | [c0,c1],_ =>
  obtain ⟨z0,z1,n,rfl,_,h2,h3⟩:=trod_struct2 Tryz.underlying23 h
  obtain ⟨lo,e1,_⟩:=DataW.trod_int Tryz.underlying3 h2
  obtain ⟨hi,e2,_⟩:=DataW.trod_int Tryz.underlying3 h3
  have k0:Tryz.prog.cellsOf 3=1:=by kernel_rfl
  simp [k0] at e1 e2
  subst e1 e2
  exact ⟨(lo,hi),rfl⟩
theorem list11 {α:Type}{l:List α}(h:l.length=11):∃ c0 c1 c2 c3 c4 c5 c6 c7 c8 c9 c10,l=[c0,c1,c2,c3,c4,c5,c6,c7,c8,c9,c10]:=by
 match l,h with
 | [c0,c1,c2,c3,c4,c5,c6,c7,c8,c9,c10],_=>exact ⟨c0,c1,c2,c3,c4,c5,c6,c7,c8,c9,c10,rfl⟩
theorem list10 {α:Type}{l:List α}(h:l.length=10):∃ c0 c1 c2 c3 c4 c5 c6 c7 c8 c9,l=[c0,c1,c2,c3,c4,c5,c6,c7,c8,c9]:=by
 match l,h with
 | [c0,c1,c2,c3,c4,c5,c6,c7,c8,c9],_=>exact ⟨c0,c1,c2,c3,c4,c5,c6,c7,c8,c9,rfl⟩
theorem Zts {r:Reach}{b0:Nat}{v:Value}{d:DataW H}{p:List MemPlace}(hv:Value.okWide Tryz.prog w r b0 27 v) (h:DataW.Trod enc Tryz.prog w base spare held 27 v d p) :
  ∃ (b:Ov) (sa:Option Addr) (sc:Nat) (fa:Option Addr) (fc:Nat),v=.agg (bgV b sa sc fa fc)∧RowsAt w sa 2 Zax b.strays∧RowsAt w fa 1 numL b.fl∧b.strays.length≤maxLen∧b.fl.length≤maxLen:=by
 have kC:Tryz.prog.cellsOf 27=11:=by kernel_rfl
 have k0:Tryz.prog.cellsOf 3=1:=by kernel_rfl
 have k1:Tryz.prog.cellsOf 23=2:=by kernel_rfl
 have k2:Tryz.prog.cellsOf 24=1:=by kernel_rfl
 have k3:Tryz.prog.cellsOf 25=1:=by kernel_rfl
 obtain ⟨cs,rfl,hsz⟩:=okWide_struct Tryz.underlying27 hv
 obtain ⟨fuel,hf⟩:=h
 obtain ⟨xs,n,_,_,hl,hlen,hx⟩:=DataW.trod_struct Tryz.underlying27 hf
 obtain ⟨cl⟩:=cs
 rw [kC] at hsz
 obtain ⟨c0,c1,c2,c3,c4,c5,c6,c7,c8,c9,c10,rfl⟩:=list11 (show cl.length=11 from hsz)
 obtain ⟨x0,x1,x2,x3,x4,x5,x6,x7,x8,x9,rfl⟩:=list10 (show xs.length=10 from hlen)
 have h0:=hx 0 _ rfl
 have h1:=hx 1 _ rfl
 have h2:=hx 2 _ rfl
 have h3:=hx 3 _ rfl
 have h4:=hx 4 _ rfl
 have h5:=hx 5 _ rfl
 have h6:=hx 6 _ rfl
 have h7:=hx 7 _ rfl
 have h8:=hx 8 _ rfl
 have h9:=hx 9 _ rfl
 simp only [Value.cells,k0,k1,k2,k3] at h0 h1 h2 h3 h4 h5 h6 h7 h8 h9
 obtain ⟨V,e0,_⟩:=DataW.trod_int Tryz.underlying3 h0
 obtain ⟨nd,e1,_⟩:=DataW.trod_int Tryz.underlying3 h1
 obtain ⟨z0,z1,n',_,_,g5,g6⟩:=trod_struct2 Tryz.underlying23 h2
 simp only [k0] at g5 g6
 obtain ⟨lo,e2,_⟩:=DataW.trod_int Tryz.underlying3 g5
 obtain ⟨hi,e3,_⟩:=DataW.trod_int Tryz.underlying3 g6
 obtain ⟨sh,e4,_⟩:=DataW.trod_int Tryz.underlying3 h3
 obtain ⟨most,e5,_⟩:=DataW.trod_int Tryz.underlying3 h4
 obtain ⟨strays,sa,sc,e6,hsl,hsr⟩:=Zhk 1 Tryz.underlying24 k1 Zax (fun _=>rfl) (fun n cs y hy hc=>Zqi hy hc) h5
 obtain ⟨fl,fa,fc,e7,hfl,hfr⟩:=Zhk 0 Tryz.underlying25 k0 numL (fun _=>rfl) (fun n cs y hy hc=>by obtain ⟨m,e,_⟩:=DataW.trod_int Tryz.underlying3 hy;exact ⟨m,e⟩) h6
 obtain ⟨may,e8,_⟩:=DataW.trod_int Tryz.underlying3 h7
 obtain ⟨drift,e9,_⟩:=DataW.trod_int Tryz.underlying3 h8
 obtain ⟨mist,e10,_⟩:=DataW.trod_int Tryz.underlying3 h9
 simp [k0,k1,k2,k3] at e0 e1 e2 e3 e4 e5 e6 e7 e8 e9 e10
 subst e0 e1 e2 e3 e4 e5 e6 e7 e8 e9 e10
 exact ⟨⟨V,nd,lo,hi,sh,most,strays,fl,may,drift,mist⟩,sa,sc,fa,fc,rfl,hsr,hfr,hsl,hfl⟩
theorem Zol (s:ByteArray):Value.string s=strV s.data.toList:=by
 obtain ⟨⟨l⟩⟩:=s
 rfl
instance:Inhabited { s:Bs // s.length≤maxLen }:=⟨⟨[],Nat.zero_le _⟩⟩
theorem Ztr {r:Reach}{b0:Nat}{v:Value}{d:DataW H}{p:List MemPlace}(hv:Value.okWide Tryz.prog w r b0 28 v) (h:DataW.Trod enc Tryz.prog w base spare held 28 v d p) :
  ∃ (l:List Bs) (a:Option Addr) (c:Nat),v=.slice a l.length c∧RowsAt w a 1 strL l∧l.length≤maxLen∧∀ x∈l,x.length≤maxLen:=by
 obtain ⟨a0,n0,c0,rfl⟩:=okWide_slice Tryz.underlying28 hv
 obtain ⟨fuel,hf⟩:=h
 have k1:Tryz.prog.cellsOf 9=0+1:=by kernel_rfl
 obtain ⟨l,a,c,e,hl,hr⟩:=Zhk (α:={ s:Bs // s.length≤maxLen }) 0 Tryz.underlying28 k1 (fun x=>strL x.1) (fun _=>rfl) (fun n cs y hy hc=>by
  obtain ⟨s,e,_,hw⟩:=DataW.trod_string Tryz.underlying9 hy
  exact ⟨⟨s.data.toList,by rw [Array.length_toList];exact hw⟩,by rw [e,Zol];rfl⟩) hf
 simp [Value.cells] at e
 obtain ⟨rfl,rfl,rfl⟩:=e
 refine ⟨l.map (·.1),a0,c0,sp_,fun i hi=>?_,by simpa using hl,fun x hx=>?_⟩
 ·have hi':i < l.length:=by simpa using hi
  obtain ⟨gb,go,h1,h2⟩:=hr i hi'
  exact ⟨gb,go,h1,fun j u hj=>h2 j u (by simpa using hj)⟩
 ·obtain ⟨y,_,rfl⟩:=List.mem_map.1 hx
  exact y.2
theorem Zvy {r:Reach}{b0:Nat}{v:Value}{d:DataW H}{p:List MemPlace}(hv:Value.okWide Tryz.prog w r b0 9 v) (h:DataW.Trod enc Tryz.prog w base spare held 9 v d p) :
  ∃ s:Bs,v=strV s∧s.length≤maxLen:=by
 obtain ⟨s,rfl,_,_,hs⟩:=Go.ChangeMaps.open_string Tryz.underlying9 hv h
 exact ⟨s.data.toList,Zol s,by rw [Array.length_toList];exact hs⟩
end
end Go.Proofs.YtbapgefodmmikaaGreatDoor
namespace Go.Proofs.YtbapgefodmmikaaGreatDoor
open Go.ChangeShapes Go.WideShapes Go.ChangeAt Go.RowKit Go.WideElems
def laid6 : List (String × DataW Unit) := [("math/bits.deBruijn32tab", Rows.laid_math_bits_deBruijn32tab), ("math/bits.deBruijn64tab", Rows.laid_math_bits_deBruijn64tab), ("internal/strconv.uint64pow10", Rows.laid_internal_strconv_uint64pow10), ("unicode/utf8.acceptRanges", Rows.laid_unicode_utf8_acceptRanges), ("strconv.ErrRange", Rows.laid_strconv_ErrRange), ("strconv.ErrSyntax", Rows.laid_strconv_ErrSyntax)]
def Zp8 : List (String × DataW Unit) := laid6 ++ [("unicode/utf8.first", Rows.laid_unicode_utf8_first)]
theorem Zh9 {W:World}{fuel:Nat}{cs:List Value}{s:String}{d:DataW Unit}{p:List MemPlace}(h:DataW.trod (fun _=>()) Tryz.prog W 0 (fun _=>true) false fuel 196 cs=some (.iface s d,p)):∃ te pe,cs=[.iface te pe]:=by
 cases fuel with
 | zero=>simp [DataW.trod] at h
 | succ f =>
  unfold DataW.trod at h
  rw [Tryz.underlying196] at h
  rcases cs with _ | ⟨x,_ | ⟨y,r⟩⟩
  ·simp at h
  ·cases x with
   | iface te pe=>exact ⟨te,pe,rfl⟩
   | _=>simp at h
  ·simp at h
theorem Zqn {W:World}{n:String}{g:Nat}{cs:Array Value}(hg:Tryz.prog.globalNamed n=some g) (h:W.var? Tryz.prog n=some cs):g < W.heap.size:=by
 unfold World.var? at h
 rw [hg] at h
 simp only [Option.bind_some] at h
 refine Decidable.byContradiction fun hn=>?_
 rw [Array.getElem?_eq_none om_] at h
 cases h
theorem vars_ok {W:World}{rest:List (String × DataW Unit)}(h:laidMet Tryz.prog (laid6 ++ rest) W) (hsh:W.ShapedOpen Tryz.prog):VarsOk W:=by
 obtain ⟨ps,⟨g0,t0,cs0,f0,p0,q0,hg0,ht0,hv0,hd0,⟨g1,t1,cs1,f1,p1,q1,hg1,ht1,hv1,hd1,⟨g2,t2,cs2,f2,p2,q2,hg2,ht2,hv2,hd2,⟨g3,t3,cs3,f3,p3,q3,hg3,ht3,hv3,hd3,⟨g4,t4,cs4,f4,p4,q4,hg4,ht4,hv4,hd4,⟨g5,t5,cs5,f5,p5,q5,hg5,ht5,hv5,hd5,-,-⟩,-⟩,-⟩,-⟩,-⟩,-⟩,-,-⟩:=h
 clear hd0 hd1 hd3 hv0 hv3 hg0 hg3 ht0 ht1 ht3
 have e1 : g1 = 8 := Option.some.inj (hg1.symm.trans (show Tryz.prog.globalNamed "math/bits.deBruijn64tab" = some 8 by kernel_rfl))
 subst e1
 have hsz:=Zqn hg1 hv1
 have hm:=cell_of_shapedOpen_int (P:=Tryz.prog) (w:=W) (g:=0) (t:=3) (zero:=#[()]) (k:=.i64) hsh (of_decide_eq_true kr_) kr_ rfl kr_ kr_ kr_
 have e2 : g2 = 4 := Option.some.inj (hg2.symm.trans (show Tryz.prog.globalNamed "internal/strconv.uint64pow10" = some 4 by kernel_rfl))
 have e4 : g4 = 6 := Option.some.inj (hg4.symm.trans (show Tryz.prog.globalNamed "strconv.ErrRange" = some 6 by kernel_rfl))
 have e5 : g5 = 5 := Option.some.inj (hg5.symm.trans (show Tryz.prog.globalNamed "strconv.ErrSyntax" = some 5 by kernel_rfl))
 subst e2 e4 e5
 have h4:t4=196:=Option.some.inj (ht4.symm.trans (show (Tryz.prog.globals[6]?).map (·.type)=some 196 by kernel_rfl))
 have h5:t5=196:=Option.some.inj (ht5.symm.trans (show (Tryz.prog.globals[5]?).map (·.type)=some 196 by kernel_rfl))
 have h2:t2=390:=Option.some.inj (ht2.symm.trans (show (Tryz.prog.globals[4]?).map (·.type)=some 390 by kernel_rfl))
 subst h2 h4 h5
 have hT : Lib.TabIs Tryz.prog W "internal/strconv.uint64pow10" .u64 Lib.pow10Tab := by
  unfold Lib.TabIs
  rw [hv2,← Lib.cells_of_tab (zs:=Lib.pow10Tab) Tryz.underlying390 Tryz.underlying281 kr_ kr_ hd2]
 obtain ⟨te4,pe4,hc4⟩:=Zh9 hd4
 obtain ⟨te5,pe5,hc5⟩:=Zh9 hd5
 have c4:=World.var?_cell hg4 hv4 0
 have c5:=World.var?_cell hg5 hv5 0
 rw [Array.eq_one_of_toList hc4] at c4
 rw [Array.eq_one_of_toList hc5] at c5
 exact ⟨hm,hT,⟨te5,pe5,by simpa using c5⟩,⟨te4,pe4,by simpa using c4⟩,hsz⟩
theorem own_knob:ownKnob Tryz.prog.godebug=none:=by kernel_rfl
end Go.Proofs.YtbapgefodmmikaaGreatDoor
namespace Go.Proofs.YtbapgefodmmikaaGreatDoor
open Go.ChangeShapes Go.WideShapes Go.ChangeAt Go.RowKit Go.WideElems Go.Deep
theorem lifts2 {a:Assume}{C:Checked}{os:Os}{f:FuncId}{fn:Func}{s:ChangeSpec}{conds:List PathCond}{apart fresh handsOn again:Bool}{X:World→Array Value→Prop}{H:Type}{enc:TypeId × Value→H}
  (hX:∀ (w w':World) (args:Array Value),w.heap=w'.heap→X w args→X w' args)
  (own:ownKnob C.prog.godebug=none) (started:os.Started) (noInit:C.prog.inits.idxOf? f=none) (hfn:C.prog.funcs[f]? = some fn)
  (witness:∃ (w:World) (tape:Tape) (i:Input),w.os=os∧(w.forCall tape i).Shaped C.prog∧i.vars=[]∧Input.okWide C.prog (w.forCall tape i) .any w.heap.size f i ∧
   ((s.pre enc C.prog fn conds apart (w.forCall tape i).memory i.args∧X (w.forCall tape i).memory i.args)∧sizedMet enc C.prog fn (OpenSpec.ofChange s) apart (w.forCall tape i).memory i.args)∧a.holds C.prog (lone (Frame.enter C.prog f i.args .normal) [] (w.forCall tape i)))
  (contract:∀ (W:World) (base:Nat) (args:Array Value) (ds gs:List (DataW H)) (before:List MemPlace),
   (∀ (j:Nat) t v,fn.params[j]? = some t→args[j]? = some v→Value.okWide C.prog W .any base t v) →
   DataW.Whole enc C.prog fn.params.toList s.vars apart W args.toList ds gs before→X W args→W.ShapedOpen C.prog→sizedMet enc C.prog fn (OpenSpec.ofChange s) apart W args →
   Calls C.prog f args W fun e W'=>∃ v,e=.returned v∧s.post enc C.prog fn apart fresh handsOn again W args v W') :
  ReturnsInHanded a C os f .any (fun w args=>(s.pre enc C.prog fn conds apart w args∧X w args)∧sizedMet enc C.prog fn (OpenSpec.ofChange s) apart w args) (s.post enc C.prog fn apart fresh handsOn again):=by
 refine returnsInHanded_of_calls own started noInit witness ?_
 intro w tape i _ hsh _ hok hpre hholds
 obtain ⟨_,_,_,fn',hfn',_,_,_,_,hval⟩:=hok
 have e:fn'=fn:=Option.some.inj (hfn'.symm.trans hfn)
 subst e
 obtain ⟨⟨⟨ds,gs,before,hw,hc⟩,hx⟩,hz⟩:=hpre
 have hw':=DataW.Whole.of_heap (w':=w.forCall tape i) (by rfl) hw
 refine (contract (w.forCall tape i) w.heap.size i.args ds gs before hval hw' (hX _ _ _ (by rfl) hx) hsh (hz.of_heap (by rfl))).mono fun e W' ⟨v,he,hp⟩=>?_
 subst he
 exact ChangeSpec.post_blind hp
theorem Zqm {H:Type}{enc:TypeId × Value→H}{w:World}{base:Nat}{spare:Nat→Bool}{held:Bool}{a:Option Addr}{n c:Nat}{d:DataW H}{p:List MemPlace}(h:DataW.Trod enc Tryz.prog w base spare held 28 (.slice a n c) d p) (hw:(d.weights Tryz.prog 28).all (·≤reachBytes)=true):(1+n) * 16≤140737488355328:=by
 obtain ⟨fuel,hf⟩:=h
 have k1:Tryz.prog.bytesOf 9=16:=by kernel_rfl
 rcases open_slice Tryz.underlying28 hf with ⟨e,_⟩ | ⟨a',len,cap,m,k,D,Pl,e,_,_,_,hm,hx,_⟩
 ·simp [Value.cells] at e
  omega
 ·simp [Value.cells] at e
  obtain ⟨rfl,rfl,rfl⟩:=e
  simp only [Prod.mk.injEq] at hx
  obtain ⟨rfl,rfl⟩:=hx
  unfold DataW.weights at hw
  rw [Tryz.underlying28] at hw
  simp only [List.all_cons,Bool.and_eq_true,decide_eq_true_eq,List.length_map,List.length_range,k1] at hw
  have:=hw.1
  unfold reachBytes at this
  have h2:n * 16≤(n+(m - n)) * 16:=Nat.mul_le_mul_right _ om_
  omega
end Go.Proofs.YtbapgefodmmikaaGreatDoor
