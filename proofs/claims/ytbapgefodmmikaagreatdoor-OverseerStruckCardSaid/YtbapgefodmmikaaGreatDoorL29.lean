/- Parts of a proof. -/
import Derived.Test.YtbapgefodmmikaaGreatDoorLMin
import Derived.Test.YtbapgefodmmikaaGreatDoorL28
import Derived.Test.YtbapgefodmmikaaGreatDoorL28
set_option linter.unusedVariables false
set_option linter.unusedSimpArgs false
set_option maxHeartbeats 40000000
set_option maxRecDepth 100000
namespace Go.Proofs.YtbapgefodmmikaaGreatDoor
open Go.RowKit Go.Proofs Go.Ord Tryz
attribute [local irreducible] Ord.walk
theorem setsT_eq:∀ K:Nat,K≤8→setsT K=Stab.bySize K:=Q29
theorem popT_eq:∀ x:Nat,x < 256→popT x=Stab.pop x:=by decide +kernel
theorem Zwz {t:Ty}(hk:tyOk t=true):Zbs t=match (Stab.bySize t.calls.length).find? (fun x=>canT (Zaa t (Zae t - x))) with
  | some s=>(((Stab.pop s:Nat),(s:Int)),0)
  | none=>((0,0),10):=by
 have hT:=Zcb hk
 obtain ⟨hall,hlen⟩:=Zjj hT.calls
 have h2:=Nat.pow_le_pow_right (show 0 < 2 by omega) hT.calls
 unfold Zbs
 rw [if_neg (by rw [hk];decide),setsT_eq _ hT.calls]
 cases hf:(Stab.bySize t.calls.length).find? (fun x=>canT (Zaa t (Zae t - x))) with
 | none=>rfl
 | some s =>
  have:=hall s (List.mem_of_find?_eq_some hf)
  simp only
  rw [popT_eq s om_]
section
variable (t:Ty) (sa:Option Addr) (sc:Nat) (ca:Option Addr) (cc:Nat) (w:World) (hr:RowsAt w sa 2 Zax t.strays) (hrc:RowsAt w ca 4 Zcn t.calls) (hls:t.strays.length≤9223372036854775807) (hlc:t.calls.length≤9223372036854775807)
include hr hrc hls hlc
theorem Zoh (hk:tyOk t=false) :
  Calls prog 38 #[.agg (tyV t sa sc ca cc)] w (Zfm ↑() ↑() (.int .i64 1) w):=by
 have HO:=hd_ (Zkz t sa sc ca cc w hr hrc hls hlc hk)
 have hmf:=hmf_ prog
 clear hr hrc hls hlc hk
 have bm0:Blk (w.alloc (.cells (tyV t sa sc ca cc) 58)) w.heap.size (tyV t sa sc ca cc) 58:=Blk.new _ _ _
 obtain ⟨W5,hW5⟩:∃ W5,((w.alloc (.cells (tyV t sa sc ca cc) 58)).alloc (.cells #[()] 31))=W5:=⟨_,rfl⟩
 have hB5:Below w.heap.size w W5:=by rw [← hW5];exact bel_
 have bm:Blk W5 w.heap.size (tyV t sa sc ca cc) 58:=by rw [← hW5];exact bm0.alloc _
 have b4:Blk W5 (w.heap.size+1) #[()] 31:=by rw [← hW5];exact Blk.new' _ _ _ _ sp_
 have hs5:W5.heap.size=w.heap.size+2:=by rw [← hW5];simp
 have hs5a:W5.heap.size≤w.heap.size+2∧w.heap.size+2≤W5.heap.size:=by omega
 clear hs5 bm0
 have HO5:=hd_ (HO.out W5 hB5)
 unfold tyV at *
 generalize t.strays.length=nl at *
 generalize t.calls.length=nc at *
 refine callsIn_wide.1 (callsIn_of_wp_marks (F:=Fence.wide) (n:=0) func38 rfl trivial (wpIn_wide.2 ?_) rfl)
 simp only [ntmps38,List.size_toArray,List.length_cons,List.length_nil,Nat.reduceAdd,Nat.reduceSub,Array.replicate_succ,Array.replicate_zero,List.push_toArray,List.append_toArray,List.nil_append,List.cons_append]
 go_wp2_with (first
  | (refine Za0 58 (.tmp 1) Zbh rfl rfl rfl bm rfl ?_)
  | (go_at_call 106;refine Za2 ?_))
 unfold Stop
 clear hW5
 refine HO5.out.mono ?_
 rintro e w6 ⟨rfl,hb6⟩
 have hB6:w w6:=hB5.trans (hb6.mono om_)
 refine Zal (pb:=w.heap.size+1) (v:=.tuple #[(),(),.int .i64 1]) Zfc (fun W=>by simp [go_sem]) rfl (b4.below hb6 b4.lt) fun w' hl hb=>⟨?_,rfl,Za3 hB6 hl (by have:=hb6.size;omega) (fun _ _ _=>om_)⟩
 have r4:=hb.cell
 simp [results,results38,go_sem,r4]
theorem Ztj (hk:tyOk t=true) :
  Calls prog 38 #[.agg (tyV t sa sc ca cc)] w (Zfm (.int .i64 (Zbs t).1.1) (.int .i64 (Zbs t).1.2) (.int .i64 (Zbs t).2) w):=by
 have HO:=hd_ (Zj8 t sa sc ca cc w hr hrc hls hlc hk)
 have hT:=Zcb hk
 rw [Zwz hk]
 have hmf:=hmf_ prog
 obtain ⟨hall,hlen⟩:=Zjj hT.calls
 have h2:=Nat.pow_le_pow_right (show 0 < 2 by omega) hT.calls
 have hle:∀ x∈Stab.bySize t.calls.length,x < 256:=fun x hx=>by have:=hall x hx;omega
 have HNo:Hid ((Stab.bySize t.calls.length).find? (fun x=>canT (Zaa t (Zae t - x)))=none→∀ {W0:World}{Y mb:Nat},Zbj W0 Y t sa sc ca cc mb→∀ W,LnT W0 mb t W→Calls prog 114 #[.pointer Y] W (Zig W0 mb t 10 W)):=fun hf _ _ _ hO W hW=>Zof hO _ hT hf W hW
 have HYs:Hid (∀ y,(Stab.bySize t.calls.length).find? (fun x=>canT (Zaa t (Zae t - x)))=some y→∀ {W0:World}{Y mb:Nat},Zbj W0 Y t sa sc ca cc mb→∀ W,LnT W0 mb t W→Calls prog 114 #[.pointer Y] W (Zkl W0 mb t (.int .u64 (y:Nat)) W)):=fun y hf _ _ _ hO W hW=>Zms hO _ hT y hf W hW
 have HB:=hd_ (fun z W (hz:z < 256)=>Zxt z hz W)
 have hmem:∀ y,(Stab.bySize t.calls.length).find? (fun x=>canT (Zaa t (Zae t - x)))=some y→y < 256:=fun y hf=>hle y (List.mem_of_find?_eq_some hf)
 generalize (Stab.bySize t.calls.length).find? (fun x=>canT (Zaa t (Zae t - x)))=FO at *
 clear hr hrc hls hlc hk hlen hall h2 hT hle
 have bm0:Blk (w.alloc (.cells (tyV t sa sc ca cc) 58)) w.heap.size (tyV t sa sc ca cc) 58:=Blk.new _ _ _
 obtain ⟨W5,hW5⟩:∃ W5,((w.alloc (.cells (tyV t sa sc ca cc) 58)).alloc (.cells #[()] 31))=W5:=⟨_,rfl⟩
 have hB5:Below w.heap.size w W5:=by rw [← hW5];exact bel_
 have bm:Blk W5 w.heap.size (tyV t sa sc ca cc) 58:=by rw [← hW5];exact bm0.alloc _
 have b4:Blk W5 (w.heap.size+1) #[()] 31:=by rw [← hW5];exact Blk.new' _ _ _ _ sp_
 have hs5:W5.heap.size=w.heap.size+2:=by rw [← hW5];simp
 have hs5a:W5.heap.size≤w.heap.size+2∧w.heap.size+2≤W5.heap.size:=by omega
 clear hs5 bm0
 have HO5:=hd_ (HO.out W5 hB5)
 unfold tyV at *
 generalize t.strays.length=nl at *
 generalize t.calls.length=nc at *
 refine callsIn_wide.1 (callsIn_of_wp_marks (F:=Fence.wide) (n:=0) func38 rfl trivial (wpIn_wide.2 ?_) rfl)
 simp only [ntmps38,List.size_toArray,List.length_cons,List.length_nil,Nat.reduceAdd,Nat.reduceSub,Array.replicate_succ,Array.replicate_zero,List.push_toArray,List.append_toArray,List.nil_append,List.cons_append]
 go_wp2_with (first
  | (refine Za0 58 (.tmp 1) Zbh rfl rfl rfl bm rfl ?_)
  | (go_at_call 106;refine Za2 ?_))
 unfold Stop
 clear hW5
 refine HO5.out.mono ?_
 rintro e w6 ⟨Y,mb,rfl,hb6,hOp,hY,hmb⟩
 have hB6:w w6:=hB5.trans (hb6.mono om_)
 have b46:=b4.below hb6 b4.lt
 have hmbl:=hOp.mb_lt
 have hs56:=hb6.size
 clear HO5 HO hb6
 cases FO with
 | none =>
  go_wp2_with (first
   | (go_at_call 114;refine Za2 ?_))
  unfold Stop
  refine (HNo.out (by first|rfl|trivial) hOp _ (LnT.start hOp)).mono ?_
  rintro e wa ⟨rfl,hLna,hla⟩
  refine Zal (pb:=w.heap.size+1) (v:=.tuple #[(),(),.int .i64 10]) Zfc (fun W=>by simp [go_sem]) rfl (hla.blk b46 om_) fun w' hl hb=>⟨?_,rfl,Za3 (Za3 hB6 hla om_ (fun _ _ _=>om_)) hl (by have:=hla.size;omega) (fun _ _ _=>om_)⟩
  have r4:=hb.cell
  simp [results,results38,go_sem,r4]
 | some y =>
  have hy:=hmem y (by first|rfl|trivial)
  have HY2:=hd_ (HYs.out y (by first|rfl|trivial) hOp _ (LnT.start hOp))
  have HB2:=hd_ (fun W=>HB.out y W hy)
  clear HNo HYs HB hmem
  obtain ⟨py,hpy⟩:∃ py,Stab.pop y=py:=⟨_,rfl⟩
  rw [hpy] at HB2
  have HPY:=hd_ hpy
  clear hpy
  go_wp2_with (first
   | (go_at_call 114;refine HY2.out.mono ?_;rintro e wa ⟨rfl,hLna,hla⟩;refine Za2 ?_))
  unfold Stop
  have b4a:=hla.blk b46 om_
  have r4a:=b4a.cell
  have f4a:=b4a.free
  have l4a:=b4a.lt
  have hBa:w wa:=Za3 hB6 hla om_ (fun _ _ _=>om_)
  go_wp2_with (first
   | (go_at_call 115;refine (HB2.out _).mono ?_;rintro e w' ⟨rfl,rfl⟩))
  obtain ⟨Wf,hWf⟩:∃ Wf,wa.setCell ⟨w.heap.size+1,0,none⟩ ↑()=Wf:=⟨_,rfl⟩
  have r4f:=(by rw [← hWf];exact b4a.set 0 _:Blk Wf (w.heap.size+1) #[()] 31).cell
  have hbf:Below w.heap.size w Wf:=by rw [← hWf];exact hBa.setCell (by simp only;omega) _
  change bodyPostM Fence.wide 0 prog _ _ .ret _ (wa.setCell ⟨w.heap.size+1,0,none⟩ ↑())
  rw [hWf]
  refine Zcd (pb:=w.heap.size+1) (v:=.tuple #[.int .i64 (py:Int),.int .i64 (y:Int),()]) Zfc (fun W=>by simp [go_sem]) rfl ?_ ⟨by rw [← HPY.out],hbf⟩
  simp [results,results38,go_sem,r4f]
theorem t_False:Calls prog 38 #[.agg (tyV t sa sc ca cc)] w (Zfm (.int .i64 (Zbs t).1.1) (.int .i64 (Zbs t).1.2) (.int .i64 (Zbs t).2) w):=by
 cases h:tyOk t with
 | false =>
  have:=Zoh t sa sc ca cc w hr hrc hls hlc h
  unfold Zbs
  rw [if_pos h]
  exact this
 | true=>exact Ztj t sa sc ca cc w hr hrc hls hlc h
end
def Zdn (t:Ty) (i:Int):Bool:=decide (0≤i∧i≤t.sh - 1)
def errT (t:Ty) (i:Int):Int:=if tyOk t=false then 1 else if Zdn t i=false then 2 else if canT (Zaa t (Zae t))=false then 10 else 0
theorem Zmh (t:Ty) (i:Int):((tyOk t=false∨Zdn t i=false)∧errT t i≠0∧errT t i=if tyOk t=false then 1 else 2)∨(tyOk t=true∧Zdn t i=true∧canT (Zaa t (Zae t))=false∧errT t i=10)∨(tyOk t=true∧Zdn t i=true∧canT (Zaa t (Zae t))=true∧errT t i=0):=by
 unfold errT
 cases tyOk t <;> cases Zdn t i <;> cases canT (Zaa t (Zae t)) <;> simp
theorem ofR_eq (pen:Bool) (t:Ty) (i:Int):ofR pen t i=if errT t i=0 then (Zgv (Zaa t (Zae t)) (cntX pen t.sh.toNat i.toNat).1 (cntX pen t.sh.toNat i.toNat).2,0) else ((0,0),errT t i):=by
 unfold ofR errT Zdn
 by_cases h1:tyOk t=false
 ·simp [h1]
 ·by_cases h2:i < 0∨t.sh≤i
  ·have hb:=decide_eq_false (show ¬ (0≤i∧i≤t.sh - 1) by omega)
   simp only [h1,h2,hb,if_false,if_true]
   simp
  ·have hb:=decide_eq_true (show 0≤i∧i≤t.sh - 1 by omega)
   simp only [h1,h2,hb,if_false]
   cases canT (Zaa t (Zae t)) <;> cases pen <;> simp [cntX]
theorem _root_.Q2q {p:Prop}(h:p:=by
 go_wp2_with (first
  | (go_at_call 108;refine H.out.mono ?_;rintro e w2 ⟨rfl,rfl⟩))
 go_ret
 exact ⟨rfl,rfl⟩):p:=h
theorem Zgh (i:Int) (p:Nat) {w:World}{Y:Nat}{t:Ty}{sa:Option Addr}{sc:Nat}{ca:Option Addr}{cc mb:Nat}(hc:tyOk t=true) (hO:Zbj w Y t sa sc ca cc mb) (hp:Blk w p #[i] 3) :
  Calls prog 107 #[.pointer Y,.pointer p] w (Same (.bool (Zdn t i)) w):=by
 have hT:=Zcb hc
 have H:=hd_ (Zgg hO.yard ⟨by have:=hT.sh;have:=hT.one;omega,by have:=hT.sh;have:=hT.five;omega⟩ i)
 have r:=hp.cell
 unfold Zdn
 generalize decide (0≤i∧i≤t.sh - 1)=v at *
 go_enter func107,ntmps107
 exact Q2q
theorem _root_.Qv {p:Prop}(h:p:=by
 rintro c ⟨tm,ds⟩ d v u ⟨o,ho,rfl⟩ h
 have hd:o.dst=some 7∨o.dst=some 8∨o.dst=some 9∨o.dst=some 10∨o.dst=some 11∨o.dst=some 12∨o.dst=some 13∨o.dst=some 14∨o.dst=some 15∨o.dst=none:=by
  simp only [List.mem_toArray,List.mem_cons,List.not_mem_nil,or_false] at ho
  rcases ho with rfl|rfl|rfl|rfl|rfl|rfl|rfl|rfl|rfl|rfl|rfl <;> simp
 unfold PanE at *
 rcases hd with e|e|e|e|e|e|e|e|e|e <;> rw [e] at h <;> simpa [Act.put,Array.getD_eq_getD_getElem?] using h):p:=h
theorem _root_.Q24 {p:Prop}(h:p:=by
 simp only [Array.getD_eq_getD_getElem?] at h4 h5
 have r4:=hb.cell
 have r3:=(hl.blk hs8 om_).cell
 unfold spV at *
 simp [results,results36,go_sem,h4,h5,r4,r3]):p:=h
theorem Zog (t:Ty) (sa:Option Addr) (sc:Nat) (ca:Option Addr) (cc:Nat) (i:Int) (w:World) (hr:RowsAt w sa 2 Zax t.strays) (hrc:RowsAt w ca 4 Zcn t.calls) (hls:t.strays.length≤9223372036854775807) (hlc:t.calls.length≤9223372036854775807) (hk:tyOk t=false∨Zdn t i=false) :
  Calls prog 36 #[.agg (tyV t sa sc ca cc),i] w (Zat (.agg (spV (0,0))) (.int .i64 (if tyOk t=false then 1 else 2)) w):=by
 have hmf:=hmf_ prog
 have HO:Hid (∀ W,Below w.heap.size w W→Blk W (w.heap.size+1) #[i] 3→Calls prog 106 #[.agg (tyV t sa sc ca cc),.func (.func 107) #[] #[.pointer ↑(w.heap.size+1)]] W (Zkk (if tyOk t=false then 1 else 2) W)):=fun W hb b1 =>
  (Zih t (Zdn t (i)) sa sc ca cc 107 #[.pointer ↑(w.heap.size+1)] W (hr.below hb) (hrc.below hb) hls hlc (fun args W=>call107 args W) (fun w' Y mb hb' hc hO=>Zgh (i) _ hc hO (b1.below hb' b1.lt))).mono fun e w' h=>Zhs h hk
 generalize (if tyOk t=false then (1:Int) else 2)=E at *
 clear hr hrc hls hlc hk
 obtain ⟨J,hJ⟩:∃ J,IntKind.i64.wrap (i+1)=J:=⟨_,rfl⟩
 have bm0:Blk (w.alloc (.cells (tyV t sa sc ca cc) 58)) w.heap.size (tyV t sa sc ca cc) 58:=Blk.new _ _ _
 obtain ⟨W5,hW5⟩:∃ W5,((((w.alloc (.cells (tyV t sa sc ca cc) 58)).alloc (.cells #[i] 3)).alloc (.cells #[(),()] 23)).alloc (.cells #[()] 31))=W5:=⟨_,rfl⟩
 have hB5:Below w.heap.size w W5:=by rw [← hW5];exact bel_
 have bm:Blk W5 w.heap.size (tyV t sa sc ca cc) 58:=by rw [← hW5];exact ((bm0.alloc _).alloc _).alloc _
 have b1:Blk W5 (w.heap.size+1) #[i] 3:=by rw [← hW5];exact (((Blk.new' _ _ _ _ sp_).alloc _).alloc _)
 have b3:Blk W5 (w.heap.size+2) (spV (0,0)) 23:=by rw [← hW5];exact (Blk.new' _ _ _ _ sp_).alloc _
 have b4:Blk W5 (w.heap.size+3) #[()] 31:=by rw [← hW5];exact Blk.new' _ _ _ _ sp_
 have hs5:W5.heap.size=w.heap.size+4:=by rw [← hW5];simp
 have hs5a:W5.heap.size≤w.heap.size+4∧w.heap.size+4≤W5.heap.size:=by omega
 clear hs5 bm0
 unfold tyV at *
 generalize t.strays.length=nl at *
 generalize t.calls.length=nc at *
 refine callsIn_wide.1 (callsIn_of_wp_marks (F:=Fence.wide) (n:=0) func36 rfl trivial (wpIn_wide.2 ?_) rfl)
 simp only [ntmps36,List.size_toArray,List.length_cons,List.length_nil,Nat.reduceAdd,Nat.reduceSub,Array.replicate_succ,Array.replicate_zero,List.push_toArray,List.append_toArray,List.nil_append,List.cons_append]
 go_wp2_with fail
 clear hW5
 have bmd:=bm.drew
 have b1d:=b1.drew
 have r1:=b1.cell
 have HO5:=hd_ (HO.out W5.drew hB5.drew b1.drew)
 refine wp_mono (Q:=PanE Zdz [{ target:=.fn (.func 104) #[.pointer ↑(w.heap.size+3)],args:=#[] }] 4 5 (.pointer ↑(w.heap.size+2)) (.pointer ↑(w.heap.size+3)) E (fun W=>Below w.heap.size w W∧Blk W (w.heap.size+3) #[()] 31∧Blk W (w.heap.size+2) (spV (0,0)) 23)) ?_ ?_
 ·refine Zyx [(0,0),(1,0),(3,1),(4,1),(5,1),(6,1),(7,1),(2,2),(8,2),(9,2),(10,2)] (fun W=>Blk W (w.heap.size+1) #[i] 3) kr_ kr_ ?_ b1.drew ?_
  ·exact Qv
  go_wp2_with (first
   | (refine Za0 58 (.tmp 2) Zbh rfl rfl rfl bmd rfl ?_)
   | (go_at_call 106;refine HO5.out.mono ?_;rintro e w6 ⟨rfl,hb6⟩;exact ⟨rfl,rfl,rfl,rfl,hB5.trans (hb6.undrew.mono om_),b4.drew.below hb6 b4.lt,b3.drew.below hb6 b3.lt⟩)
   | ((with_reducible refine Zye ?_);first|(refine Zyq (ad:=⟨w.heap.size+1,0,none⟩) ↑i rfl rfl ?_ ?_;(focus (intro W hW;have r:=hW.cell;simp [go_sem,r];done));intro K hK)|(refine Zyy (.int .i64 (J)) rfl (fun W=>by simp [go_sem,hJ];done) (fun K hK=>?_))|(refine Zyt rfl (.agg #[i,.int .i64 (J)]) ?_ ?_;(focus (intro W _;simp [go_sem,Zyr,Zys];done));intro K hK)|(refine Zyt rfl (.iface 166 (.agg #[i,.int .i64 (J)])) ?_ ?_;(focus (intro W _;simp [go_sem,Zyr,Zys];done));intro K hK))
   | (refine o_ ?_;intro K hK)|(with_reducible first|refine Zyo ?_ ?_|refine Zyj ?_|refine Zyf bn_ (fun _=>?_)))
 rintro e ⟨tm,ds⟩ w8 ⟨rfl,rfl,h4,h5,hb8,he8,hs8⟩
 refine Zal (v:=.tuple #[.agg (spV (0,0)),E]) Zfb (fun W=>by simp [go_sem]) rfl he8 fun w' hl hb=>⟨?_,rfl,Za3 hb8 hl nl_ (fun _ _ _=>om_)⟩
 exact Q24
theorem Zmv (t:Ty) (sa:Option Addr) (sc:Nat) (ca:Option Addr) (cc:Nat) (i:Int) (w:World) (hr:RowsAt w sa 2 Zax t.strays) (hrc:RowsAt w ca 4 Zcn t.calls) (hls:t.strays.length≤9223372036854775807) (hlc:t.calls.length≤9223372036854775807) (hk:tyOk t=true) (hi:Zdn t i=true) (hcan:canT (Zaa t (Zae t))=false) :
  Calls prog 36 #[.agg (tyV t sa sc ca cc),i] w (Zat (.agg (spV (0,0))) (.int .i64 10) w):=by
 have hmf:=hmf_ prog
 have HO:Hid (∀ W,Below w.heap.size w W→Blk W (w.heap.size+1) #[i] 3→Calls prog 106 #[.agg (tyV t sa sc ca cc),.func (.func 107) #[] #[.pointer ↑(w.heap.size+1)]] W (fun e w'=>∃ Y mb,e=.returned (.pointer (some ⟨Y,0,none⟩))∧Below W.heap.size W w'∧Zbj w' Y t sa sc ca cc mb∧W.heap.size≤Y∧W.heap.size≤mb)):=fun W hb b1 =>
  (Zih t (Zdn t (i)) sa sc ca cc 107 #[.pointer ↑(w.heap.size+1)] W (hr.below hb) (hrc.below hb) hls hlc (fun args W=>call107 args W) (fun w' Y mb hb' hc hO=>Zgh (i) _ hc hO (b1.below hb' b1.lt))).mono fun e w' h=>Zgz h hk hi
 have HWn:Hid (∀ {W0:World}{Y mb:Nat},Zbj W0 Y t sa sc ca cc mb→∀ v W,LnT W0 mb t W→Calls prog 109 #[.pointer (some ⟨Y,0,none⟩),v] W (Zig W0 mb t 10 W)):=fun hO v W hW=>Zvc hO _ (Zcb hk) hcan v W hW
 clear hr hrc hls hlc hk hi hcan
 obtain ⟨J,hJ⟩:∃ J,IntKind.i64.wrap (i+1)=J:=⟨_,rfl⟩
 have bm0:Blk (w.alloc (.cells (tyV t sa sc ca cc) 58)) w.heap.size (tyV t sa sc ca cc) 58:=Blk.new _ _ _
 obtain ⟨W5,hW5⟩:∃ W5,((((w.alloc (.cells (tyV t sa sc ca cc) 58)).alloc (.cells #[i] 3)).alloc (.cells #[(),()] 23)).alloc (.cells #[()] 31))=W5:=⟨_,rfl⟩
 have hB5:Below w.heap.size w W5:=by rw [← hW5];exact bel_
 have bm:Blk W5 w.heap.size (tyV t sa sc ca cc) 58:=by rw [← hW5];exact ((bm0.alloc _).alloc _).alloc _
 have b1:Blk W5 (w.heap.size+1) #[i] 3:=by rw [← hW5];exact (((Blk.new' _ _ _ _ sp_).alloc _).alloc _)
 have b3:Blk W5 (w.heap.size+2) (spV (0,0)) 23:=by rw [← hW5];exact (Blk.new' _ _ _ _ sp_).alloc _
 have b4:Blk W5 (w.heap.size+3) #[()] 31:=by rw [← hW5];exact Blk.new' _ _ _ _ sp_
 have hs5:W5.heap.size=w.heap.size+4:=by rw [← hW5];simp
 have hs5a:W5.heap.size≤w.heap.size+4∧w.heap.size+4≤W5.heap.size:=by omega
 clear hs5 bm0
 unfold tyV at *
 generalize t.strays.length=nl at *
 generalize t.calls.length=nc at *
 refine callsIn_wide.1 (callsIn_of_wp_marks (F:=Fence.wide) (n:=0) func36 rfl trivial (wpIn_wide.2 ?_) rfl)
 simp only [ntmps36,List.size_toArray,List.length_cons,List.length_nil,Nat.reduceAdd,Nat.reduceSub,Array.replicate_succ,Array.replicate_zero,List.push_toArray,List.append_toArray,List.nil_append,List.cons_append]
 go_wp2_with fail
 clear hW5
 have bmd:=bm.drew
 have b1d:=b1.drew
 have r1:=b1.cell
 have HO5:=hd_ (HO.out W5.drew hB5.drew b1.drew)
 refine wp_mono (Q:=PanE Zdz [{ target:=.fn (.func 104) #[.pointer ↑(w.heap.size+3)],args:=#[] }] 4 5 (.pointer ↑(w.heap.size+2)) (.pointer ↑(w.heap.size+3)) 10 (fun W=>Below w.heap.size w W∧Blk W (w.heap.size+3) #[()] 31∧Blk W (w.heap.size+2) (spV (0,0)) 23)) ?_ ?_
 ·refine Zyx [(0,0),(1,0),(3,1),(4,1),(5,1),(6,1),(7,1),(2,2),(8,2),(9,2),(10,2)] (fun W=>Blk W (w.heap.size+1) #[i] 3) kr_ kr_ ?_ b1.drew ?_
  ·exact Qv
  go_wp2_with (first
   | (refine Za0 58 (.tmp 2) Zbh rfl rfl rfl bmd rfl ?_)
   | (go_at_call 106;refine HO5.out.mono ?_;rintro e w6 ⟨Y,mb,rfl,hb6,hOp,hY,hmb⟩;(try simp only [World.size_drew] at hY hmb);have hH6:=b1.drew.below hb6 b1.lt)
   | (go_at_call 109;refine (HWn.out hOp _ _ (LnT.start hOp)).mono ?_;rintro e w7 ⟨rfl,hW7,hl7⟩;exact ⟨rfl,rfl,rfl,rfl,Za3 (hB5.trans (hb6.undrew.mono om_)) hl7 (by have:=hb6.undrew.size;omega) (fun _ _ _=>om_),hl7.blk (b4.drew.below hb6 b4.lt) om_,hl7.blk (b3.drew.below hb6 b3.lt) om_⟩)
   | ((with_reducible refine Zye ?_);first|(refine Zyq (ad:=⟨w.heap.size+1,0,none⟩) ↑i rfl rfl ?_ ?_;(focus (intro W hW;have r:=hW.cell;simp [go_sem,r];done));intro K hK)|(refine Zyy (.int .i64 (J)) rfl (fun W=>by simp [go_sem,hJ];done) (fun K hK=>?_))|(refine Zyt rfl (.agg #[i,.int .i64 (J)]) ?_ ?_;(focus (intro W _;simp [go_sem,Zyr,Zys];done));intro K hK)|(refine Zyt rfl (.iface 166 (.agg #[i,.int .i64 (J)])) ?_ ?_;(focus (intro W _;simp [go_sem,Zyr,Zys];done));intro K hK))
   | (refine o_ ?_;intro K hK)|(with_reducible first|refine Zyo ?_ ?_|refine Zyj ?_|refine Zyf bn_ (fun _=>?_)))
 rintro e ⟨tm,ds⟩ w8 ⟨rfl,rfl,h4,h5,hb8,he8,hs8⟩
 refine Zal (v:=.tuple #[.agg (spV (0,0)),.int .i64 10]) Zfb (fun W=>by simp [go_sem]) rfl he8 fun w' hl hb=>⟨?_,rfl,Za3 hb8 hl nl_ (fun _ _ _=>om_)⟩
 exact Q24
theorem Zth (t:Ty) (sa:Option Addr) (sc:Nat) (ca:Option Addr) (cc:Nat) (i:Nat) (w:World) (hr:RowsAt w sa 2 Zax t.strays) (hrc:RowsAt w ca 4 Zcn t.calls) (hls:t.strays.length≤9223372036854775807) (hlc:t.calls.length≤9223372036854775807) (hk:tyOk t=true) (hi:Zdn t (i:Int)=true) (hib:i < t.sh.toNat) (hcan:canT (Zaa t (Zae t))=true) :
  Calls prog 36 #[.agg (tyV t sa sc ca cc),i] w (Zat (.agg (spV (Zgv (Zaa t (Zae t)) (cntX false t.sh.toNat i).1 (cntX false t.sh.toNat i).2))) ↑() w):=by
 have hmf:=hmf_ prog
 have HO:Hid (∀ W,Below w.heap.size w W→Blk W (w.heap.size+1) #[.int .i64 ((i:Int))] 3→Calls prog 106 #[.agg (tyV t sa sc ca cc),.func (.func 107) #[] #[.pointer ↑(w.heap.size+1)]] W (fun e w'=>∃ Y mb,e=.returned (.pointer (some ⟨Y,0,none⟩))∧Below W.heap.size W w'∧Zbj w' Y t sa sc ca cc mb∧W.heap.size≤Y∧W.heap.size≤mb)):=fun W hb b1 =>
  (Zih t (Zdn t ((i:Int))) sa sc ca cc 107 #[.pointer ↑(w.heap.size+1)] W (hr.below hb) (hrc.below hb) hls hlc (fun args W=>call107 args W) (fun w' Y mb hb' hc hO=>Zgh ((i:Int)) _ hc hO (b1.below hb' b1.lt))).mono fun e w' h=>Zgz h hk hi
 have HWn:Hid (∀ {W0:World}{Y mb:Nat},Zbj W0 Y t sa sc ca cc mb→∀ W,LnT W0 mb t W→Calls prog 109 #[.pointer (some ⟨Y,0,none⟩),.iface 166 (.agg #[i,.int .i64 ((i+1:Nat):Int)])] W (Zkl W0 mb t (.agg (spV (Zgv (Zaa t (Zae t)) (cntX false t.sh.toNat i).1 (cntX false t.sh.toNat i).2))) W)):=fun hO W hW=>Zs7 false hO _ (Zcb hk) hcan i hib W hW
 generalize Zgv (Zaa t (Zae t)) (cntX false t.sh.toNat i).1 (cntX false t.sh.toNat i).2=S at *
 obtain ⟨s1,s2⟩:=S
 have h5:=(Zcb hk).five
 have hJ:IntKind.i64.wrap ((i:Int)+1)=((i+1:Nat):Int):=by rw [IntKind.wrap_i64];omega
 clear hr hrc hls hlc hk hi hcan
 generalize ((i+1:Nat):Int)=J at *
 have bm0:Blk (w.alloc (.cells (tyV t sa sc ca cc) 58)) w.heap.size (tyV t sa sc ca cc) 58:=Blk.new _ _ _
 obtain ⟨W5,hW5⟩:∃ W5,((((w.alloc (.cells (tyV t sa sc ca cc) 58)).alloc (.cells #[.int .i64 ((i:Int))] 3)).alloc (.cells #[(),()] 23)).alloc (.cells #[()] 31))=W5:=⟨_,rfl⟩
 have hB5:Below w.heap.size w W5:=by rw [← hW5];exact bel_
 have bm:Blk W5 w.heap.size (tyV t sa sc ca cc) 58:=by rw [← hW5];exact ((bm0.alloc _).alloc _).alloc _
 have b1:Blk W5 (w.heap.size+1) #[.int .i64 ((i:Int))] 3:=by rw [← hW5];exact (((Blk.new' _ _ _ _ sp_).alloc _).alloc _)
 have b3:Blk W5 (w.heap.size+2) (spV (0,0)) 23:=by rw [← hW5];exact (Blk.new' _ _ _ _ sp_).alloc _
 have b4:Blk W5 (w.heap.size+3) #[()] 31:=by rw [← hW5];exact Blk.new' _ _ _ _ sp_
 have hs5:W5.heap.size=w.heap.size+4:=by rw [← hW5];simp
 have hs5a:W5.heap.size≤w.heap.size+4∧w.heap.size+4≤W5.heap.size:=by omega
 clear hs5 bm0
 unfold tyV at *
 generalize t.strays.length=nl at *
 generalize t.calls.length=nc at *
 refine callsIn_wide.1 (callsIn_of_wp_marks (F:=Fence.wide) (n:=0) func36 rfl trivial (wpIn_wide.2 ?_) rfl)
 simp only [ntmps36,List.size_toArray,List.length_cons,List.length_nil,Nat.reduceAdd,Nat.reduceSub,Array.replicate_succ,Array.replicate_zero,List.push_toArray,List.append_toArray,List.nil_append,List.cons_append]
 go_wp2_with fail
 clear hW5
 have bmd:=bm.drew
 have b1d:=b1.drew
 have r1:=b1.cell
 have HO5:=hd_ (HO.out W5.drew hB5.drew b1.drew)
 have hH5:=b1.drew
 refine Zyu [(0,0),(1,0),(3,1),(4,1),(5,1),(6,1),(7,1),(2,2),(8,2),(9,2),(10,2)] (fun W=>Blk W (w.heap.size+1) #[i] 3) kr_ kr_ hH5 ?_
 go_wp2_with (first
   | (refine Za0 58 (.tmp 2) Zbh rfl rfl rfl bmd rfl ?_)
   | (go_at_call 106;refine HO5.out.mono ?_;rintro e w6 ⟨Y,mb,rfl,hb6,hOp,hY,hmb⟩;(try simp only [World.size_drew] at hY hmb);have hH6:=b1.drew.below hb6 b1.lt)
   | (go_at_call 109;refine (HWn.out hOp _ (LnT.start hOp)).mono ?_;rintro e w7 ⟨rfl,hW7,hl7⟩;have b3a:=hl7.blk (b3.drew.below hb6 b3.lt) om_;have b4a:=hl7.blk (b4.drew.below hb6 b4.lt) om_;have hH7:=hl7.blk hH6 om_)
   | (refine Za1 23 (.tmp 4) (.tmp 15) Zav rfl rfl rfl rfl b3a rfl rfl (by simp [spV,Value.oneCell']) ?_;intro wc hc;have b4c:=hc.other b4a om_;have r4c:=b4c.cell;have f4c:=b4c.free;have l4c:=b4c.lt;have hHc:=hc.other hH7 om_;have hHd:=hHc.other (p:=⟨w.heap.size+3,0,none⟩) sp_ ↑())
   | (with_reducible refine Zyp ?_)
   | ((with_reducible refine Zye ?_);first|(refine Zyq (ad:=⟨w.heap.size+1,0,none⟩) ↑i rfl rfl ?_ ?_;(focus (intro W hW;have r:=hW.cell;simp [go_sem,r];done));intro K hK)|(refine Zyy ↑J rfl (fun W=>by simp [go_sem,hJ];done) (fun K hK=>?_))|(refine Zyt rfl (.agg #[.int .i64 ((i:Int)),J]) ?_ ?_;(focus (intro W _;simp [go_sem,Zyr,Zys];done));intro K hK)|(refine Zyt rfl (.iface 166 (.agg #[.int .i64 ((i:Int)),J])) ?_ ?_;(focus (intro W _;simp [go_sem,Zyr,Zys];done));intro K hK))
   | (refine o_ ?_;intro K hK)|(with_reducible first|refine Zyo ?_ ?_|refine Zyj ?_|refine Zyf bn_ (fun _=>?_)))
 obtain ⟨Wf,hWf⟩:∃ Wf,wc.setCell ⟨w.heap.size+3,0,none⟩ ↑()=Wf:=⟨_,rfl⟩
 have r3f:=(by rw [← hWf];exact (hc.blk).other (by simp only;omega) _:Blk Wf (w.heap.size+2) (spV (s1,s2)) 23).cell
 have r4f:=(by rw [← hWf];exact b4c.set 0 _:Blk Wf (w.heap.size+3) #[()] 31).cell
 have hlc2:Lets (fun k _=>k=w.heap.size+2∨k=w.heap.size+3) w7 Wf:=by rw [← hWf];exact ((Lets.refl _ _).rowed hc (.inl rfl)).setCell (.inr rfl) _
 have hl6:Lets (fun k _=>w.heap.size≤k) w w6:=Lets.of_below (hB5.trans (hb6.undrew.mono om_))
 have hbf:Below w.heap.size w Wf:=((hl6.trans (hl7.mono fun _ _ e=>om_)).trans (hlc2.mono fun _ _ e=>om_)).below nl_ (fun k hk e=>om_)
 change bodyPostM Fence.wide 0 prog _ _ .ret _ (wc.setCell ⟨w.heap.size+3,0,none⟩ ↑())
 rw [hWf]
 refine Zcd (pb:=w.heap.size+1+1+1) (v:=.tuple #[.agg (spV (s1,s2)),()]) Zfb (fun W=>by simp [go_sem]) rfl ?_ ⟨rfl,hbf⟩
 unfold spV at *
 simp [results,results36,go_sem,r3f,r4f]
theorem t_Shorn (t:Ty) (sa:Option Addr) (sc:Nat) (ca:Option Addr) (cc:Nat) (i:Int) (w:World) (hr:RowsAt w sa 2 Zax t.strays) (hrc:RowsAt w ca 4 Zcn t.calls) (hls:t.strays.length≤9223372036854775807) (hlc:t.calls.length≤9223372036854775807) :
  Calls prog 36 #[.agg (tyV t sa sc ca cc),i] w (Zat (.agg (spV (ofR false t i).1)) (.int .i64 (ofR false t i).2) w):=by
 rw [ofR_eq]
 rcases Zmh t i with ⟨h1,h2,h3⟩ | ⟨hv,hi,hk,h2⟩ | ⟨hv,hi,hk,h2⟩
 ·rw [if_neg h2,h3];exact Zog t sa sc ca cc i w hr hrc hls hlc h1
 ·rw [h2,if_neg sp_];exact Zmv t sa sc ca cc i w hr hrc hls hlc hv hi hk
 ·rw [if_pos h2]
  have hd:=of_decide_eq_true hi
  obtain ⟨n,rfl⟩:∃ n:Nat,i=(n:Int):=⟨i.toNat,om_⟩
  exact Zth t sa sc ca cc n w hr hrc hls hlc hv hi om_ hk
theorem Zj9 (i:Int) (p:Nat) {w:World}{Y:Nat}{t:Ty}{sa:Option Addr}{sc:Nat}{ca:Option Addr}{cc mb:Nat}(hc:tyOk t=true) (hO:Zbj w Y t sa sc ca cc mb) (hp:Blk w p #[i] 3) :
  Calls prog 111 #[.pointer Y,.pointer p] w (Same (.bool (Zdn t i)) w):=by
 have hT:=Zcb hc
 have H:=hd_ (Zgg hO.yard ⟨by have:=hT.sh;have:=hT.one;omega,by have:=hT.sh;have:=hT.five;omega⟩ i)
 have r:=hp.cell
 unfold Zdn
 generalize decide (0≤i∧i≤t.sh - 1)=v at *
 go_enter func111,ntmps111
 exact Q2q
theorem _root_.Qu {p:Prop}(h:p:=by
 rintro c ⟨tm,ds⟩ d v u ⟨o,ho,rfl⟩ h
 have hd:o.dst=some 7∨o.dst=some 8∨o.dst=some 9∨o.dst=some 10∨o.dst=some 11∨o.dst=some 12∨o.dst=some 13∨o.dst=some 14∨o.dst=some 15∨o.dst=some 16∨o.dst=none:=by
  simp only [List.mem_toArray,List.mem_cons,List.not_mem_nil,or_false] at ho
  rcases ho with rfl|rfl|rfl|rfl|rfl|rfl|rfl|rfl|rfl|rfl|rfl|rfl <;> simp
 unfold PanE at *
 rcases hd with e|e|e|e|e|e|e|e|e|e|e <;> rw [e] at h <;> simpa [Act.put,Array.getD_eq_getD_getElem?] using h):p:=h
theorem _root_.Q25 {p:Prop}(h:p:=by
 simp only [Array.getD_eq_getD_getElem?] at h4 h5
 have r4:=hb.cell
 have r3:=(hl.blk hs8 om_).cell
 unfold spV at *
 simp [results,results37,go_sem,h4,h5,r4,r3]):p:=h
theorem Zti (t:Ty) (sa:Option Addr) (sc:Nat) (ca:Option Addr) (cc:Nat) (i:Int) (w:World) (hr:RowsAt w sa 2 Zax t.strays) (hrc:RowsAt w ca 4 Zcn t.calls) (hls:t.strays.length≤9223372036854775807) (hlc:t.calls.length≤9223372036854775807) (hk:tyOk t=false∨Zdn t i=false) :
  Calls prog 37 #[.agg (tyV t sa sc ca cc),i] w (Zat (.agg (spV (0,0))) (.int .i64 (if tyOk t=false then 1 else 2)) w):=by
 have hmf:=hmf_ prog
 have HO:Hid (∀ W,Below w.heap.size w W→Blk W (w.heap.size+1) #[i] 3→Calls prog 106 #[.agg (tyV t sa sc ca cc),.func (.func 111) #[] #[.pointer ↑(w.heap.size+1)]] W (Zkk (if tyOk t=false then 1 else 2) W)):=fun W hb b1 =>
  (Zih t (Zdn t (i)) sa sc ca cc 111 #[.pointer ↑(w.heap.size+1)] W (hr.below hb) (hrc.below hb) hls hlc (fun args W=>call111 args W) (fun w' Y mb hb' hc hO=>Zj9 (i) _ hc hO (b1.below hb' b1.lt))).mono fun e w' h=>Zhs h hk
 generalize (if tyOk t=false then (1:Int) else 2)=E at *
 clear hr hrc hls hlc hk
 obtain ⟨J,hJ⟩:∃ J,IntKind.i64.wrap (i+1)=J:=⟨_,rfl⟩
 have bm0:Blk (w.alloc (.cells (tyV t sa sc ca cc) 58)) w.heap.size (tyV t sa sc ca cc) 58:=Blk.new _ _ _
 obtain ⟨W5,hW5⟩:∃ W5,((((w.alloc (.cells (tyV t sa sc ca cc) 58)).alloc (.cells #[i] 3)).alloc (.cells #[(),()] 23)).alloc (.cells #[()] 31))=W5:=⟨_,rfl⟩
 have hB5:Below w.heap.size w W5:=by rw [← hW5];exact bel_
 have bm:Blk W5 w.heap.size (tyV t sa sc ca cc) 58:=by rw [← hW5];exact ((bm0.alloc _).alloc _).alloc _
 have b1:Blk W5 (w.heap.size+1) #[i] 3:=by rw [← hW5];exact (((Blk.new' _ _ _ _ sp_).alloc _).alloc _)
 have b3:Blk W5 (w.heap.size+2) (spV (0,0)) 23:=by rw [← hW5];exact (Blk.new' _ _ _ _ sp_).alloc _
 have b4:Blk W5 (w.heap.size+3) #[()] 31:=by rw [← hW5];exact Blk.new' _ _ _ _ sp_
 have hs5:W5.heap.size=w.heap.size+4:=by rw [← hW5];simp
 have hs5a:W5.heap.size≤w.heap.size+4∧w.heap.size+4≤W5.heap.size:=by omega
 clear hs5 bm0
 unfold tyV at *
 generalize t.strays.length=nl at *
 generalize t.calls.length=nc at *
 refine callsIn_wide.1 (callsIn_of_wp_marks (F:=Fence.wide) (n:=0) func37 rfl trivial (wpIn_wide.2 ?_) rfl)
 simp only [ntmps37,List.size_toArray,List.length_cons,List.length_nil,Nat.reduceAdd,Nat.reduceSub,Array.replicate_succ,Array.replicate_zero,List.push_toArray,List.append_toArray,List.nil_append,List.cons_append]
 go_wp2_with fail
 clear hW5
 have bmd:=bm.drew
 have b1d:=b1.drew
 have r1:=b1.cell
 have HO5:=hd_ (HO.out W5.drew hB5.drew b1.drew)
 refine wp_mono (Q:=PanE Zdz [{ target:=.fn (.func 110) #[.pointer ↑(w.heap.size+3)],args:=#[] }] 4 5 (.pointer ↑(w.heap.size+2)) (.pointer ↑(w.heap.size+3)) E (fun W=>Below w.heap.size w W∧Blk W (w.heap.size+3) #[()] 31∧Blk W (w.heap.size+2) (spV (0,0)) 23)) ?_ ?_
 ·refine Zyx [(0,0),(1,0),(3,1),(4,1),(5,1),(6,1),(7,1),(8,1),(2,2),(9,2),(10,2),(11,2)] (fun W=>Blk W (w.heap.size+1) #[i] 3) kr_ kr_ ?_ b1.drew ?_
  ·exact Qu
  go_wp2_with (first
   | (refine Za0 58 (.tmp 2) Zbh rfl rfl rfl bmd rfl ?_)
   | (go_at_call 106;refine HO5.out.mono ?_;rintro e w6 ⟨rfl,hb6⟩;exact ⟨rfl,rfl,rfl,rfl,hB5.trans (hb6.undrew.mono om_),b4.drew.below hb6 b4.lt,b3.drew.below hb6 b3.lt⟩)
   | ((with_reducible refine Zye ?_);first|(refine Zyq (ad:=⟨w.heap.size+1,0,none⟩) ↑i rfl rfl ?_ ?_;(focus (intro W hW;have r:=hW.cell;simp [go_sem,r];done));intro K hK)|(refine Zyy (.int .i64 (J)) rfl (fun W=>by simp [go_sem,hJ];done) (fun K hK=>?_))|(refine Zyt rfl (.agg #[i,.int .i64 (J)]) ?_ ?_;(focus (intro W _;simp [go_sem,Zyr,Zys];done));intro K hK)|(refine Zyt rfl (.iface 168 (.agg #[i,.int .i64 (J)])) ?_ ?_;(focus (intro W _;simp [go_sem,Zyr,Zys];done));intro K hK))
   | (refine o_ ?_;intro K hK)|(with_reducible first|refine Zyo ?_ ?_|refine Zyj ?_|refine Zyf bn_ (fun _=>?_)))
 rintro e ⟨tm,ds⟩ w8 ⟨rfl,rfl,h4,h5,hb8,he8,hs8⟩
 refine Zal (v:=.tuple #[.agg (spV (0,0)),E]) Zi7 (fun W=>by simp [go_sem]) rfl he8 fun w' hl hb=>⟨?_,rfl,Za3 hb8 hl nl_ (fun _ _ _=>om_)⟩
 exact Q25
theorem Zqj (t:Ty) (sa:Option Addr) (sc:Nat) (ca:Option Addr) (cc:Nat) (i:Int) (w:World) (hr:RowsAt w sa 2 Zax t.strays) (hrc:RowsAt w ca 4 Zcn t.calls) (hls:t.strays.length≤9223372036854775807) (hlc:t.calls.length≤9223372036854775807) (hk:tyOk t=true) (hi:Zdn t i=true) (hcan:canT (Zaa t (Zae t))=false) :
  Calls prog 37 #[.agg (tyV t sa sc ca cc),i] w (Zat (.agg (spV (0,0))) (.int .i64 10) w):=by
 have hmf:=hmf_ prog
 have HO:Hid (∀ W,Below w.heap.size w W→Blk W (w.heap.size+1) #[i] 3→Calls prog 106 #[.agg (tyV t sa sc ca cc),.func (.func 111) #[] #[.pointer ↑(w.heap.size+1)]] W (fun e w'=>∃ Y mb,e=.returned (.pointer (some ⟨Y,0,none⟩))∧Below W.heap.size W w'∧Zbj w' Y t sa sc ca cc mb∧W.heap.size≤Y∧W.heap.size≤mb)):=fun W hb b1 =>
  (Zih t (Zdn t (i)) sa sc ca cc 111 #[.pointer ↑(w.heap.size+1)] W (hr.below hb) (hrc.below hb) hls hlc (fun args W=>call111 args W) (fun w' Y mb hb' hc hO=>Zj9 (i) _ hc hO (b1.below hb' b1.lt))).mono fun e w' h=>Zgz h hk hi
 have HWn:Hid (∀ {W0:World}{Y mb:Nat},Zbj W0 Y t sa sc ca cc mb→∀ v W,LnT W0 mb t W→Calls prog 109 #[.pointer (some ⟨Y,0,none⟩),v] W (Zig W0 mb t 10 W)):=fun hO v W hW=>Zvc hO _ (Zcb hk) hcan v W hW
 clear hr hrc hls hlc hk hi hcan
 obtain ⟨J,hJ⟩:∃ J,IntKind.i64.wrap (i+1)=J:=⟨_,rfl⟩
 have bm0:Blk (w.alloc (.cells (tyV t sa sc ca cc) 58)) w.heap.size (tyV t sa sc ca cc) 58:=Blk.new _ _ _
 obtain ⟨W5,hW5⟩:∃ W5,((((w.alloc (.cells (tyV t sa sc ca cc) 58)).alloc (.cells #[i] 3)).alloc (.cells #[(),()] 23)).alloc (.cells #[()] 31))=W5:=⟨_,rfl⟩
 have hB5:Below w.heap.size w W5:=by rw [← hW5];exact bel_
 have bm:Blk W5 w.heap.size (tyV t sa sc ca cc) 58:=by rw [← hW5];exact ((bm0.alloc _).alloc _).alloc _
 have b1:Blk W5 (w.heap.size+1) #[i] 3:=by rw [← hW5];exact (((Blk.new' _ _ _ _ sp_).alloc _).alloc _)
 have b3:Blk W5 (w.heap.size+2) (spV (0,0)) 23:=by rw [← hW5];exact (Blk.new' _ _ _ _ sp_).alloc _
 have b4:Blk W5 (w.heap.size+3) #[()] 31:=by rw [← hW5];exact Blk.new' _ _ _ _ sp_
 have hs5:W5.heap.size=w.heap.size+4:=by rw [← hW5];simp
 have hs5a:W5.heap.size≤w.heap.size+4∧w.heap.size+4≤W5.heap.size:=by omega
 clear hs5 bm0
 unfold tyV at *
 generalize t.strays.length=nl at *
 generalize t.calls.length=nc at *
 refine callsIn_wide.1 (callsIn_of_wp_marks (F:=Fence.wide) (n:=0) func37 rfl trivial (wpIn_wide.2 ?_) rfl)
 simp only [ntmps37,List.size_toArray,List.length_cons,List.length_nil,Nat.reduceAdd,Nat.reduceSub,Array.replicate_succ,Array.replicate_zero,List.push_toArray,List.append_toArray,List.nil_append,List.cons_append]
 go_wp2_with fail
 clear hW5
 have bmd:=bm.drew
 have b1d:=b1.drew
 have r1:=b1.cell
 have HO5:=hd_ (HO.out W5.drew hB5.drew b1.drew)
 refine wp_mono (Q:=PanE Zdz [{ target:=.fn (.func 110) #[.pointer ↑(w.heap.size+3)],args:=#[] }] 4 5 (.pointer ↑(w.heap.size+2)) (.pointer ↑(w.heap.size+3)) 10 (fun W=>Below w.heap.size w W∧Blk W (w.heap.size+3) #[()] 31∧Blk W (w.heap.size+2) (spV (0,0)) 23)) ?_ ?_
 ·refine Zyx [(0,0),(1,0),(3,1),(4,1),(5,1),(6,1),(7,1),(8,1),(2,2),(9,2),(10,2),(11,2)] (fun W=>Blk W (w.heap.size+1) #[i] 3) kr_ kr_ ?_ b1.drew ?_
  ·exact Qu
  go_wp2_with (first
   | (refine Za0 58 (.tmp 2) Zbh rfl rfl rfl bmd rfl ?_)
   | (go_at_call 106;refine HO5.out.mono ?_;rintro e w6 ⟨Y,mb,rfl,hb6,hOp,hY,hmb⟩;(try simp only [World.size_drew] at hY hmb);have hH6:=b1.drew.below hb6 b1.lt)
   | (go_at_call 109;refine (HWn.out hOp _ _ (LnT.start hOp)).mono ?_;rintro e w7 ⟨rfl,hW7,hl7⟩;exact ⟨rfl,rfl,rfl,rfl,Za3 (hB5.trans (hb6.undrew.mono om_)) hl7 (by have:=hb6.undrew.size;omega) (fun _ _ _=>om_),hl7.blk (b4.drew.below hb6 b4.lt) om_,hl7.blk (b3.drew.below hb6 b3.lt) om_⟩)
   | ((with_reducible refine Zye ?_);first|(refine Zyq (ad:=⟨w.heap.size+1,0,none⟩) ↑i rfl rfl ?_ ?_;(focus (intro W hW;have r:=hW.cell;simp [go_sem,r];done));intro K hK)|(refine Zyy (.int .i64 (J)) rfl (fun W=>by simp [go_sem,hJ];done) (fun K hK=>?_))|(refine Zyt rfl (.agg #[i,.int .i64 (J)]) ?_ ?_;(focus (intro W _;simp [go_sem,Zyr,Zys];done));intro K hK)|(refine Zyt rfl (.iface 168 (.agg #[i,.int .i64 (J)])) ?_ ?_;(focus (intro W _;simp [go_sem,Zyr,Zys];done));intro K hK))
   | (refine o_ ?_;intro K hK)|(with_reducible first|refine Zyo ?_ ?_|refine Zyj ?_|refine Zyf bn_ (fun _=>?_)))
 rintro e ⟨tm,ds⟩ w8 ⟨rfl,rfl,h4,h5,hb8,he8,hs8⟩
 refine Zal (v:=.tuple #[.agg (spV (0,0)),.int .i64 10]) Zi7 (fun W=>by simp [go_sem]) rfl he8 fun w' hl hb=>⟨?_,rfl,Za3 hb8 hl nl_ (fun _ _ _=>om_)⟩
 exact Q25
theorem t_Pen_ok (t:Ty) (sa:Option Addr) (sc:Nat) (ca:Option Addr) (cc:Nat) (i:Nat) (w:World) (hr:RowsAt w sa 2 Zax t.strays) (hrc:RowsAt w ca 4 Zcn t.calls) (hls:t.strays.length≤9223372036854775807) (hlc:t.calls.length≤9223372036854775807) (hk:tyOk t=true) (hi:Zdn t (i:Int)=true) (hib:i < t.sh.toNat) (hcan:canT (Zaa t (Zae t))=true) :
  Calls prog 37 #[.agg (tyV t sa sc ca cc),i] w (Zat (.agg (spV (Zgv (Zaa t (Zae t)) (cntX true t.sh.toNat i).1 (cntX true t.sh.toNat i).2))) ↑() w):=by
 have hmf:=hmf_ prog
 have HO:Hid (∀ W,Below w.heap.size w W→Blk W (w.heap.size+1) #[.int .i64 ((i:Int))] 3→Calls prog 106 #[.agg (tyV t sa sc ca cc),.func (.func 111) #[] #[.pointer ↑(w.heap.size+1)]] W (fun e w'=>∃ Y mb,e=.returned (.pointer (some ⟨Y,0,none⟩))∧Below W.heap.size W w'∧Zbj w' Y t sa sc ca cc mb∧W.heap.size≤Y∧W.heap.size≤mb)):=fun W hb b1 =>
  (Zih t (Zdn t ((i:Int))) sa sc ca cc 111 #[.pointer ↑(w.heap.size+1)] W (hr.below hb) (hrc.below hb) hls hlc (fun args W=>call111 args W) (fun w' Y mb hb' hc hO=>Zj9 ((i:Int)) _ hc hO (b1.below hb' b1.lt))).mono fun e w' h=>Zgz h hk hi
 have HWn:Hid (∀ {W0:World}{Y mb:Nat},Zbj W0 Y t sa sc ca cc mb→∀ W,LnT W0 mb t W→Calls prog 109 #[.pointer (some ⟨Y,0,none⟩),.iface 168 (.agg #[i,.int .i64 ((i+1:Nat):Int)])] W (Zkl W0 mb t (.agg (spV (Zgv (Zaa t (Zae t)) (cntX true t.sh.toNat i).1 (cntX true t.sh.toNat i).2))) W)):=fun hO W hW=>Zs7 true hO _ (Zcb hk) hcan i hib W hW
 generalize Zgv (Zaa t (Zae t)) (cntX true t.sh.toNat i).1 (cntX true t.sh.toNat i).2=S at *
 obtain ⟨s1,s2⟩:=S
 have h5:=(Zcb hk).five
 have hJ:IntKind.i64.wrap ((i:Int)+1)=((i+1:Nat):Int):=by rw [IntKind.wrap_i64];omega
 clear hr hrc hls hlc hk hi hcan
 generalize ((i+1:Nat):Int)=J at *
 have bm0:Blk (w.alloc (.cells (tyV t sa sc ca cc) 58)) w.heap.size (tyV t sa sc ca cc) 58:=Blk.new _ _ _
 obtain ⟨W5,hW5⟩:∃ W5,((((w.alloc (.cells (tyV t sa sc ca cc) 58)).alloc (.cells #[.int .i64 ((i:Int))] 3)).alloc (.cells #[(),()] 23)).alloc (.cells #[()] 31))=W5:=⟨_,rfl⟩
 have hB5:Below w.heap.size w W5:=by rw [← hW5];exact bel_
 have bm:Blk W5 w.heap.size (tyV t sa sc ca cc) 58:=by rw [← hW5];exact ((bm0.alloc _).alloc _).alloc _
 have b1:Blk W5 (w.heap.size+1) #[.int .i64 ((i:Int))] 3:=by rw [← hW5];exact (((Blk.new' _ _ _ _ sp_).alloc _).alloc _)
 have b3:Blk W5 (w.heap.size+2) (spV (0,0)) 23:=by rw [← hW5];exact (Blk.new' _ _ _ _ sp_).alloc _
 have b4:Blk W5 (w.heap.size+3) #[()] 31:=by rw [← hW5];exact Blk.new' _ _ _ _ sp_
 have hs5:W5.heap.size=w.heap.size+4:=by rw [← hW5];simp
 have hs5a:W5.heap.size≤w.heap.size+4∧w.heap.size+4≤W5.heap.size:=by omega
 clear hs5 bm0
 unfold tyV at *
 generalize t.strays.length=nl at *
 generalize t.calls.length=nc at *
 refine callsIn_wide.1 (callsIn_of_wp_marks (F:=Fence.wide) (n:=0) func37 rfl trivial (wpIn_wide.2 ?_) rfl)
 simp only [ntmps37,List.size_toArray,List.length_cons,List.length_nil,Nat.reduceAdd,Nat.reduceSub,Array.replicate_succ,Array.replicate_zero,List.push_toArray,List.append_toArray,List.nil_append,List.cons_append]
 go_wp2_with fail
 clear hW5
 have bmd:=bm.drew
 have b1d:=b1.drew
 have r1:=b1.cell
 have HO5:=hd_ (HO.out W5.drew hB5.drew b1.drew)
 have hH5:=b1.drew
 refine Zyu [(0,0),(1,0),(3,1),(4,1),(5,1),(6,1),(7,1),(8,1),(2,2),(9,2),(10,2),(11,2)] (fun W=>Blk W (w.heap.size+1) #[i] 3) kr_ kr_ hH5 ?_
 go_wp2_with (first
   | (refine Za0 58 (.tmp 2) Zbh rfl rfl rfl bmd rfl ?_)
   | (go_at_call 106;refine HO5.out.mono ?_;rintro e w6 ⟨Y,mb,rfl,hb6,hOp,hY,hmb⟩;(try simp only [World.size_drew] at hY hmb);have hH6:=b1.drew.below hb6 b1.lt)
   | (go_at_call 109;refine (HWn.out hOp _ (LnT.start hOp)).mono ?_;rintro e w7 ⟨rfl,hW7,hl7⟩;have b3a:=hl7.blk (b3.drew.below hb6 b3.lt) om_;have b4a:=hl7.blk (b4.drew.below hb6 b4.lt) om_;have hH7:=hl7.blk hH6 om_)
   | (refine Za1 23 (.tmp 4) (.tmp 16) Zav rfl rfl rfl rfl b3a rfl rfl (by simp [spV,Value.oneCell']) ?_;intro wc hc;have b4c:=hc.other b4a om_;have r4c:=b4c.cell;have f4c:=b4c.free;have l4c:=b4c.lt;have hHc:=hc.other hH7 om_;have hHd:=hHc.other (p:=⟨w.heap.size+3,0,none⟩) sp_ ↑())
   | (with_reducible refine Zyp ?_)
   | ((with_reducible refine Zye ?_);first|(refine Zyq (ad:=⟨w.heap.size+1,0,none⟩) ↑i rfl rfl ?_ ?_;(focus (intro W hW;have r:=hW.cell;simp [go_sem,r];done));intro K hK)|(refine Zyy ↑J rfl (fun W=>by simp [go_sem,hJ];done) (fun K hK=>?_))|(refine Zyt rfl (.agg #[.int .i64 ((i:Int)),J]) ?_ ?_;(focus (intro W _;simp [go_sem,Zyr,Zys];done));intro K hK)|(refine Zyt rfl (.iface 168 (.agg #[.int .i64 ((i:Int)),J])) ?_ ?_;(focus (intro W _;simp [go_sem,Zyr,Zys];done));intro K hK))
   | (refine o_ ?_;intro K hK)|(with_reducible first|refine Zyo ?_ ?_|refine Zyj ?_|refine Zyf bn_ (fun _=>?_)))
 obtain ⟨Wf,hWf⟩:∃ Wf,wc.setCell ⟨w.heap.size+3,0,none⟩ ↑()=Wf:=⟨_,rfl⟩
 have r3f:=(by rw [← hWf];exact (hc.blk).other (by simp only;omega) _:Blk Wf (w.heap.size+2) (spV (s1,s2)) 23).cell
 have r4f:=(by rw [← hWf];exact b4c.set 0 _:Blk Wf (w.heap.size+3) #[()] 31).cell
 have hlc2:Lets (fun k _=>k=w.heap.size+2∨k=w.heap.size+3) w7 Wf:=by rw [← hWf];exact ((Lets.refl _ _).rowed hc (.inl rfl)).setCell (.inr rfl) _
 have hl6:Lets (fun k _=>w.heap.size≤k) w w6:=Lets.of_below (hB5.trans (hb6.undrew.mono om_))
 have hbf:Below w.heap.size w Wf:=((hl6.trans (hl7.mono fun _ _ e=>om_)).trans (hlc2.mono fun _ _ e=>om_)).below nl_ (fun k hk e=>om_)
 change bodyPostM Fence.wide 0 prog _ _ .ret _ (wc.setCell ⟨w.heap.size+3,0,none⟩ ↑())
 rw [hWf]
 refine Zcd (pb:=w.heap.size+1+1+1) (v:=.tuple #[.agg (spV (s1,s2)),()]) Zi7 (fun W=>by simp [go_sem]) rfl ?_ ⟨rfl,hbf⟩
 unfold spV at *
 simp [results,results37,go_sem,r3f,r4f]
theorem t_Pen (t:Ty) (sa:Option Addr) (sc:Nat) (ca:Option Addr) (cc:Nat) (i:Int) (w:World) (hr:RowsAt w sa 2 Zax t.strays) (hrc:RowsAt w ca 4 Zcn t.calls) (hls:t.strays.length≤9223372036854775807) (hlc:t.calls.length≤9223372036854775807) :
  Calls prog 37 #[.agg (tyV t sa sc ca cc),i] w (Zat (.agg (spV (ofR true t i).1)) (.int .i64 (ofR true t i).2) w):=by
 rw [ofR_eq]
 rcases Zmh t i with ⟨h1,h2,h3⟩ | ⟨hv,hi,hk,h2⟩ | ⟨hv,hi,hk,h2⟩
 ·rw [if_neg h2,h3];exact Zti t sa sc ca cc i w hr hrc hls hlc h1
 ·rw [h2,if_neg sp_];exact Zqj t sa sc ca cc i w hr hrc hls hlc hv hi hk
 ·rw [if_pos h2]
  have hd:=of_decide_eq_true hi
  obtain ⟨n,rfl⟩:∃ n:Nat,i=(n:Int):=⟨i.toNat,om_⟩
  exact t_Pen_ok t sa sc ca cc n w hr hrc hls hlc hv hi om_ hk
end Go.Proofs.YtbapgefodmmikaaGreatDoor
