/- Parts of a proof. -/
import Derived.Test.YtbapgefodmmikaaGreatDoorKMin
import Derived.Test.YtbapgefodmmikaaGreatDoorK28
import Derived.Test.YtbapgefodmmikaaGreatDoorK28
set_option linter.unusedVariables false
set_option linter.unusedSimpArgs false
set_option maxHeartbeats 40000000
set_option maxRecDepth 100000
namespace Go.Proofs.YtbapgefodmmikaaGreatDoor
open Go.RowKit Go.Proofs Go.Ord Tryz
attribute [local irreducible] Ord.walk
theorem Zi6 (t:Ty) (isB:Bool) (sa:Option Addr) (sc:Nat) (ca:Option Addr) (cc:Nat) (F:FuncId) (cap:Array Value) (w:World) (hr:RowsAt w sa 2 Zaz t.strays) (hrc:RowsAt w ca 4 Zcj t.calls) (hls:t.strays.length≤9223372036854775807) (hlc:t.calls.length≤9223372036854775807)
  (hcf:∀ (args:Array Value) (W:World),(callFunc F args).run prog W=.ok (.enter F args) W)
  (HIS0:∀ w' Y mb,Below w.heap.size w w'→tyOk t=true→Zbf w' Y t sa sc ca cc mb→Calls prog F (#[.pointer (some ⟨Y,0,none⟩)] ++ cap) w' (Same (.bool isB) w')) :
  Calls prog 106 #[.agg (tyV t sa sc ca cc),.func (.func F) #[] cap] w (Zbp t isB sa sc ca cc w):=by
 by_cases hh:Zvs t
 ·exact Zsp t isB sa sc ca cc F cap w hr hrc hh hcf HIS0
 ·refine (Zuh t sa sc ca cc _ w hls hlc hh).mono fun e w' h=>?_
  unfold Zbp
  rw [if_pos (Zub hh)]
  exact h
theorem Zhg {t:Ty}{isB:Bool}{sa:Option Addr}{sc:Nat}{ca:Option Addr}{cc:Nat}{w:World}{e:Ending}{w':World}(h:Zbp t isB sa sc ca cc w e w') (hk:tyOk t=false∨isB=false):Zk6 (if tyOk t=false then 1 else 2) w e w':=by
 unfold Zbp at h
 by_cases h1:tyOk t=false
 ·rw [if_pos h1] at h ⊢;exact h
 ·rw [if_neg h1] at h ⊢
  rcases hk with hk|hk
  ·exact absurd hk h1
  ·rw [if_pos hk] at h;exact h
theorem Zgr {t:Ty}{isB:Bool}{sa:Option Addr}{sc:Nat}{ca:Option Addr}{cc:Nat}{w:World}{e:Ending}{w':World}(h:Zbp t isB sa sc ca cc w e w') (hk:tyOk t=true) (hb:isB=true):∃ Y mb,e=.returned (.pointer (some ⟨Y,0,none⟩))∧w w'∧Zbf w' Y t sa sc ca cc mb∧w.heap.size≤Y∧w.heap.size≤mb:=by
 unfold Zbp at h
 rw [if_neg (by rw [hk];decide),if_neg (by rw [hb];decide)] at h
 exact h
section
variable (t:Ty) (sa:Option Addr) (sc:Nat) (ca:Option Addr) (cc:Nat) (w:World) (hr:RowsAt w sa 2 Zaz t.strays) (hrc:RowsAt w ca 4 Zcj t.calls) (hls:t.strays.length≤9223372036854775807) (hlc:t.calls.length≤9223372036854775807)
include hr hrc hls hlc
theorem Zkl (hk:tyOk t=false) (W:World) (hb:Below w.heap.size w W):Calls prog 106 #[.agg (tyV t sa sc ca cc),.func (.func 113) #[] #[]] W (Zk6 1 W) :=
 (Zi6 t true sa sc ca cc 113 #[] W (hr.below hb) (hrc.below hb) hls hlc (fun args W=>call113 args W) (fun w' Y mb hb' hc hO=>Zrl _ _)).mono fun e w' h=>by have:=Zhg h (.inl hk);rwa [if_pos hk] at this
theorem Zix (hk:tyOk t=true) (W:World) (hb:Below w.heap.size w W):Calls prog 106 #[.agg (tyV t sa sc ca cc),.func (.func 113) #[] #[]] W (fun e w'=>∃ Y mb,e=.returned (.pointer (some ⟨Y,0,none⟩))∧Below W.heap.size W w'∧Zbf w' Y t sa sc ca cc mb∧W.heap.size≤Y∧W.heap.size≤mb) :=
 (Zi6 t true sa sc ca cc 113 #[] W (hr.below hb) (hrc.below hb) hls hlc (fun args W=>call113 args W) (fun w' Y mb hb' hc hO=>Zrl _ _)).mono fun e w' h=>Zgr h hk rfl
theorem Znz (hk:tyOk t=false) :
  Calls prog 364 #[.agg (tyV t sa sc ca cc)] w (Zfh (tyOk t) w):=by
 have HO:=hd_ (Zkl t sa sc ca cc w hr hrc hls hlc hk)
 rw [hk]
 have hmf:=hmf_ prog
 clear hr hrc hls hlc hk
 have bm0:Blk (w.alloc (.cells (tyV t sa sc ca cc) 58)) w.heap.size (tyV t sa sc ca cc) 58:=Blk.new _ _ _
 obtain ⟨W5,hW5⟩:∃ W5,((w.alloc (.cells (tyV t sa sc ca cc) 58)).alloc (.cells #[()] 31))=W5:=⟨_,rfl⟩
 have hB5:Below w.heap.size w W5:=by rw [← hW5];exact bel_
 have bm:Blk W5 w.heap.size (tyV t sa sc ca cc) 58:=by rw [← hW5];exact bm0.alloc _
 have b4:Blk W5 (w.heap.size+1) #[()] 31:=by rw [← hW5];exact Blk.new' _ _ _ _ sp_
 have hs5:W5.heap.size=w.heap.size+2:=by rw [← hW5];simp
 have hs5a:W5.heap.size≤w.heap.size+2∧w.heap.size+2≤W5.heap.size:=by omega
 clear hs5 bm0
 have HO5:=hd_ (HO.out W5 hB5)
 unfold tyV at *
 generalize t.strays.length=nl at *
 generalize t.calls.length=nc at *
 refine callsIn_wide.1 (callsIn_of_wp_marks (F:=Fence.wide) (n:=0) func364 rfl trivial (wpIn_wide.2 ?_) rfl)
 simp only [ntmps364,List.size_toArray,List.length_cons,List.length_nil,Nat.reduceAdd,Nat.reduceSub,Array.replicate_succ,Array.replicate_zero,List.push_toArray,List.append_toArray,List.nil_append,List.cons_append]
 go_wp2_with (first
  | (refine Za0 58 (.tmp 1) Zbd rfl rfl rfl bm rfl ?_)
  | (go_at_call 106;refine Za2 ?_))
 unfold Stop
 clear hW5
 refine HO5.out.mono ?_
 rintro e w6 ⟨rfl,hb6⟩
 have hB6:w w6:=hB5.trans (hb6.mono om_)
 refine Zak (pb:=w.heap.size+1) (v:=.tuple #[(),.int .i64 1]) Zf7 (fun W=>by simp [go_sem]) rfl (b4.below hb6 b4.lt) fun w' hl hb=>⟨?_,0,1,rfl,Za3 hB6 hl (by have:=hb6.size;omega) (fun _ _ _=>om_),sp_⟩
 have r4:=hb.cell
 simp [results,results364,go_sem,r4]
theorem Zsu (hk:tyOk t=true) :
  Calls prog 364 #[.agg (tyV t sa sc ca cc)] w (Zfh (tyOk t) w):=by
 have HO:=hd_ (Zix t sa sc ca cc w hr hrc hls hlc hk)
 have hT:=Zc7 hk
 rw [hk]
 have hmf:=hmf_ prog
 obtain ⟨hall,hlen⟩:=Zj7 hT.calls
 have h2:=Nat.pow_le_pow_right (show 0 < 2 by omega) hT.calls
 have HS:Hid (∀ {W0:World}{Y mb:Nat},Zbf W0 Y t sa sc ca cc mb→∀ W,LnT W0 mb t W→_):=fun hO W hW=>Zug (hO.at_ hW) hT.calls
 have HP:Hid (∀ {W0:World}{Y mb:Nat},Zbf W0 Y t sa sc ca cc mb→∀ W p x,x∈Stab.bySize t.calls.length→LnT W0 mb t W→Blk W p #[.pointer Y] 161→Calls prog 366 #[.int .u64 (x:Nat),.pointer (some ⟨p,0,none⟩)] W (fun e w'=>e=.returned (.bool (!canT (Zaa t x)))∧LnT W0 mb t w'∧Lets (fun k _=>k=mb) W w')):=fun hO W p x hx hW hp=>t_Clash2 hO _ hT p x (hall x hx) W hW hp
 have hl256:(Stab.bySize t.calls.length).length≤256:=by rw [hlen];omega
 rw [← hlen] at HS
 have hle:∀ x∈Stab.bySize t.calls.length,x < 256:=fun x hx=>by have:=hall x hx;omega
 generalize Stab.bySize t.calls.length=L at *
 clear hr hrc hls hlc hk hlen hall h2 hT
 have bm0:Blk (w.alloc (.cells (tyV t sa sc ca cc) 58)) w.heap.size (tyV t sa sc ca cc) 58:=Blk.new _ _ _
 obtain ⟨W5,hW5⟩:∃ W5,((w.alloc (.cells (tyV t sa sc ca cc) 58)).alloc (.cells #[()] 31))=W5:=⟨_,rfl⟩
 have hB5:Below w.heap.size w W5:=by rw [← hW5];exact bel_
 have bm:Blk W5 w.heap.size (tyV t sa sc ca cc) 58:=by rw [← hW5];exact bm0.alloc _
 have b4:Blk W5 (w.heap.size+1) #[()] 31:=by rw [← hW5];exact Blk.new' _ _ _ _ sp_
 have hs5:W5.heap.size=w.heap.size+2:=by rw [← hW5];simp
 have hs5a:W5.heap.size≤w.heap.size+2∧w.heap.size+2≤W5.heap.size:=by omega
 clear hs5 bm0
 have HO5:=hd_ (HO.out W5 hB5)
 unfold tyV at *
 generalize t.strays.length=nl at *
 generalize t.calls.length=nc at *
 refine callsIn_wide.1 (callsIn_of_wp_marks (F:=Fence.wide) (n:=0) func364 rfl trivial (wpIn_wide.2 ?_) rfl)
 simp only [ntmps364,List.size_toArray,List.length_cons,List.length_nil,Nat.reduceAdd,Nat.reduceSub,Array.replicate_succ,Array.replicate_zero,List.push_toArray,List.append_toArray,List.nil_append,List.cons_append]
 go_wp2_with (first
  | (refine Za0 58 (.tmp 1) Zbd rfl rfl rfl bm rfl ?_)
  | (go_at_call 106;refine Za2 ?_))
 unfold Stop
 clear hW5
 refine HO5.out.mono ?_
 rintro e w6 ⟨Y,mb,rfl,hb6,hOp,hY,hmb⟩
 have hB6:w w6:=hB5.trans (hb6.mono om_)
 have b46:=b4.below hb6 b4.lt
 have hmbl:=hOp.mb_lt
 have hs56:=hb6.size
 obtain ⟨w7,hw7⟩:∃ w7,w6.alloc (.cells #[.pointer Y] 161)=w7:=⟨_,rfl⟩
 have hb67:Below w6.heap.size w6 w7:=by rw [← hw7];exact bel_
 have bF:Blk w7 w6.heap.size #[.pointer Y] 161:=by rw [← hw7];exact Blk.new _ _ _
 have hs7:w7.heap.size=w6.heap.size+1:=by rw [← hw7];simp
 have hLn7:LnT w6 mb t w7:=(LnT.start hOp).below hb67 hmbl
 have b47:=b46.below hb67 b46.lt
 have hB7:Below w.heap.size w w7:=hB6.trans (hb67.mono hB6.size)
 clear HO5 HO hb6 b46 hB6
 have rF:=bF.cell
 have lF:=bF.lt
 go_wp2_with (first
  | (go_at_call 202;refine (HS.out hOp _ hLn7).mono ?_;rintro e w9 ⟨g,cap,rfl,hB79,hU,hg1,hgl⟩;refine Za2 ?_))
 unfold Stop
 have hLn9:=hLn7.below hB79 om_
 have b49:=b47.below hB79 b47.lt
 have bF9:=bF.below hB79 bF.lt
 have hBw9:w w9:=hB7.trans (hB79.mono hB7.size)
 have hs79:=hB79.size
 clear hw7 hb67 hB79
 generalize hp6:w6.heap.size=p6 at *
 have hcf:∀ (args:Array Value) (W:World),(callFunc 366 args).run prog W=.ok (.enter 366 args) W:=fun args W=>call366 args W
 have HPP:Hid (∀ w' x,x∈L→(LnT w6 mb t w'∧Blk w' p6 #[.pointer Y] 161)→Calls prog 366 (#[.int .u64 (x:Nat)] ++ #[.pointer p6]) w' (fun e w''=>e=.returned (.bool (!canT (Zaa t x)))∧(LnT w6 mb t w''∧Blk w'' p6 #[.pointer Y] 161)∧Lets (fun k _=>k=mb) w' w'')):=fun w' x hx hI =>
  (HP.out hOp w' p6 x hx hI.1 hI.2).mono fun e w'' h=>⟨h.1,⟨h.2.1,h.2.2.blk hI.2 om_⟩,h.2.2⟩
 have hI9:∀ w',Below w9.heap.size w9 w'→(LnT w6 mb t w'∧Blk w' p6 #[.pointer Y] 161):=fun w' hb=>⟨hLn9.below hb om_,bF9.below hb bF9.lt⟩
 go_wp2_with (first
  | (go_at_call 201;refine Za2 ?_))
 unfold Stop
 cases hf:L.find? (fun x=>!canT (Zaa t x)) with
 | none =>
  have hno:=List.find?_eq_none.1 hf
  refine (Zkm 366 #[.pointer p6] (fun x=>!canT (Zaa t x)) _ (fun k _=>k=mb) L g cap 4 w9 hl256 (fun j h=>by simpa using hno _ (List.getElem_mem h)) hcf hU (fun _ e=>om_) hgl hI9 HPP.out).mono ?_
  rintro e wa ⟨rfl,⟨hLna,bFa⟩,hla⟩
  refine Zak (pb:=w.heap.size+1) (v:=.tuple #[(),.int .i64 4]) Zf7 (fun W=>by simp [go_sem]) rfl (hla.blk b49 om_) fun w' hl hb=>⟨?_,0,4,rfl,Za3 (Za3 hBw9 hla om_ (fun _ _ _=>om_)) hl (by have:=hla.size;omega) (fun _ _ _=>om_),sp_⟩
  have r4:=hb.cell
  simp [results,results364,go_sem,r4]
 | some y =>
  obtain ⟨hy,n,hn,hny,hlo⟩:=List.find?_eq_some_iff_getElem.1 hf
  refine (Ziz 366 #[.pointer p6] (fun x=>!canT (Zaa t x)) _ (fun k _=>k=mb) L g cap n 4 w9 hl256 hn (fun j h=>by simpa using hlo j h) (by rw [hny];exact hy) hcf hU (fun _ e=>om_) hgl hI9 HPP.out).mono ?_
  rw [hny]
  rintro e wa ⟨rfl,⟨hLna,bFa⟩,hla⟩
  have hyi:y < 256:=by rw [← hny];exact hle _ (List.getElem_mem hn)
  have b4a:=hla.blk b49 om_
  have r4a:=b4a.cell
  have f4a:=b4a.free
  have l4a:=b4a.lt
  have hBa:w wa:=Za3 hBw9 hla om_ (fun _ _ _=>om_)
  clear HPP hI9 hU
  go_wp2_with fail
  obtain ⟨Wf,hWf⟩:∃ Wf,wa.setCell ⟨w.heap.size+1,0,none⟩ ↑()=Wf:=⟨_,rfl⟩
  have r4f:=(by rw [← hWf];exact b4a.set 0 _:Blk Wf (w.heap.size+1) #[()] 31).cell
  have hbf:Below w.heap.size w Wf:=by rw [← hWf];exact hBa.setCell (by simp only;omega) _
  change bodyPostM Fence.wide 0 prog _ _ .ret _ (wa.setCell ⟨w.heap.size+1,0,none⟩ ↑())
  rw [hWf]
  refine Zc9 (pb:=w.heap.size+1) (v:=.tuple #[y,()]) Zf7 (fun W=>by simp [go_sem]) rfl ?_ ⟨_,0,rfl,hbf,sp_⟩
  simp [results,results364,go_sem,r4f]
theorem t_Clash:Calls prog 364 #[.agg (tyV t sa sc ca cc)] w (Zfh (tyOk t) w):=by
 cases h:tyOk t with
 | false=>rw [← h];exact Znz t sa sc ca cc w hr hrc hls hlc h
 | true=>rw [← h];exact Zsu t sa sc ca cc w hr hrc hls hlc h
end
theorem setsT_eq:∀ K:Nat,K≤8→setsT K=Stab.bySize K:=Q25
theorem popT_eq:∀ x:Nat,x < 256→popT x=Stab.pop x:=by decide +kernel
theorem Zw3 {t:Ty}(hk:tyOk t=true):Zbw t=match (Stab.bySize t.calls.length).find? (fun x=>canT (Zaa t (Zac t - x))) with
  | some s=>(((Stab.pop s:Nat),(s:Int)),0)
  | none=>((0,0),10):=by
 have hT:=Zc7 hk
 obtain ⟨hall,hlen⟩:=Zj7 hT.calls
 have h2:=Nat.pow_le_pow_right (show 0 < 2 by omega) hT.calls
 unfold Zbw
 rw [if_neg (by rw [hk];decide),setsT_eq _ hT.calls]
 cases hf:(Stab.bySize t.calls.length).find? (fun x=>canT (Zaa t (Zac t - x))) with
 | none=>rfl
 | some s =>
  have:=hall s (List.mem_of_find?_eq_some hf)
  simp only
  rw [popT_eq s om_]
section
variable (t:Ty) (sa:Option Addr) (sc:Nat) (ca:Option Addr) (cc:Nat) (w:World) (hr:RowsAt w sa 2 Zaz t.strays) (hrc:RowsAt w ca 4 Zcj t.calls) (hls:t.strays.length≤9223372036854775807) (hlc:t.calls.length≤9223372036854775807)
include hr hrc hls hlc
theorem Zny (hk:tyOk t=false) :
  Calls prog 38 #[.agg (tyV t sa sc ca cc)] w (Zfg ↑() ↑() (.int .i64 1) w):=by
 have HO:=hd_ (Zkl t sa sc ca cc w hr hrc hls hlc hk)
 have hmf:=hmf_ prog
 clear hr hrc hls hlc hk
 have bm0:Blk (w.alloc (.cells (tyV t sa sc ca cc) 58)) w.heap.size (tyV t sa sc ca cc) 58:=Blk.new _ _ _
 obtain ⟨W5,hW5⟩:∃ W5,((w.alloc (.cells (tyV t sa sc ca cc) 58)).alloc (.cells #[()] 31))=W5:=⟨_,rfl⟩
 have hB5:Below w.heap.size w W5:=by rw [← hW5];exact bel_
 have bm:Blk W5 w.heap.size (tyV t sa sc ca cc) 58:=by rw [← hW5];exact bm0.alloc _
 have b4:Blk W5 (w.heap.size+1) #[()] 31:=by rw [← hW5];exact Blk.new' _ _ _ _ sp_
 have hs5:W5.heap.size=w.heap.size+2:=by rw [← hW5];simp
 have hs5a:W5.heap.size≤w.heap.size+2∧w.heap.size+2≤W5.heap.size:=by omega
 clear hs5 bm0
 have HO5:=hd_ (HO.out W5 hB5)
 unfold tyV at *
 generalize t.strays.length=nl at *
 generalize t.calls.length=nc at *
 refine callsIn_wide.1 (callsIn_of_wp_marks (F:=Fence.wide) (n:=0) func38 rfl trivial (wpIn_wide.2 ?_) rfl)
 simp only [ntmps38,List.size_toArray,List.length_cons,List.length_nil,Nat.reduceAdd,Nat.reduceSub,Array.replicate_succ,Array.replicate_zero,List.push_toArray,List.append_toArray,List.nil_append,List.cons_append]
 go_wp2_with (first
  | (refine Za0 58 (.tmp 1) Zbd rfl rfl rfl bm rfl ?_)
  | (go_at_call 106;refine Za2 ?_))
 unfold Stop
 clear hW5
 refine HO5.out.mono ?_
 rintro e w6 ⟨rfl,hb6⟩
 have hB6:w w6:=hB5.trans (hb6.mono om_)
 refine Zak (pb:=w.heap.size+1) (v:=.tuple #[(),(),.int .i64 1]) Zf6 (fun W=>by simp [go_sem]) rfl (b4.below hb6 b4.lt) fun w' hl hb=>⟨?_,rfl,Za3 hB6 hl (by have:=hb6.size;omega) (fun _ _ _=>om_)⟩
 have r4:=hb.cell
 simp [results,results38,go_sem,r4]
theorem Zst (hk:tyOk t=true) :
  Calls prog 38 #[.agg (tyV t sa sc ca cc)] w (Zfg (.int .i64 (Zbw t).1.1) (.int .i64 (Zbw t).1.2) (.int .i64 (Zbw t).2) w):=by
 have HO:=hd_ (Zix t sa sc ca cc w hr hrc hls hlc hk)
 have hT:=Zc7 hk
 rw [Zw3 hk]
 have hmf:=hmf_ prog
 obtain ⟨hall,hlen⟩:=Zj7 hT.calls
 have h2:=Nat.pow_le_pow_right (show 0 < 2 by omega) hT.calls
 have hle:∀ x∈Stab.bySize t.calls.length,x < 256:=fun x hx=>by have:=hall x hx;omega
 have HNo:Hid ((Stab.bySize t.calls.length).find? (fun x=>canT (Zaa t (Zac t - x)))=none→∀ {W0:World}{Y mb:Nat},Zbf W0 Y t sa sc ca cc mb→∀ W,LnT W0 mb t W→Calls prog 114 #[.pointer Y] W (Zi5 W0 mb t 10 W)):=fun hf _ _ _ hO W hW=>Znw hO _ hT hf W hW
 have HYs:Hid (∀ y,(Stab.bySize t.calls.length).find? (fun x=>canT (Zaa t (Zac t - x)))=some y→∀ {W0:World}{Y mb:Nat},Zbf W0 Y t sa sc ca cc mb→∀ W,LnT W0 mb t W→Calls prog 114 #[.pointer Y] W (Zk7 W0 mb t (.int .u64 (y:Nat)) W)):=fun y hf _ _ _ hO W hW=>Zmc hO _ hT y hf W hW
 have HB:=hd_ (fun z W (hz:z < 256)=>Zwx z hz W)
 have hmem:∀ y,(Stab.bySize t.calls.length).find? (fun x=>canT (Zaa t (Zac t - x)))=some y→y < 256:=fun y hf=>hle y (List.mem_of_find?_eq_some hf)
 generalize (Stab.bySize t.calls.length).find? (fun x=>canT (Zaa t (Zac t - x)))=FO at *
 clear hr hrc hls hlc hk hlen hall h2 hT hle
 have bm0:Blk (w.alloc (.cells (tyV t sa sc ca cc) 58)) w.heap.size (tyV t sa sc ca cc) 58:=Blk.new _ _ _
 obtain ⟨W5,hW5⟩:∃ W5,((w.alloc (.cells (tyV t sa sc ca cc) 58)).alloc (.cells #[()] 31))=W5:=⟨_,rfl⟩
 have hB5:Below w.heap.size w W5:=by rw [← hW5];exact bel_
 have bm:Blk W5 w.heap.size (tyV t sa sc ca cc) 58:=by rw [← hW5];exact bm0.alloc _
 have b4:Blk W5 (w.heap.size+1) #[()] 31:=by rw [← hW5];exact Blk.new' _ _ _ _ sp_
 have hs5:W5.heap.size=w.heap.size+2:=by rw [← hW5];simp
 have hs5a:W5.heap.size≤w.heap.size+2∧w.heap.size+2≤W5.heap.size:=by omega
 clear hs5 bm0
 have HO5:=hd_ (HO.out W5 hB5)
 unfold tyV at *
 generalize t.strays.length=nl at *
 generalize t.calls.length=nc at *
 refine callsIn_wide.1 (callsIn_of_wp_marks (F:=Fence.wide) (n:=0) func38 rfl trivial (wpIn_wide.2 ?_) rfl)
 simp only [ntmps38,List.size_toArray,List.length_cons,List.length_nil,Nat.reduceAdd,Nat.reduceSub,Array.replicate_succ,Array.replicate_zero,List.push_toArray,List.append_toArray,List.nil_append,List.cons_append]
 go_wp2_with (first
  | (refine Za0 58 (.tmp 1) Zbd rfl rfl rfl bm rfl ?_)
  | (go_at_call 106;refine Za2 ?_))
 unfold Stop
 clear hW5
 refine HO5.out.mono ?_
 rintro e w6 ⟨Y,mb,rfl,hb6,hOp,hY,hmb⟩
 have hB6:w w6:=hB5.trans (hb6.mono om_)
 have b46:=b4.below hb6 b4.lt
 have hmbl:=hOp.mb_lt
 have hs56:=hb6.size
 clear HO5 HO hb6
 cases FO with
 | none =>
  go_wp2_with (first
   | (go_at_call 114;refine Za2 ?_))
  unfold Stop
  refine (HNo.out (by first|rfl|trivial) hOp _ (LnT.start hOp)).mono ?_
  rintro e wa ⟨rfl,hLna,hla⟩
  refine Zak (pb:=w.heap.size+1) (v:=.tuple #[(),(),.int .i64 10]) Zf6 (fun W=>by simp [go_sem]) rfl (hla.blk b46 om_) fun w' hl hb=>⟨?_,rfl,Za3 (Za3 hB6 hla om_ (fun _ _ _=>om_)) hl (by have:=hla.size;omega) (fun _ _ _=>om_)⟩
  have r4:=hb.cell
  simp [results,results38,go_sem,r4]
 | some y =>
  have hy:=hmem y (by first|rfl|trivial)
  have HY2:=hd_ (HYs.out y (by first|rfl|trivial) hOp _ (LnT.start hOp))
  have HB2:=hd_ (fun W=>HB.out y W hy)
  clear HNo HYs HB hmem
  obtain ⟨py,hpy⟩:∃ py,Stab.pop y=py:=⟨_,rfl⟩
  rw [hpy] at HB2
  have HPY:=hd_ hpy
  clear hpy
  go_wp2_with (first
   | (go_at_call 114;refine HY2.out.mono ?_;rintro e wa ⟨rfl,hLna,hla⟩;refine Za2 ?_))
  unfold Stop
  have b4a:=hla.blk b46 om_
  have r4a:=b4a.cell
  have f4a:=b4a.free
  have l4a:=b4a.lt
  have hBa:w wa:=Za3 hB6 hla om_ (fun _ _ _=>om_)
  go_wp2_with (first
   | (go_at_call 115;refine (HB2.out _).mono ?_;rintro e w' ⟨rfl,rfl⟩))
  obtain ⟨Wf,hWf⟩:∃ Wf,wa.setCell ⟨w.heap.size+1,0,none⟩ ↑()=Wf:=⟨_,rfl⟩
  have r4f:=(by rw [← hWf];exact b4a.set 0 _:Blk Wf (w.heap.size+1) #[()] 31).cell
  have hbf:Below w.heap.size w Wf:=by rw [← hWf];exact hBa.setCell (by simp only;omega) _
  change bodyPostM Fence.wide 0 prog _ _ .ret _ (wa.setCell ⟨w.heap.size+1,0,none⟩ ↑())
  rw [hWf]
  refine Zc9 (pb:=w.heap.size+1) (v:=.tuple #[.int .i64 (py:Int),.int .i64 (y:Int),()]) Zf6 (fun W=>by simp [go_sem]) rfl ?_ ⟨by rw [← HPY.out],hbf⟩
  simp [results,results38,go_sem,r4f]
theorem t_False:Calls prog 38 #[.agg (tyV t sa sc ca cc)] w (Zfg (.int .i64 (Zbw t).1.1) (.int .i64 (Zbw t).1.2) (.int .i64 (Zbw t).2) w):=by
 cases h:tyOk t with
 | false =>
  have:=Zny t sa sc ca cc w hr hrc hls hlc h
  unfold Zbw
  rw [if_pos h]
  exact this
 | true=>exact Zst t sa sc ca cc w hr hrc hls hlc h
end
def Zdi (t:Ty) (i:Int):Bool:=decide (0≤i∧i≤t.sh - 1)
def errT (t:Ty) (i:Int):Int:=if tyOk t=false then 1 else if Zdi t i=false then 2 else if canT (Zaa t (Zac t))=false then 10 else 0
theorem Zm2 (t:Ty) (i:Int):((tyOk t=false∨Zdi t i=false)∧errT t i≠0∧errT t i=if tyOk t=false then 1 else 2)∨(tyOk t=true∧Zdi t i=true∧canT (Zaa t (Zac t))=false∧errT t i=10)∨(tyOk t=true∧Zdi t i=true∧canT (Zaa t (Zac t))=true∧errT t i=0):=by
 unfold errT
 cases tyOk t <;> cases Zdi t i <;> cases canT (Zaa t (Zac t)) <;> simp
theorem ofR_eq (pen:Bool) (t:Ty) (i:Int):ofR pen t i=if errT t i=0 then (Zgn (Zaa t (Zac t)) (cntX pen t.sh.toNat i.toNat).1 (cntX pen t.sh.toNat i.toNat).2,0) else ((0,0),errT t i):=by
 unfold ofR errT Zdi
 by_cases h1:tyOk t=false
 ·simp [h1]
 ·by_cases h2:i < 0∨t.sh≤i
  ·have hb:=decide_eq_false (show ¬ (0≤i∧i≤t.sh - 1) by omega)
   simp only [h1,h2,hb,if_false,if_true]
   simp
  ·have hb:=decide_eq_true (show 0≤i∧i≤t.sh - 1 by omega)
   simp only [h1,h2,hb,if_false]
   cases canT (Zaa t (Zac t)) <;> cases pen <;> simp [cntX]
theorem _root_.Q2m {p:Prop}(h:p:=by
 go_wp2_with (first
  | (go_at_call 108;refine H.out.mono ?_;rintro e w2 ⟨rfl,rfl⟩))
 go_ret
 exact ⟨rfl,rfl⟩):p:=h
theorem Zg9 (i:Int) (p:Nat) {w:World}{Y:Nat}{t:Ty}{sa:Option Addr}{sc:Nat}{ca:Option Addr}{cc mb:Nat}(hc:tyOk t=true) (hO:Zbf w Y t sa sc ca cc mb) (hp:Blk w p #[i] 3) :
  Calls prog 107 #[.pointer Y,.pointer p] w (Same (.bool (Zdi t i)) w):=by
 have hT:=Zc7 hc
 have H:=hd_ (Zg8 hO.yard ⟨by have:=hT.sh;have:=hT.one;omega,by have:=hT.sh;have:=hT.five;omega⟩ i)
 have r:=hp.cell
 unfold Zdi
 generalize decide (0≤i∧i≤t.sh - 1)=v at *
 go_enter func107,ntmps107
 exact Q2m
theorem _root_.Qu {p:Prop}(h:p:=by
 rintro c ⟨tm,ds⟩ d v u ⟨o,ho,rfl⟩ h
 have hd:o.dst=some 7∨o.dst=some 8∨o.dst=some 9∨o.dst=some 10∨o.dst=some 11∨o.dst=some 12∨o.dst=some 13∨o.dst=some 14∨o.dst=some 15∨o.dst=none:=by
  simp only [List.mem_toArray,List.mem_cons,List.not_mem_nil,or_false] at ho
  rcases ho with rfl|rfl|rfl|rfl|rfl|rfl|rfl|rfl|rfl|rfl|rfl <;> simp
 unfold PanE at *
 rcases hd with e|e|e|e|e|e|e|e|e|e <;> rw [e] at h <;> simpa [Act.put,Array.getD_eq_getD_getElem?] using h):p:=h
theorem _root_.Q20 {p:Prop}(h:p:=by
 simp only [Array.getD_eq_getD_getElem?] at h4 h5
 have r4:=hb.cell
 have r3:=(hl.blk hs8 om_).cell
 unfold spV at *
 simp [results,results36,go_sem,h4,h5,r4,r3]):p:=h
theorem Znx (t:Ty) (sa:Option Addr) (sc:Nat) (ca:Option Addr) (cc:Nat) (i:Int) (w:World) (hr:RowsAt w sa 2 Zaz t.strays) (hrc:RowsAt w ca 4 Zcj t.calls) (hls:t.strays.length≤9223372036854775807) (hlc:t.calls.length≤9223372036854775807) (hk:tyOk t=false∨Zdi t i=false) :
  Calls prog 36 #[.agg (tyV t sa sc ca cc),i] w (Zat (.agg (spV (0,0))) (.int .i64 (if tyOk t=false then 1 else 2)) w):=by
 have hmf:=hmf_ prog
 have HO:Hid (∀ W,Below w.heap.size w W→Blk W (w.heap.size+1) #[i] 3→Calls prog 106 #[.agg (tyV t sa sc ca cc),.func (.func 107) #[] #[.pointer ↑(w.heap.size+1)]] W (Zk6 (if tyOk t=false then 1 else 2) W)):=fun W hb b1 =>
  (Zi6 t (Zdi t (i)) sa sc ca cc 107 #[.pointer ↑(w.heap.size+1)] W (hr.below hb) (hrc.below hb) hls hlc (fun args W=>call107 args W) (fun w' Y mb hb' hc hO=>Zg9 (i) _ hc hO (b1.below hb' b1.lt))).mono fun e w' h=>Zhg h hk
 generalize (if tyOk t=false then (1:Int) else 2)=E at *
 clear hr hrc hls hlc hk
 obtain ⟨J,hJ⟩:∃ J,IntKind.i64.wrap (i+1)=J:=⟨_,rfl⟩
 have bm0:Blk (w.alloc (.cells (tyV t sa sc ca cc) 58)) w.heap.size (tyV t sa sc ca cc) 58:=Blk.new _ _ _
 obtain ⟨W5,hW5⟩:∃ W5,((((w.alloc (.cells (tyV t sa sc ca cc) 58)).alloc (.cells #[i] 3)).alloc (.cells #[(),()] 23)).alloc (.cells #[()] 31))=W5:=⟨_,rfl⟩
 have hB5:Below w.heap.size w W5:=by rw [← hW5];exact bel_
 have bm:Blk W5 w.heap.size (tyV t sa sc ca cc) 58:=by rw [← hW5];exact ((bm0.alloc _).alloc _).alloc _
 have b1:Blk W5 (w.heap.size+1) #[i] 3:=by rw [← hW5];exact (((Blk.new' _ _ _ _ sp_).alloc _).alloc _)
 have b3:Blk W5 (w.heap.size+2) (spV (0,0)) 23:=by rw [← hW5];exact (Blk.new' _ _ _ _ sp_).alloc _
 have b4:Blk W5 (w.heap.size+3) #[()] 31:=by rw [← hW5];exact Blk.new' _ _ _ _ sp_
 have hs5:W5.heap.size=w.heap.size+4:=by rw [← hW5];simp
 have hs5a:W5.heap.size≤w.heap.size+4∧w.heap.size+4≤W5.heap.size:=by omega
 clear hs5 bm0
 unfold tyV at *
 generalize t.strays.length=nl at *
 generalize t.calls.length=nc at *
 refine callsIn_wide.1 (callsIn_of_wp_marks (F:=Fence.wide) (n:=0) func36 rfl trivial (wpIn_wide.2 ?_) rfl)
 simp only [ntmps36,List.size_toArray,List.length_cons,List.length_nil,Nat.reduceAdd,Nat.reduceSub,Array.replicate_succ,Array.replicate_zero,List.push_toArray,List.append_toArray,List.nil_append,List.cons_append]
 go_wp2_with fail
 clear hW5
 have bmd:=bm.drew
 have b1d:=b1.drew
 have r1:=b1.cell
 have HO5:=hd_ (HO.out W5.drew hB5.drew b1.drew)
 refine wp_mono (Q:=PanE Zdw [{ target:=.fn (.func 104) #[.pointer ↑(w.heap.size+3)],args:=#[] }] 4 5 (.pointer ↑(w.heap.size+2)) (.pointer ↑(w.heap.size+3)) E (fun W=>Below w.heap.size w W∧Blk W (w.heap.size+3) #[()] 31∧Blk W (w.heap.size+2) (spV (0,0)) 23)) ?_ ?_
 ·refine Zxw [(0,0),(1,0),(3,1),(4,1),(5,1),(6,1),(7,1),(2,2),(8,2),(9,2),(10,2)] (fun W=>Blk W (w.heap.size+1) #[i] 3) kr_ kr_ ?_ b1.drew ?_
  ·exact Qu
  go_wp2_with (first
   | (refine Za0 58 (.tmp 2) Zbd rfl rfl rfl bmd rfl ?_)
   | (go_at_call 106;refine HO5.out.mono ?_;rintro e w6 ⟨rfl,hb6⟩;exact ⟨rfl,rfl,rfl,rfl,hB5.trans (hb6.undrew.mono om_),b4.drew.below hb6 b4.lt,b3.drew.below hb6 b3.lt⟩)
   | ((with_reducible refine Zxd ?_);first|(refine Zxp (ad:=⟨w.heap.size+1,0,none⟩) ↑i rfl rfl ?_ ?_;(focus (intro W hW;have r:=hW.cell;simp [go_sem,r];done));intro K hK)|(refine Zxx (.int .i64 (J)) rfl (fun W=>by simp [go_sem,hJ];done) (fun K hK=>?_))|(refine Zxs rfl (.agg #[i,.int .i64 (J)]) ?_ ?_;(focus (intro W _;simp [go_sem,Zxq,Zxr];done));intro K hK)|(refine Zxs rfl (.iface 166 (.agg #[i,.int .i64 (J)])) ?_ ?_;(focus (intro W _;simp [go_sem,Zxq,Zxr];done));intro K hK))
   | (refine o_ ?_;intro K hK)|(with_reducible first|refine Zxn ?_ ?_|refine Zxi ?_|refine Zxe bn_ (fun _=>?_)))
 rintro e ⟨tm,ds⟩ w8 ⟨rfl,rfl,h4,h5,hb8,he8,hs8⟩
 refine Zak (v:=.tuple #[.agg (spV (0,0)),E]) Zf5 (fun W=>by simp [go_sem]) rfl he8 fun w' hl hb=>⟨?_,rfl,Za3 hb8 hl nl_ (fun _ _ _=>om_)⟩
 exact Q20
theorem Zmf (t:Ty) (sa:Option Addr) (sc:Nat) (ca:Option Addr) (cc:Nat) (i:Int) (w:World) (hr:RowsAt w sa 2 Zaz t.strays) (hrc:RowsAt w ca 4 Zcj t.calls) (hls:t.strays.length≤9223372036854775807) (hlc:t.calls.length≤9223372036854775807) (hk:tyOk t=true) (hi:Zdi t i=true) (hcan:canT (Zaa t (Zac t))=false) :
  Calls prog 36 #[.agg (tyV t sa sc ca cc),i] w (Zat (.agg (spV (0,0))) (.int .i64 10) w):=by
 have hmf:=hmf_ prog
 have HO:Hid (∀ W,Below w.heap.size w W→Blk W (w.heap.size+1) #[i] 3→Calls prog 106 #[.agg (tyV t sa sc ca cc),.func (.func 107) #[] #[.pointer ↑(w.heap.size+1)]] W (fun e w'=>∃ Y mb,e=.returned (.pointer (some ⟨Y,0,none⟩))∧Below W.heap.size W w'∧Zbf w' Y t sa sc ca cc mb∧W.heap.size≤Y∧W.heap.size≤mb)):=fun W hb b1 =>
  (Zi6 t (Zdi t (i)) sa sc ca cc 107 #[.pointer ↑(w.heap.size+1)] W (hr.below hb) (hrc.below hb) hls hlc (fun args W=>call107 args W) (fun w' Y mb hb' hc hO=>Zg9 (i) _ hc hO (b1.below hb' b1.lt))).mono fun e w' h=>Zgr h hk hi
 have HWn:Hid (∀ {W0:World}{Y mb:Nat},Zbf W0 Y t sa sc ca cc mb→∀ v W,LnT W0 mb t W→Calls prog 109 #[.pointer (some ⟨Y,0,none⟩),v] W (Zi5 W0 mb t 10 W)):=fun hO v W hW=>Zui hO _ (Zc7 hk) hcan v W hW
 clear hr hrc hls hlc hk hi hcan
 obtain ⟨J,hJ⟩:∃ J,IntKind.i64.wrap (i+1)=J:=⟨_,rfl⟩
 have bm0:Blk (w.alloc (.cells (tyV t sa sc ca cc) 58)) w.heap.size (tyV t sa sc ca cc) 58:=Blk.new _ _ _
 obtain ⟨W5,hW5⟩:∃ W5,((((w.alloc (.cells (tyV t sa sc ca cc) 58)).alloc (.cells #[i] 3)).alloc (.cells #[(),()] 23)).alloc (.cells #[()] 31))=W5:=⟨_,rfl⟩
 have hB5:Below w.heap.size w W5:=by rw [← hW5];exact bel_
 have bm:Blk W5 w.heap.size (tyV t sa sc ca cc) 58:=by rw [← hW5];exact ((bm0.alloc _).alloc _).alloc _
 have b1:Blk W5 (w.heap.size+1) #[i] 3:=by rw [← hW5];exact (((Blk.new' _ _ _ _ sp_).alloc _).alloc _)
 have b3:Blk W5 (w.heap.size+2) (spV (0,0)) 23:=by rw [← hW5];exact (Blk.new' _ _ _ _ sp_).alloc _
 have b4:Blk W5 (w.heap.size+3) #[()] 31:=by rw [← hW5];exact Blk.new' _ _ _ _ sp_
 have hs5:W5.heap.size=w.heap.size+4:=by rw [← hW5];simp
 have hs5a:W5.heap.size≤w.heap.size+4∧w.heap.size+4≤W5.heap.size:=by omega
 clear hs5 bm0
 unfold tyV at *
 generalize t.strays.length=nl at *
 generalize t.calls.length=nc at *
 refine callsIn_wide.1 (callsIn_of_wp_marks (F:=Fence.wide) (n:=0) func36 rfl trivial (wpIn_wide.2 ?_) rfl)
 simp only [ntmps36,List.size_toArray,List.length_cons,List.length_nil,Nat.reduceAdd,Nat.reduceSub,Array.replicate_succ,Array.replicate_zero,List.push_toArray,List.append_toArray,List.nil_append,List.cons_append]
 go_wp2_with fail
 clear hW5
 have bmd:=bm.drew
 have b1d:=b1.drew
 have r1:=b1.cell
 have HO5:=hd_ (HO.out W5.drew hB5.drew b1.drew)
 refine wp_mono (Q:=PanE Zdw [{ target:=.fn (.func 104) #[.pointer ↑(w.heap.size+3)],args:=#[] }] 4 5 (.pointer ↑(w.heap.size+2)) (.pointer ↑(w.heap.size+3)) 10 (fun W=>Below w.heap.size w W∧Blk W (w.heap.size+3) #[()] 31∧Blk W (w.heap.size+2) (spV (0,0)) 23)) ?_ ?_
 ·refine Zxw [(0,0),(1,0),(3,1),(4,1),(5,1),(6,1),(7,1),(2,2),(8,2),(9,2),(10,2)] (fun W=>Blk W (w.heap.size+1) #[i] 3) kr_ kr_ ?_ b1.drew ?_
  ·exact Qu
  go_wp2_with (first
   | (refine Za0 58 (.tmp 2) Zbd rfl rfl rfl bmd rfl ?_)
   | (go_at_call 106;refine HO5.out.mono ?_;rintro e w6 ⟨Y,mb,rfl,hb6,hOp,hY,hmb⟩;(try simp only [World.size_drew] at hY hmb);have hH6:=b1.drew.below hb6 b1.lt)
   | (go_at_call 109;refine (HWn.out hOp _ _ (LnT.start hOp)).mono ?_;rintro e w7 ⟨rfl,hW7,hl7⟩;exact ⟨rfl,rfl,rfl,rfl,Za3 (hB5.trans (hb6.undrew.mono om_)) hl7 (by have:=hb6.undrew.size;omega) (fun _ _ _=>om_),hl7.blk (b4.drew.below hb6 b4.lt) om_,hl7.blk (b3.drew.below hb6 b3.lt) om_⟩)
   | ((with_reducible refine Zxd ?_);first|(refine Zxp (ad:=⟨w.heap.size+1,0,none⟩) ↑i rfl rfl ?_ ?_;(focus (intro W hW;have r:=hW.cell;simp [go_sem,r];done));intro K hK)|(refine Zxx (.int .i64 (J)) rfl (fun W=>by simp [go_sem,hJ];done) (fun K hK=>?_))|(refine Zxs rfl (.agg #[i,.int .i64 (J)]) ?_ ?_;(focus (intro W _;simp [go_sem,Zxq,Zxr];done));intro K hK)|(refine Zxs rfl (.iface 166 (.agg #[i,.int .i64 (J)])) ?_ ?_;(focus (intro W _;simp [go_sem,Zxq,Zxr];done));intro K hK))
   | (refine o_ ?_;intro K hK)|(with_reducible first|refine Zxn ?_ ?_|refine Zxi ?_|refine Zxe bn_ (fun _=>?_)))
 rintro e ⟨tm,ds⟩ w8 ⟨rfl,rfl,h4,h5,hb8,he8,hs8⟩
 refine Zak (v:=.tuple #[.agg (spV (0,0)),.int .i64 10]) Zf5 (fun W=>by simp [go_sem]) rfl he8 fun w' hl hb=>⟨?_,rfl,Za3 hb8 hl nl_ (fun _ _ _=>om_)⟩
 exact Q20
theorem Zsr (t:Ty) (sa:Option Addr) (sc:Nat) (ca:Option Addr) (cc:Nat) (i:Nat) (w:World) (hr:RowsAt w sa 2 Zaz t.strays) (hrc:RowsAt w ca 4 Zcj t.calls) (hls:t.strays.length≤9223372036854775807) (hlc:t.calls.length≤9223372036854775807) (hk:tyOk t=true) (hi:Zdi t (i:Int)=true) (hib:i < t.sh.toNat) (hcan:canT (Zaa t (Zac t))=true) :
  Calls prog 36 #[.agg (tyV t sa sc ca cc),i] w (Zat (.agg (spV (Zgn (Zaa t (Zac t)) (cntX false t.sh.toNat i).1 (cntX false t.sh.toNat i).2))) ↑() w):=by
 have hmf:=hmf_ prog
 have HO:Hid (∀ W,Below w.heap.size w W→Blk W (w.heap.size+1) #[.int .i64 ((i:Int))] 3→Calls prog 106 #[.agg (tyV t sa sc ca cc),.func (.func 107) #[] #[.pointer ↑(w.heap.size+1)]] W (fun e w'=>∃ Y mb,e=.returned (.pointer (some ⟨Y,0,none⟩))∧Below W.heap.size W w'∧Zbf w' Y t sa sc ca cc mb∧W.heap.size≤Y∧W.heap.size≤mb)):=fun W hb b1 =>
  (Zi6 t (Zdi t ((i:Int))) sa sc ca cc 107 #[.pointer ↑(w.heap.size+1)] W (hr.below hb) (hrc.below hb) hls hlc (fun args W=>call107 args W) (fun w' Y mb hb' hc hO=>Zg9 ((i:Int)) _ hc hO (b1.below hb' b1.lt))).mono fun e w' h=>Zgr h hk hi
 have HWn:Hid (∀ {W0:World}{Y mb:Nat},Zbf W0 Y t sa sc ca cc mb→∀ W,LnT W0 mb t W→Calls prog 109 #[.pointer (some ⟨Y,0,none⟩),.iface 166 (.agg #[i,.int .i64 ((i+1:Nat):Int)])] W (Zk7 W0 mb t (.agg (spV (Zgn (Zaa t (Zac t)) (cntX false t.sh.toNat i).1 (cntX false t.sh.toNat i).2))) W)):=fun hO W hW=>Zrj false hO _ (Zc7 hk) hcan i hib W hW
 generalize Zgn (Zaa t (Zac t)) (cntX false t.sh.toNat i).1 (cntX false t.sh.toNat i).2=S at *
 obtain ⟨s1,s2⟩:=S
 have h5:=(Zc7 hk).five
 have hJ:IntKind.i64.wrap ((i:Int)+1)=((i+1:Nat):Int):=by rw [IntKind.wrap_i64];omega
 clear hr hrc hls hlc hk hi hcan
 generalize ((i+1:Nat):Int)=J at *
 have bm0:Blk (w.alloc (.cells (tyV t sa sc ca cc) 58)) w.heap.size (tyV t sa sc ca cc) 58:=Blk.new _ _ _
 obtain ⟨W5,hW5⟩:∃ W5,((((w.alloc (.cells (tyV t sa sc ca cc) 58)).alloc (.cells #[.int .i64 ((i:Int))] 3)).alloc (.cells #[(),()] 23)).alloc (.cells #[()] 31))=W5:=⟨_,rfl⟩
 have hB5:Below w.heap.size w W5:=by rw [← hW5];exact bel_
 have bm:Blk W5 w.heap.size (tyV t sa sc ca cc) 58:=by rw [← hW5];exact ((bm0.alloc _).alloc _).alloc _
 have b1:Blk W5 (w.heap.size+1) #[.int .i64 ((i:Int))] 3:=by rw [← hW5];exact (((Blk.new' _ _ _ _ sp_).alloc _).alloc _)
 have b3:Blk W5 (w.heap.size+2) (spV (0,0)) 23:=by rw [← hW5];exact (Blk.new' _ _ _ _ sp_).alloc _
 have b4:Blk W5 (w.heap.size+3) #[()] 31:=by rw [← hW5];exact Blk.new' _ _ _ _ sp_
 have hs5:W5.heap.size=w.heap.size+4:=by rw [← hW5];simp
 have hs5a:W5.heap.size≤w.heap.size+4∧w.heap.size+4≤W5.heap.size:=by omega
 clear hs5 bm0
 unfold tyV at *
 generalize t.strays.length=nl at *
 generalize t.calls.length=nc at *
 refine callsIn_wide.1 (callsIn_of_wp_marks (F:=Fence.wide) (n:=0) func36 rfl trivial (wpIn_wide.2 ?_) rfl)
 simp only [ntmps36,List.size_toArray,List.length_cons,List.length_nil,Nat.reduceAdd,Nat.reduceSub,Array.replicate_succ,Array.replicate_zero,List.push_toArray,List.append_toArray,List.nil_append,List.cons_append]
 go_wp2_with fail
 clear hW5
 have bmd:=bm.drew
 have b1d:=b1.drew
 have r1:=b1.cell
 have HO5:=hd_ (HO.out W5.drew hB5.drew b1.drew)
 have hH5:=b1.drew
 refine Zxt [(0,0),(1,0),(3,1),(4,1),(5,1),(6,1),(7,1),(2,2),(8,2),(9,2),(10,2)] (fun W=>Blk W (w.heap.size+1) #[i] 3) kr_ kr_ hH5 ?_
 go_wp2_with (first
   | (refine Za0 58 (.tmp 2) Zbd rfl rfl rfl bmd rfl ?_)
   | (go_at_call 106;refine HO5.out.mono ?_;rintro e w6 ⟨Y,mb,rfl,hb6,hOp,hY,hmb⟩;(try simp only [World.size_drew] at hY hmb);have hH6:=b1.drew.below hb6 b1.lt)
   | (go_at_call 109;refine (HWn.out hOp _ (LnT.start hOp)).mono ?_;rintro e w7 ⟨rfl,hW7,hl7⟩;have b3a:=hl7.blk (b3.drew.below hb6 b3.lt) om_;have b4a:=hl7.blk (b4.drew.below hb6 b4.lt) om_;have hH7:=hl7.blk hH6 om_)
   | (refine Za1 23 (.tmp 4) (.tmp 15) Zas rfl rfl rfl rfl b3a rfl rfl (by simp [spV,Value.oneCell']) ?_;intro wc hc;have b4c:=hc.other b4a om_;have r4c:=b4c.cell;have f4c:=b4c.free;have l4c:=b4c.lt;have hHc:=hc.other hH7 om_;have hHd:=hHc.other (p:=⟨w.heap.size+3,0,none⟩) sp_ ↑())
   | (with_reducible refine Zxo ?_)
   | ((with_reducible refine Zxd ?_);first|(refine Zxp (ad:=⟨w.heap.size+1,0,none⟩) ↑i rfl rfl ?_ ?_;(focus (intro W hW;have r:=hW.cell;simp [go_sem,r];done));intro K hK)|(refine Zxx ↑J rfl (fun W=>by simp [go_sem,hJ];done) (fun K hK=>?_))|(refine Zxs rfl (.agg #[.int .i64 ((i:Int)),J]) ?_ ?_;(focus (intro W _;simp [go_sem,Zxq,Zxr];done));intro K hK)|(refine Zxs rfl (.iface 166 (.agg #[.int .i64 ((i:Int)),J])) ?_ ?_;(focus (intro W _;simp [go_sem,Zxq,Zxr];done));intro K hK))
   | (refine o_ ?_;intro K hK)|(with_reducible first|refine Zxn ?_ ?_|refine Zxi ?_|refine Zxe bn_ (fun _=>?_)))
 obtain ⟨Wf,hWf⟩:∃ Wf,wc.setCell ⟨w.heap.size+3,0,none⟩ ↑()=Wf:=⟨_,rfl⟩
 have r3f:=(by rw [← hWf];exact (hc.blk).other (by simp only;omega) _:Blk Wf (w.heap.size+2) (spV (s1,s2)) 23).cell
 have r4f:=(by rw [← hWf];exact b4c.set 0 _:Blk Wf (w.heap.size+3) #[()] 31).cell
 have hlc2:Lets (fun k _=>k=w.heap.size+2∨k=w.heap.size+3) w7 Wf:=by rw [← hWf];exact ((Lets.refl _ _).rowed hc (.inl rfl)).setCell (.inr rfl) _
 have hl6:Lets (fun k _=>w.heap.size≤k) w w6:=Lets.of_below (hB5.trans (hb6.undrew.mono om_))
 have hbf:Below w.heap.size w Wf:=((hl6.trans (hl7.mono fun _ _ e=>om_)).trans (hlc2.mono fun _ _ e=>om_)).below nl_ (fun k hk e=>om_)
 change bodyPostM Fence.wide 0 prog _ _ .ret _ (wc.setCell ⟨w.heap.size+3,0,none⟩ ↑())
 rw [hWf]
 refine Zc9 (pb:=w.heap.size+1+1+1) (v:=.tuple #[.agg (spV (s1,s2)),()]) Zf5 (fun W=>by simp [go_sem]) rfl ?_ ⟨rfl,hbf⟩
 unfold spV at *
 simp [results,results36,go_sem,r3f,r4f]
theorem t_Shorn (t:Ty) (sa:Option Addr) (sc:Nat) (ca:Option Addr) (cc:Nat) (i:Int) (w:World) (hr:RowsAt w sa 2 Zaz t.strays) (hrc:RowsAt w ca 4 Zcj t.calls) (hls:t.strays.length≤9223372036854775807) (hlc:t.calls.length≤9223372036854775807) :
  Calls prog 36 #[.agg (tyV t sa sc ca cc),i] w (Zat (.agg (spV (ofR false t i).1)) (.int .i64 (ofR false t i).2) w):=by
 rw [ofR_eq]
 rcases Zm2 t i with ⟨h1,h2,h3⟩ | ⟨hv,hi,hk,h2⟩ | ⟨hv,hi,hk,h2⟩
 ·rw [if_neg h2,h3];exact Znx t sa sc ca cc i w hr hrc hls hlc h1
 ·rw [h2,if_neg sp_];exact Zmf t sa sc ca cc i w hr hrc hls hlc hv hi hk
 ·rw [if_pos h2]
  have hd:=of_decide_eq_true hi
  obtain ⟨n,rfl⟩:∃ n:Nat,i=(n:Int):=⟨i.toNat,om_⟩
  exact Zsr t sa sc ca cc n w hr hrc hls hlc hv hi om_ hk
theorem Ziy (i:Int) (p:Nat) {w:World}{Y:Nat}{t:Ty}{sa:Option Addr}{sc:Nat}{ca:Option Addr}{cc mb:Nat}(hc:tyOk t=true) (hO:Zbf w Y t sa sc ca cc mb) (hp:Blk w p #[i] 3) :
  Calls prog 111 #[.pointer Y,.pointer p] w (Same (.bool (Zdi t i)) w):=by
 have hT:=Zc7 hc
 have H:=hd_ (Zg8 hO.yard ⟨by have:=hT.sh;have:=hT.one;omega,by have:=hT.sh;have:=hT.five;omega⟩ i)
 have r:=hp.cell
 unfold Zdi
 generalize decide (0≤i∧i≤t.sh - 1)=v at *
 go_enter func111,ntmps111
 exact Q2m
theorem _root_.Qt {p:Prop}(h:p:=by
 rintro c ⟨tm,ds⟩ d v u ⟨o,ho,rfl⟩ h
 have hd:o.dst=some 7∨o.dst=some 8∨o.dst=some 9∨o.dst=some 10∨o.dst=some 11∨o.dst=some 12∨o.dst=some 13∨o.dst=some 14∨o.dst=some 15∨o.dst=some 16∨o.dst=none:=by
  simp only [List.mem_toArray,List.mem_cons,List.not_mem_nil,or_false] at ho
  rcases ho with rfl|rfl|rfl|rfl|rfl|rfl|rfl|rfl|rfl|rfl|rfl|rfl <;> simp
 unfold PanE at *
 rcases hd with e|e|e|e|e|e|e|e|e|e|e <;> rw [e] at h <;> simpa [Act.put,Array.getD_eq_getD_getElem?] using h):p:=h
theorem _root_.Q21 {p:Prop}(h:p:=by
 simp only [Array.getD_eq_getD_getElem?] at h4 h5
 have r4:=hb.cell
 have r3:=(hl.blk hs8 om_).cell
 unfold spV at *
 simp [results,results37,go_sem,h4,h5,r4,r3]):p:=h
theorem Zss (t:Ty) (sa:Option Addr) (sc:Nat) (ca:Option Addr) (cc:Nat) (i:Int) (w:World) (hr:RowsAt w sa 2 Zaz t.strays) (hrc:RowsAt w ca 4 Zcj t.calls) (hls:t.strays.length≤9223372036854775807) (hlc:t.calls.length≤9223372036854775807) (hk:tyOk t=false∨Zdi t i=false) :
  Calls prog 37 #[.agg (tyV t sa sc ca cc),i] w (Zat (.agg (spV (0,0))) (.int .i64 (if tyOk t=false then 1 else 2)) w):=by
 have hmf:=hmf_ prog
 have HO:Hid (∀ W,Below w.heap.size w W→Blk W (w.heap.size+1) #[i] 3→Calls prog 106 #[.agg (tyV t sa sc ca cc),.func (.func 111) #[] #[.pointer ↑(w.heap.size+1)]] W (Zk6 (if tyOk t=false then 1 else 2) W)):=fun W hb b1 =>
  (Zi6 t (Zdi t (i)) sa sc ca cc 111 #[.pointer ↑(w.heap.size+1)] W (hr.below hb) (hrc.below hb) hls hlc (fun args W=>call111 args W) (fun w' Y mb hb' hc hO=>Ziy (i) _ hc hO (b1.below hb' b1.lt))).mono fun e w' h=>Zhg h hk
 generalize (if tyOk t=false then (1:Int) else 2)=E at *
 clear hr hrc hls hlc hk
 obtain ⟨J,hJ⟩:∃ J,IntKind.i64.wrap (i+1)=J:=⟨_,rfl⟩
 have bm0:Blk (w.alloc (.cells (tyV t sa sc ca cc) 58)) w.heap.size (tyV t sa sc ca cc) 58:=Blk.new _ _ _
 obtain ⟨W5,hW5⟩:∃ W5,((((w.alloc (.cells (tyV t sa sc ca cc) 58)).alloc (.cells #[i] 3)).alloc (.cells #[(),()] 23)).alloc (.cells #[()] 31))=W5:=⟨_,rfl⟩
 have hB5:Below w.heap.size w W5:=by rw [← hW5];exact bel_
 have bm:Blk W5 w.heap.size (tyV t sa sc ca cc) 58:=by rw [← hW5];exact ((bm0.alloc _).alloc _).alloc _
 have b1:Blk W5 (w.heap.size+1) #[i] 3:=by rw [← hW5];exact (((Blk.new' _ _ _ _ sp_).alloc _).alloc _)
 have b3:Blk W5 (w.heap.size+2) (spV (0,0)) 23:=by rw [← hW5];exact (Blk.new' _ _ _ _ sp_).alloc _
 have b4:Blk W5 (w.heap.size+3) #[()] 31:=by rw [← hW5];exact Blk.new' _ _ _ _ sp_
 have hs5:W5.heap.size=w.heap.size+4:=by rw [← hW5];simp
 have hs5a:W5.heap.size≤w.heap.size+4∧w.heap.size+4≤W5.heap.size:=by omega
 clear hs5 bm0
 unfold tyV at *
 generalize t.strays.length=nl at *
 generalize t.calls.length=nc at *
 refine callsIn_wide.1 (callsIn_of_wp_marks (F:=Fence.wide) (n:=0) func37 rfl trivial (wpIn_wide.2 ?_) rfl)
 simp only [ntmps37,List.size_toArray,List.length_cons,List.length_nil,Nat.reduceAdd,Nat.reduceSub,Array.replicate_succ,Array.replicate_zero,List.push_toArray,List.append_toArray,List.nil_append,List.cons_append]
 go_wp2_with fail
 clear hW5
 have bmd:=bm.drew
 have b1d:=b1.drew
 have r1:=b1.cell
 have HO5:=hd_ (HO.out W5.drew hB5.drew b1.drew)
 refine wp_mono (Q:=PanE Zdw [{ target:=.fn (.func 110) #[.pointer ↑(w.heap.size+3)],args:=#[] }] 4 5 (.pointer ↑(w.heap.size+2)) (.pointer ↑(w.heap.size+3)) E (fun W=>Below w.heap.size w W∧Blk W (w.heap.size+3) #[()] 31∧Blk W (w.heap.size+2) (spV (0,0)) 23)) ?_ ?_
 ·refine Zxw [(0,0),(1,0),(3,1),(4,1),(5,1),(6,1),(7,1),(8,1),(2,2),(9,2),(10,2),(11,2)] (fun W=>Blk W (w.heap.size+1) #[i] 3) kr_ kr_ ?_ b1.drew ?_
  ·exact Qt
  go_wp2_with (first
   | (refine Za0 58 (.tmp 2) Zbd rfl rfl rfl bmd rfl ?_)
   | (go_at_call 106;refine HO5.out.mono ?_;rintro e w6 ⟨rfl,hb6⟩;exact ⟨rfl,rfl,rfl,rfl,hB5.trans (hb6.undrew.mono om_),b4.drew.below hb6 b4.lt,b3.drew.below hb6 b3.lt⟩)
   | ((with_reducible refine Zxd ?_);first|(refine Zxp (ad:=⟨w.heap.size+1,0,none⟩) ↑i rfl rfl ?_ ?_;(focus (intro W hW;have r:=hW.cell;simp [go_sem,r];done));intro K hK)|(refine Zxx (.int .i64 (J)) rfl (fun W=>by simp [go_sem,hJ];done) (fun K hK=>?_))|(refine Zxs rfl (.agg #[i,.int .i64 (J)]) ?_ ?_;(focus (intro W _;simp [go_sem,Zxq,Zxr];done));intro K hK)|(refine Zxs rfl (.iface 168 (.agg #[i,.int .i64 (J)])) ?_ ?_;(focus (intro W _;simp [go_sem,Zxq,Zxr];done));intro K hK))
   | (refine o_ ?_;intro K hK)|(with_reducible first|refine Zxn ?_ ?_|refine Zxi ?_|refine Zxe bn_ (fun _=>?_)))
 rintro e ⟨tm,ds⟩ w8 ⟨rfl,rfl,h4,h5,hb8,he8,hs8⟩
 refine Zak (v:=.tuple #[.agg (spV (0,0)),E]) Zhw (fun W=>by simp [go_sem]) rfl he8 fun w' hl hb=>⟨?_,rfl,Za3 hb8 hl nl_ (fun _ _ _=>om_)⟩
 exact Q21
theorem Zpt (t:Ty) (sa:Option Addr) (sc:Nat) (ca:Option Addr) (cc:Nat) (i:Int) (w:World) (hr:RowsAt w sa 2 Zaz t.strays) (hrc:RowsAt w ca 4 Zcj t.calls) (hls:t.strays.length≤9223372036854775807) (hlc:t.calls.length≤9223372036854775807) (hk:tyOk t=true) (hi:Zdi t i=true) (hcan:canT (Zaa t (Zac t))=false) :
  Calls prog 37 #[.agg (tyV t sa sc ca cc),i] w (Zat (.agg (spV (0,0))) (.int .i64 10) w):=by
 have hmf:=hmf_ prog
 have HO:Hid (∀ W,Below w.heap.size w W→Blk W (w.heap.size+1) #[i] 3→Calls prog 106 #[.agg (tyV t sa sc ca cc),.func (.func 111) #[] #[.pointer ↑(w.heap.size+1)]] W (fun e w'=>∃ Y mb,e=.returned (.pointer (some ⟨Y,0,none⟩))∧Below W.heap.size W w'∧Zbf w' Y t sa sc ca cc mb∧W.heap.size≤Y∧W.heap.size≤mb)):=fun W hb b1 =>
  (Zi6 t (Zdi t (i)) sa sc ca cc 111 #[.pointer ↑(w.heap.size+1)] W (hr.below hb) (hrc.below hb) hls hlc (fun args W=>call111 args W) (fun w' Y mb hb' hc hO=>Ziy (i) _ hc hO (b1.below hb' b1.lt))).mono fun e w' h=>Zgr h hk hi
 have HWn:Hid (∀ {W0:World}{Y mb:Nat},Zbf W0 Y t sa sc ca cc mb→∀ v W,LnT W0 mb t W→Calls prog 109 #[.pointer (some ⟨Y,0,none⟩),v] W (Zi5 W0 mb t 10 W)):=fun hO v W hW=>Zui hO _ (Zc7 hk) hcan v W hW
 clear hr hrc hls hlc hk hi hcan
 obtain ⟨J,hJ⟩:∃ J,IntKind.i64.wrap (i+1)=J:=⟨_,rfl⟩
 have bm0:Blk (w.alloc (.cells (tyV t sa sc ca cc) 58)) w.heap.size (tyV t sa sc ca cc) 58:=Blk.new _ _ _
 obtain ⟨W5,hW5⟩:∃ W5,((((w.alloc (.cells (tyV t sa sc ca cc) 58)).alloc (.cells #[i] 3)).alloc (.cells #[(),()] 23)).alloc (.cells #[()] 31))=W5:=⟨_,rfl⟩
 have hB5:Below w.heap.size w W5:=by rw [← hW5];exact bel_
 have bm:Blk W5 w.heap.size (tyV t sa sc ca cc) 58:=by rw [← hW5];exact ((bm0.alloc _).alloc _).alloc _
 have b1:Blk W5 (w.heap.size+1) #[i] 3:=by rw [← hW5];exact (((Blk.new' _ _ _ _ sp_).alloc _).alloc _)
 have b3:Blk W5 (w.heap.size+2) (spV (0,0)) 23:=by rw [← hW5];exact (Blk.new' _ _ _ _ sp_).alloc _
 have b4:Blk W5 (w.heap.size+3) #[()] 31:=by rw [← hW5];exact Blk.new' _ _ _ _ sp_
 have hs5:W5.heap.size=w.heap.size+4:=by rw [← hW5];simp
 have hs5a:W5.heap.size≤w.heap.size+4∧w.heap.size+4≤W5.heap.size:=by omega
 clear hs5 bm0
 unfold tyV at *
 generalize t.strays.length=nl at *
 generalize t.calls.length=nc at *
 refine callsIn_wide.1 (callsIn_of_wp_marks (F:=Fence.wide) (n:=0) func37 rfl trivial (wpIn_wide.2 ?_) rfl)
 simp only [ntmps37,List.size_toArray,List.length_cons,List.length_nil,Nat.reduceAdd,Nat.reduceSub,Array.replicate_succ,Array.replicate_zero,List.push_toArray,List.append_toArray,List.nil_append,List.cons_append]
 go_wp2_with fail
 clear hW5
 have bmd:=bm.drew
 have b1d:=b1.drew
 have r1:=b1.cell
 have HO5:=hd_ (HO.out W5.drew hB5.drew b1.drew)
 refine wp_mono (Q:=PanE Zdw [{ target:=.fn (.func 110) #[.pointer ↑(w.heap.size+3)],args:=#[] }] 4 5 (.pointer ↑(w.heap.size+2)) (.pointer ↑(w.heap.size+3)) 10 (fun W=>Below w.heap.size w W∧Blk W (w.heap.size+3) #[()] 31∧Blk W (w.heap.size+2) (spV (0,0)) 23)) ?_ ?_
 ·refine Zxw [(0,0),(1,0),(3,1),(4,1),(5,1),(6,1),(7,1),(8,1),(2,2),(9,2),(10,2),(11,2)] (fun W=>Blk W (w.heap.size+1) #[i] 3) kr_ kr_ ?_ b1.drew ?_
  ·exact Qt
  go_wp2_with (first
   | (refine Za0 58 (.tmp 2) Zbd rfl rfl rfl bmd rfl ?_)
   | (go_at_call 106;refine HO5.out.mono ?_;rintro e w6 ⟨Y,mb,rfl,hb6,hOp,hY,hmb⟩;(try simp only [World.size_drew] at hY hmb);have hH6:=b1.drew.below hb6 b1.lt)
   | (go_at_call 109;refine (HWn.out hOp _ _ (LnT.start hOp)).mono ?_;rintro e w7 ⟨rfl,hW7,hl7⟩;exact ⟨rfl,rfl,rfl,rfl,Za3 (hB5.trans (hb6.undrew.mono om_)) hl7 (by have:=hb6.undrew.size;omega) (fun _ _ _=>om_),hl7.blk (b4.drew.below hb6 b4.lt) om_,hl7.blk (b3.drew.below hb6 b3.lt) om_⟩)
   | ((with_reducible refine Zxd ?_);first|(refine Zxp (ad:=⟨w.heap.size+1,0,none⟩) ↑i rfl rfl ?_ ?_;(focus (intro W hW;have r:=hW.cell;simp [go_sem,r];done));intro K hK)|(refine Zxx (.int .i64 (J)) rfl (fun W=>by simp [go_sem,hJ];done) (fun K hK=>?_))|(refine Zxs rfl (.agg #[i,.int .i64 (J)]) ?_ ?_;(focus (intro W _;simp [go_sem,Zxq,Zxr];done));intro K hK)|(refine Zxs rfl (.iface 168 (.agg #[i,.int .i64 (J)])) ?_ ?_;(focus (intro W _;simp [go_sem,Zxq,Zxr];done));intro K hK))
   | (refine o_ ?_;intro K hK)|(with_reducible first|refine Zxn ?_ ?_|refine Zxi ?_|refine Zxe bn_ (fun _=>?_)))
 rintro e ⟨tm,ds⟩ w8 ⟨rfl,rfl,h4,h5,hb8,he8,hs8⟩
 refine Zak (v:=.tuple #[.agg (spV (0,0)),.int .i64 10]) Zhw (fun W=>by simp [go_sem]) rfl he8 fun w' hl hb=>⟨?_,rfl,Za3 hb8 hl nl_ (fun _ _ _=>om_)⟩
 exact Q21
theorem t_Pen_ok (t:Ty) (sa:Option Addr) (sc:Nat) (ca:Option Addr) (cc:Nat) (i:Nat) (w:World) (hr:RowsAt w sa 2 Zaz t.strays) (hrc:RowsAt w ca 4 Zcj t.calls) (hls:t.strays.length≤9223372036854775807) (hlc:t.calls.length≤9223372036854775807) (hk:tyOk t=true) (hi:Zdi t (i:Int)=true) (hib:i < t.sh.toNat) (hcan:canT (Zaa t (Zac t))=true) :
  Calls prog 37 #[.agg (tyV t sa sc ca cc),i] w (Zat (.agg (spV (Zgn (Zaa t (Zac t)) (cntX true t.sh.toNat i).1 (cntX true t.sh.toNat i).2))) ↑() w):=by
 have hmf:=hmf_ prog
 have HO:Hid (∀ W,Below w.heap.size w W→Blk W (w.heap.size+1) #[.int .i64 ((i:Int))] 3→Calls prog 106 #[.agg (tyV t sa sc ca cc),.func (.func 111) #[] #[.pointer ↑(w.heap.size+1)]] W (fun e w'=>∃ Y mb,e=.returned (.pointer (some ⟨Y,0,none⟩))∧Below W.heap.size W w'∧Zbf w' Y t sa sc ca cc mb∧W.heap.size≤Y∧W.heap.size≤mb)):=fun W hb b1 =>
  (Zi6 t (Zdi t ((i:Int))) sa sc ca cc 111 #[.pointer ↑(w.heap.size+1)] W (hr.below hb) (hrc.below hb) hls hlc (fun args W=>call111 args W) (fun w' Y mb hb' hc hO=>Ziy ((i:Int)) _ hc hO (b1.below hb' b1.lt))).mono fun e w' h=>Zgr h hk hi
 have HWn:Hid (∀ {W0:World}{Y mb:Nat},Zbf W0 Y t sa sc ca cc mb→∀ W,LnT W0 mb t W→Calls prog 109 #[.pointer (some ⟨Y,0,none⟩),.iface 168 (.agg #[i,.int .i64 ((i+1:Nat):Int)])] W (Zk7 W0 mb t (.agg (spV (Zgn (Zaa t (Zac t)) (cntX true t.sh.toNat i).1 (cntX true t.sh.toNat i).2))) W)):=fun hO W hW=>Zrj true hO _ (Zc7 hk) hcan i hib W hW
 generalize Zgn (Zaa t (Zac t)) (cntX true t.sh.toNat i).1 (cntX true t.sh.toNat i).2=S at *
 obtain ⟨s1,s2⟩:=S
 have h5:=(Zc7 hk).five
 have hJ:IntKind.i64.wrap ((i:Int)+1)=((i+1:Nat):Int):=by rw [IntKind.wrap_i64];omega
 clear hr hrc hls hlc hk hi hcan
 generalize ((i+1:Nat):Int)=J at *
 have bm0:Blk (w.alloc (.cells (tyV t sa sc ca cc) 58)) w.heap.size (tyV t sa sc ca cc) 58:=Blk.new _ _ _
 obtain ⟨W5,hW5⟩:∃ W5,((((w.alloc (.cells (tyV t sa sc ca cc) 58)).alloc (.cells #[.int .i64 ((i:Int))] 3)).alloc (.cells #[(),()] 23)).alloc (.cells #[()] 31))=W5:=⟨_,rfl⟩
 have hB5:Below w.heap.size w W5:=by rw [← hW5];exact bel_
 have bm:Blk W5 w.heap.size (tyV t sa sc ca cc) 58:=by rw [← hW5];exact ((bm0.alloc _).alloc _).alloc _
 have b1:Blk W5 (w.heap.size+1) #[.int .i64 ((i:Int))] 3:=by rw [← hW5];exact (((Blk.new' _ _ _ _ sp_).alloc _).alloc _)
 have b3:Blk W5 (w.heap.size+2) (spV (0,0)) 23:=by rw [← hW5];exact (Blk.new' _ _ _ _ sp_).alloc _
 have b4:Blk W5 (w.heap.size+3) #[()] 31:=by rw [← hW5];exact Blk.new' _ _ _ _ sp_
 have hs5:W5.heap.size=w.heap.size+4:=by rw [← hW5];simp
 have hs5a:W5.heap.size≤w.heap.size+4∧w.heap.size+4≤W5.heap.size:=by omega
 clear hs5 bm0
 unfold tyV at *
 generalize t.strays.length=nl at *
 generalize t.calls.length=nc at *
 refine callsIn_wide.1 (callsIn_of_wp_marks (F:=Fence.wide) (n:=0) func37 rfl trivial (wpIn_wide.2 ?_) rfl)
 simp only [ntmps37,List.size_toArray,List.length_cons,List.length_nil,Nat.reduceAdd,Nat.reduceSub,Array.replicate_succ,Array.replicate_zero,List.push_toArray,List.append_toArray,List.nil_append,List.cons_append]
 go_wp2_with fail
 clear hW5
 have bmd:=bm.drew
 have b1d:=b1.drew
 have r1:=b1.cell
 have HO5:=hd_ (HO.out W5.drew hB5.drew b1.drew)
 have hH5:=b1.drew
 refine Zxt [(0,0),(1,0),(3,1),(4,1),(5,1),(6,1),(7,1),(8,1),(2,2),(9,2),(10,2),(11,2)] (fun W=>Blk W (w.heap.size+1) #[i] 3) kr_ kr_ hH5 ?_
 go_wp2_with (first
   | (refine Za0 58 (.tmp 2) Zbd rfl rfl rfl bmd rfl ?_)
   | (go_at_call 106;refine HO5.out.mono ?_;rintro e w6 ⟨Y,mb,rfl,hb6,hOp,hY,hmb⟩;(try simp only [World.size_drew] at hY hmb);have hH6:=b1.drew.below hb6 b1.lt)
   | (go_at_call 109;refine (HWn.out hOp _ (LnT.start hOp)).mono ?_;rintro e w7 ⟨rfl,hW7,hl7⟩;have b3a:=hl7.blk (b3.drew.below hb6 b3.lt) om_;have b4a:=hl7.blk (b4.drew.below hb6 b4.lt) om_;have hH7:=hl7.blk hH6 om_)
   | (refine Za1 23 (.tmp 4) (.tmp 16) Zas rfl rfl rfl rfl b3a rfl rfl (by simp [spV,Value.oneCell']) ?_;intro wc hc;have b4c:=hc.other b4a om_;have r4c:=b4c.cell;have f4c:=b4c.free;have l4c:=b4c.lt;have hHc:=hc.other hH7 om_;have hHd:=hHc.other (p:=⟨w.heap.size+3,0,none⟩) sp_ ↑())
   | (with_reducible refine Zxo ?_)
   | ((with_reducible refine Zxd ?_);first|(refine Zxp (ad:=⟨w.heap.size+1,0,none⟩) ↑i rfl rfl ?_ ?_;(focus (intro W hW;have r:=hW.cell;simp [go_sem,r];done));intro K hK)|(refine Zxx ↑J rfl (fun W=>by simp [go_sem,hJ];done) (fun K hK=>?_))|(refine Zxs rfl (.agg #[.int .i64 ((i:Int)),J]) ?_ ?_;(focus (intro W _;simp [go_sem,Zxq,Zxr];done));intro K hK)|(refine Zxs rfl (.iface 168 (.agg #[.int .i64 ((i:Int)),J])) ?_ ?_;(focus (intro W _;simp [go_sem,Zxq,Zxr];done));intro K hK))
   | (refine o_ ?_;intro K hK)|(with_reducible first|refine Zxn ?_ ?_|refine Zxi ?_|refine Zxe bn_ (fun _=>?_)))
 obtain ⟨Wf,hWf⟩:∃ Wf,wc.setCell ⟨w.heap.size+3,0,none⟩ ↑()=Wf:=⟨_,rfl⟩
 have r3f:=(by rw [← hWf];exact (hc.blk).other (by simp only;omega) _:Blk Wf (w.heap.size+2) (spV (s1,s2)) 23).cell
 have r4f:=(by rw [← hWf];exact b4c.set 0 _:Blk Wf (w.heap.size+3) #[()] 31).cell
 have hlc2:Lets (fun k _=>k=w.heap.size+2∨k=w.heap.size+3) w7 Wf:=by rw [← hWf];exact ((Lets.refl _ _).rowed hc (.inl rfl)).setCell (.inr rfl) _
 have hl6:Lets (fun k _=>w.heap.size≤k) w w6:=Lets.of_below (hB5.trans (hb6.undrew.mono om_))
 have hbf:Below w.heap.size w Wf:=((hl6.trans (hl7.mono fun _ _ e=>om_)).trans (hlc2.mono fun _ _ e=>om_)).below nl_ (fun k hk e=>om_)
 change bodyPostM Fence.wide 0 prog _ _ .ret _ (wc.setCell ⟨w.heap.size+3,0,none⟩ ↑())
 rw [hWf]
 refine Zc9 (pb:=w.heap.size+1+1+1) (v:=.tuple #[.agg (spV (s1,s2)),()]) Zhw (fun W=>by simp [go_sem]) rfl ?_ ⟨rfl,hbf⟩
 unfold spV at *
 simp [results,results37,go_sem,r3f,r4f]
theorem t_Pen (t:Ty) (sa:Option Addr) (sc:Nat) (ca:Option Addr) (cc:Nat) (i:Int) (w:World) (hr:RowsAt w sa 2 Zaz t.strays) (hrc:RowsAt w ca 4 Zcj t.calls) (hls:t.strays.length≤9223372036854775807) (hlc:t.calls.length≤9223372036854775807) :
  Calls prog 37 #[.agg (tyV t sa sc ca cc),i] w (Zat (.agg (spV (ofR true t i).1)) (.int .i64 (ofR true t i).2) w):=by
 rw [ofR_eq]
 rcases Zm2 t i with ⟨h1,h2,h3⟩ | ⟨hv,hi,hk,h2⟩ | ⟨hv,hi,hk,h2⟩
 ·rw [if_neg h2,h3];exact Zss t sa sc ca cc i w hr hrc hls hlc h1
 ·rw [h2,if_neg sp_];exact Zpt t sa sc ca cc i w hr hrc hls hlc hv hi hk
 ·rw [if_pos h2]
  have hd:=of_decide_eq_true hi
  obtain ⟨n,rfl⟩:∃ n:Nat,i=(n:Int):=⟨i.toNat,om_⟩
  exact t_Pen_ok t sa sc ca cc n w hr hrc hls hlc hv hi om_ hk
end Go.Proofs.YtbapgefodmmikaaGreatDoor
