/- Parts of a proof. -/
import Derived.Test.YtbapgefodmmikaaGreatDoorLMin
import Derived.Test.YtbapgefodmmikaaGreatDoorL27
set_option linter.unusedVariables false
set_option linter.unusedSimpArgs false
set_option maxHeartbeats 40000000
set_option maxRecDepth 100000
namespace Go.Proofs.YtbapgefodmmikaaGreatDoor
open Go.RowKit Go.Proofs Go.Ord Tryz
attribute [local irreducible] Ord.walk
section
variable {W0:World}{Y:Nat}{t:Ty}{sa:Option Addr}{sc:Nat}{ca:Option Addr}{cc mb:Nat}
theorem Zk1 {s:Nat}(hT:TyIn t s):Zae t < 256:=by
 have h1:=hT.calls
 have h2:=Nat.pow_le_pow_right (show 0 < 2 by omega) h1
 have h3:=Nat.two_pow_pos t.calls.length
 unfold Zae
 omega
theorem Zv9 (hO:Zbj W0 Y t sa sc ca cc mb) (s:Nat) (hT:TyIn t s) (hcan:canT (Zaa t (Zae t))=false) (w:World) (hw:LnT W0 mb t w) :
  Calls prog 199 #[.pointer Y] w (Zig W0 mb t 10 w):=by
 have hmb:=hO.mb_lt
 have HE:=hd_ (fun W (hW:LnT W0 mb t W)=>Zmu (hO.at_ hW) hT.calls)
 have HT:=hd_ (fun W (hW:LnT W0 mb t W)=>Zmt hO s hT _ (Zk1 hT) W hW)
 have HC:=hd_ (fun W=>t_can (Zaa t (Zae t)) W)
 have HA:=hd_ Zgt
 rw [hcan] at HC
 generalize Zaa t (Zae t)=TB at *
 generalize Zae t=ev at *
 clear hcan
 have hLn1:LnT W0 mb t (w.alloc (.cells zeroCells267 267)):=hw.below bel_ hmb
 have hl1:Lets (fun k _=>k=mb) w (w.alloc (.cells zeroCells267 267)):=Lets.of_below bel_
 go_enter func199,ntmps199
 go_wp2_with (first
  | (go_at_call 205;refine (HE.out _ hLn1).mono ?_;rintro e w2 ⟨rfl,rfl⟩)
  | (go_at_call 204;refine (HT.out _ hLn1).mono ?_;rintro e w2 ⟨rfl,hLn2,hl2⟩)
  | (refine Za1 267 (.tmp 3) (.tmp 7) Zaf rfl rfl rfl rfl (Blk.new _ _ _) Zmo (Zan _) (Zej _) ?_;intro w4 h4;have b4:=h4.blk;have hb4:=h4.below ((Below.refl _ w2).alloc nl_ _) nl_)
  | (refine Za0 267 (.tmp 3) Zaf rfl rfl rfl b4 (Zan _) ?_)
  | (go_at_call 206;refine (HC.out _).mono ?_;rintro e w5 ⟨rfl,hb5⟩)
  | (go_at_call 195;refine (HA.out _ _).mono ?_;rintro e w3 ⟨rfl,rfl⟩))
 have hb25:=hb4.trans (hb5.mono hb4.size)
 exact ⟨rfl,rfl,hLn2.below hb25 hmb,(hl1.trans hl2).trans (Lets.of_below hb25)⟩
theorem Zte (hO:Zbj W0 Y t sa sc ca cc mb) (s:Nat) (hT:TyIn t s) (hcan:canT (Zaa t (Zae t))=true) (w:World) (hw:LnT W0 mb t w) :
  Calls prog 199 #[.pointer Y] w (Zkl W0 mb t (.agg (ts (fl (Zaa t (Zae t))))) w):=by
 have hmb:=hO.mb_lt
 have hsz:=hw.2.size
 have HE:=hd_ (fun W (hW:LnT W0 mb t W)=>Zmu (hO.at_ hW) hT.calls)
 have HT:=hd_ (fun W (hW:LnT W0 mb t W)=>Zmt hO s hT _ (Zk1 hT) W hW)
 have HC:=hd_ (fun W=>t_can (Zaa t (Zae t)) W)
 have HA:=hd_ Zhl
 rw [hcan] at HC
 generalize Zaa t (Zae t)=TB at *
 generalize Zae t=ev at *
 clear hcan
 have hLn1:LnT W0 mb t (w.alloc (.cells zeroCells267 267)):=hw.below bel_ hmb
 have hl1:Lets (fun k _=>k=mb) w (w.alloc (.cells zeroCells267 267)):=Lets.of_below bel_
 have b2:Blk (w.alloc (.cells zeroCells267 267)) w.heap.size (ts fun _=>0) 267:=by rw [Zks];exact Blk.new _ _ _
 have l2:=b2.lt
 go_enter func199,ntmps199
 go_wp2_with (first
  | (go_at_call 205;refine (HE.out _ hLn1).mono ?_;rintro e w2 ⟨rfl,rfl⟩)
  | (go_at_call 204;refine (HT.out _ hLn1).mono ?_;rintro e w2 ⟨rfl,hLn2,hl2⟩;have b22:=hl2.blk b2 om_)
  | (refine Za1 267 (.tmp 3) (.tmp 7) Zaf rfl rfl rfl rfl (Blk.new _ _ _) Zmo (Zan _) (Zej _) ?_;intro w4 h4;have b4:=h4.blk;have hb4:=h4.below ((Below.refl _ w2).alloc nl_ _) nl_)
  | (refine Za0 267 (.tmp 3) Zaf rfl rfl rfl b4 (Zan _) ?_;refine Za2 ?_))
 unfold Stop
 have b24:=b22.below hb4 b22.lt
 have hs4:=hb4.size
 have lt4:=b4.lt
 clear h4
 go_wp2_with (first
  | (go_at_call 206;refine (HC.out _).mono ?_;rintro e w5 ⟨rfl,hb5⟩;have b25:=b24.below hb5 b24.lt;have b45:=b4.below hb5 b4.lt)
  | (go_at_call 195;refine (HA.out _ _).mono ?_;rintro e w3 ⟨rfl,rfl⟩)
  | (refine Za0 267 (.tmp 3) Zaf rfl rfl rfl b45 (Zan _) ?_)
  | (refine Za1 267 (.tmp 2) (.tmp 11) Zaf rfl rfl rfl rfl b25 (Zan _) (Zan _) (Zej _) ?_;intro w6 h6))
 have hb25:=hb4.trans (hb5.mono hb4.size)
 have hl6:Lets (fun k _=>k=w.heap.size) w5 w6:=(Lets.refl _ _).rowed h6 rfl
 refine bodyPost_ret (v:=.agg (ts (fl TB))) (Za5 rfl _ Zaf rfl h6.blk (Zan _)) rfl ⟨rfl,(hLn2.below hb25 hmb).lets hl6 hmb (fun k _ e=>om_),((hl1.trans hl2).trans (Lets.of_below hb25)).next hl6 (fun i hi _ e=>om_)⟩
def cntV (pen:Bool) (i:Nat):Value:=if pen then Zf4 i (i+1) else Zga i (i+1)
def cntX (pen:Bool) (s i:Nat):Nat × Nat:=if pen then penB s i else shornB i
theorem Zvc (hO:Zbj W0 Y t sa sc ca cc mb) (s:Nat) (hT:TyIn t s) (hcan:canT (Zaa t (Zae t))=false) (v:Value) (w:World) (hw:LnT W0 mb t w) :
  Calls prog 109 #[.pointer Y,v] w (Zig W0 mb t 10 w):=by
 have hmb:=hO.mb_lt
 have HT:=hd_ (fun W (hW:LnT W0 mb t W)=>Zv9 hO s hT hcan W hW)
 clear hcan
 have hLn1:LnT W0 mb t (w.alloc (.cells #[(),()] 23)):=hw.below bel_ hmb
 have hl1:Lets (fun k _=>k=mb) w (w.alloc (.cells #[(),()] 23)):=Lets.of_below bel_
 go_enter func109,ntmps109
 go_wp2_with (first
  | (go_at_call 199;refine (HT.out _ hLn1).mono ?_;rintro e w2 ⟨rfl,hLn2,hl2⟩))
 exact ⟨rfl,rfl,hLn2,hl1.trans hl2⟩
theorem _root_.Q17 {p:Prop}(h:p:=by
 have hb24:=hb3.trans (hb4.mono hb3.size)
 have hl6:Lets (fun k _=>k=w.heap.size) w4 w6:=(Lets.refl _ _).rowed h6 rfl
 refine bodyPost_ret (v:=.agg (spV (s1,s2))) (Za5 rfl _ Zav rfl h6.blk rfl) rfl ⟨rfl,(hLn2.below hb24 hmb).lets hl6 hmb (fun k _ e=>om_),((hl1.trans hl2).trans (Lets.of_below hb24)).next hl6 (fun i hi _ e=>om_)⟩):p:=h
theorem Zs7 (pen:Bool) (hO:Zbj W0 Y t sa sc ca cc mb) (s:Nat) (hT:TyIn t s) (hcan:canT (Zaa t (Zae t))=true) (i:Nat) (hi:i < s) (w:World) (hw:LnT W0 mb t w) :
  Calls prog 109 #[.pointer Y,cntV pen i] w (Zkl W0 mb t (.agg (spV (Zgv (Zaa t (Zae t)) (cntX pen s i).1 (cntX pen s i).2))) w):=by
 have hmb:=hO.mb_lt
 have hsz:=hw.2.size
 have h5:=hT.five
 have HT:=hd_ (fun W (hW:LnT W0 mb t W)=>Zte hO s hT hcan W hW)
 have hx:(cntX pen s i).1 < 11∧(cntX pen s i).2 < 11:=by
  cases pen
  ·show i+1 < 11∧i < 11;omega
  ·exact ⟨Zgj h5 hi,Zgj h5 om_⟩
 have HS:=hd_ (fun W=>t_span (Zaa t (Zae t)) (cntX pen s i).1 (cntX pen s i).2 0 0 hx.1 hx.2 W)
 have HE:Hid (∀ W,LnT W0 mb t W→Calls prog (if pen then 354 else 353) #[.agg #[.int .i64 (i:Int),.int .i64 ((i+1:Nat):Int)],.pointer Y] W (Zak (.agg (Zas ((cntX pen s i).1,(cntX pen s i).2,0,0))) W)):=fun W hW=>by
  cases pen
  ·exact Zet i (i+1) _ W
  ·exact Zgu (hO.at_ hW) s hT.sh i (i+1) om_ om_
 have hm : ∀ w, (method 551 (if pen then 168 else 166) (.agg #[.int .i64 (i : Int), .int .i64 ((i + 1 : Nat) : Int)]) "shearworks/tally.ends").run prog w = .ok (if pen then 354 else 353, .agg #[.int .i64 (i : Int), .int .i64 ((i + 1 : Nat) : Int)]) w := fun _ => by cases pen <;> kernel_rfl
 generalize Zgv (Zaa t (Zae t)) (cntX pen s i).1 (cntX pen s i).2=SP at *
 generalize (cntX pen s i).1=xa at *
 generalize (cntX pen s i).2=xb at *
 generalize Zaa t (Zae t)=TB at *
 clear hcan hx
 obtain ⟨s1,s2⟩:=SP
 have hLn1:LnT W0 mb t (w.alloc (.cells #[(),()] 23)):=hw.below bel_ hmb
 have hl1:Lets (fun k _=>k=mb) w (w.alloc (.cells #[(),()] 23)):=Lets.of_below bel_
 have b4:Blk (w.alloc (.cells #[(),()] 23)) w.heap.size (spV (0,0)) 23:=Blk.new _ _ _
 have hmf:=hmf_ prog
 unfold cntV Zf4 Zga
 generalize ((i+1:Nat):Int)=i1 at *
 cases pen
 ·simp only [Bool.false_eq_true,if_false] at *
  go_enter func109,ntmps109
  go_wp2_with (first
   | (go_at_call 199;refine (HT.out _ hLn1).mono ?_;rintro e w2 ⟨rfl,hLn2,hl2⟩;have b42:=hl2.blk b4 om_)
   | (go_at_call 353;refine (HE.out _ hLn2).mono ?_;rintro e w3 ⟨rfl,hb3⟩;have b43:=b42.below hb3 b42.lt)
   | (go_at_call 200;refine (HS.out _).mono ?_;rintro e w4 ⟨rfl,hb4⟩;have b44:=b43.below hb4 b43.lt)
   | (refine Za1 23 (.tmp 4) (.tmp 13) Zav rfl rfl rfl rfl b44 rfl rfl (by simp [spV,Value.oneCell']) ?_;intro w6 h6))
  exact Q17
 ·simp only [if_true] at *
  go_enter func109,ntmps109
  go_wp2_with (first
   | (go_at_call 199;refine (HT.out _ hLn1).mono ?_;rintro e w2 ⟨rfl,hLn2,hl2⟩;have b42:=hl2.blk b4 om_)
   | (go_at_call 354;refine (HE.out _ hLn2).mono ?_;rintro e w3 ⟨rfl,hb3⟩;have b43:=b42.below hb3 b42.lt)
   | (go_at_call 200;refine (HS.out _).mono ?_;rintro e w4 ⟨rfl,hb4⟩;have b44:=b43.below hb4 b43.lt)
   | (refine Za1 23 (.tmp 4) (.tmp 13) Zav rfl rfl rfl rfl b44 rfl rfl (by simp [spV,Value.oneCell']) ?_;intro w6 h6))
  exact Q17
end
theorem Zja (F:FuncId) (cb:Array Value) (p:Nat→Bool) (I:World→Prop) (X:Nat→Option Obj→Prop) (l:List Nat) (g cap n:Nat) (er:Int) (w:World) (hl:l.length≤256)(hn:n < l.length) (hlo:∀ j,(h:j < n)→p (l[j]'om_)=false) (hhi:p l[n]=true)
  (hcf:∀ (args:Array Value) (W:World),(callFunc F args).run prog W=.ok (.enter F args) W) (hU:RowU w g l) (hg:∀ o,¬ X g o) (hgl:g < w.heap.size) (hI:∀ w',Below w.heap.size w w'→I w')
  (HP:∀ w' x,x∈l→I w'→Calls prog F (#[.int .u64 (x:Nat)] ++ cb) w' (fun e w''=>e=.returned (.bool (p x))∧I w''∧Lets X w' w'')) :
  Calls prog 201 #[.slice g l.length cap,.agg #[.func (.func F) #[] cb],er] w (fun e w'=>e=.returned (.int .u64 (l[n]:Nat))∧I w'∧Lets X w w'):=by
 have HI:=hd_ (fun w' (hb:Below w.heap.size w w')=>idxU F cb p I X l g cap n (n:Int) w' hl om_ hlo (fun _=>hhi) (fun _=>rfl) om_ hcf (hU.lets (X:=X) (Lets.of_below hb) hg) hg (hI w' hb) HP)
 have HM:=hd_ Zhl
 have hlti:(n:Int) < (l.length:Int):=by omega
 have hl256:(l.length:Int)≤256:=by omega
 have hU2:=hd_ (fun w' (hb:Lets X w w')=>(hU.lets hb hg) n hn)
 generalize l[n]=y at *
 clear hlo hhi HP hU hcf hI
 go_enter func201,ntmps201
 have hBb:w (w.alloc (.cells #[.func (.func F) #[] cb] 277)):=by exact bel_
 go_wp2_with (first
  | (go_at_call 264;refine (HI.out _ hBb).mono ?_;rintro e w1 ⟨rfl,hI1,hl1⟩;have HI1:=hd_ hI1;clear hI1;have hl01:=(Lets.of_below (X:=X) hBb).trans hl1;have cu:=hU2.out w1 hl01)
  | (go_at_call 195;refine (HM.out _ _).mono ?_;rintro e w' ⟨rfl,rfl⟩))
 go_ret
 exact ⟨rfl,HI1,hl01⟩
theorem Zm0 (F:FuncId) (cb:Array Value) (p:Nat→Bool) (I:World→Prop) (X:Nat→Option Obj→Prop) (l:List Nat) (g cap:Nat) (er:Int) (w:World) (hl:l.length≤256)(hlo:∀ j,(h:j < l.length)→p l[j]=false)
  (hcf:∀ (args:Array Value) (W:World),(callFunc F args).run prog W=.ok (.enter F args) W) (hU:RowU w g l) (hg:∀ o,¬ X g o) (hgl:g < w.heap.size) (hI:∀ w',Below w.heap.size w w'→I w')
  (HP:∀ w' x,x∈l→I w'→Calls prog F (#[.int .u64 (x:Nat)] ++ cb) w' (fun e w''=>e=.returned (.bool (p x))∧I w''∧Lets X w' w'')) :
  Calls prog 201 #[.slice g l.length cap,.agg #[.func (.func F) #[] cb],er] w (fun e w'=>e=.panicked [{ v:=Zdz er,recovered:=false }]∧I w'∧Lets X w w'):=by
 have HI:=hd_ (fun w' (hb:Below w.heap.size w w')=>idxU F cb p I X l g cap l.length (-1) w' hl om_ hlo (fun h=>absurd h om_) (fun h=>absurd h om_) (fun _=>rfl) hcf (hU.lets (X:=X) (Lets.of_below hb) hg) hg (hI w' hb) HP)
 have HM:=hd_ Zgt
 clear hlo HP hU hcf hI
 go_enter func201,ntmps201
 have hBb:w (w.alloc (.cells #[.func (.func F) #[] cb] 277)):=by exact bel_
 go_wp2_with (first
  | (go_at_call 264;refine (HI.out _ hBb).mono ?_;rintro e w1 ⟨rfl,hI1,hl1⟩;have HI1:=hd_ hI1;clear hI1;have hl01:=(Lets.of_below (X:=X) hBb).trans hl1)
  | (go_at_call 195;refine (HM.out _ _).mono ?_;rintro e w' ⟨rfl,rfl⟩))
 exact ⟨rfl,rfl,HI1,hl01⟩
def upU (n k:Nat):Array Value:=((List.range n).map fun i=>Value.int .u64 (if i < k then (i:Int) else 0)).toArray
theorem Zs3 (n k:Nat):(upU n k).size=n:=by simp [upU]
theorem upU_get (n k:Nat) {i:Nat}(h:i < n):(upU n k)[i]? = some (.int .u64 (if i < k then (i:Int) else 0)):=by simp [upU,h]
theorem upU_set (n k:Nat) (h:k < n):(upU n k).setIfInBounds k (.int .u64 (k:Int))=upU n (k+1):=by
 apply Array.ext
 ·simp [upU]
 ·intro i h1 h2
  have hi:i < n:=by simpa [upU] using h2
  rw [Array.getElem_setIfInBounds (by rw [Zs3];exact hi)]
  by_cases e:k=i
  ·subst e;simp [upU]
  ·simp only [upU,e,if_false,List.getElem_toArray,List.getElem_map,List.getElem_range]
   by_cases h3:i < k
   ·simp [h3,show i < k+1 by omega]
   ·simp [h3,show ¬ i < k+1 by omega]
theorem Zs2 (n:Nat):Array.replicate n (.int .u64 0)=upU n 0:=by
 apply Array.ext
 ·simp [upU]
 ·intro i h1 h2;simp [upU]
theorem upU_full (n:Nat):upU n n=((List.range n).map u64V).toArray:=by
 unfold upU
 congr 1
 refine List.map_congr_left fun i hi=>?_
 rw [if_pos (List.mem_range.1 hi)]
 rfl
theorem Zva {w:World}{Y:Nat}{t:Ty}{sa:Option Addr}{sc:Nat}{ca:Option Addr}{cc mb:Nat}(h:YardAt w Y t sa sc ca cc mb) (hl:t.calls.length≤8) :
  Calls prog 202 #[.pointer Y] w (fun e w'=>∃ g cap,e=.returned (.slice (some ⟨g,0,none⟩) (2 ^ t.calls.length) cap)∧Below w.heap.size w w'∧RowU w' g (Stab.bySize t.calls.length)∧w.heap.size≤g∧g < w'.heap.size):=by
 obtain ⟨i0,hi,hz0,hz1,hz2⟩:=Zbp Tryz.infoU
 have HE:=hd_ (Zmu h hl)
 have HS:=hd_ Zuj
 have hp:0 < 2 ^ t.calls.length:=Nat.two_pow_pos _
 have hp8:2 ^ t.calls.length≤2 ^ 8:=Nat.pow_le_pow_right om_ hl
 unfold Zae at HE
 generalize t.calls.length=K at *
 obtain ⟨n,hn⟩:∃ n,2 ^ K=n:=⟨_,rfl⟩
 rw [hn] at HE hp hp8 ⊢
 have HN:=hd_ hn
 have hn256:n≤256:=hp8
 have hni:(n:Int)≤256:=by omega
 have hn1:((n - 1:Nat):Int)+1=(n:Int):=by omega
 have hn2:0≤((n - 1:Nat):Int)∧((n - 1:Nat):Int) < 256:=by omega
 generalize ((n - 1:Nat):Int)=m at *
 clear h hn hp8
 obtain ⟨W0,hW0⟩:∃ W,w.alloc (.cells (upU n 0) 151)=W:=⟨_,rfl⟩
 go_enter func202,ntmps202
 go_wp2_with (first
  | (go_at_call 205;refine HE.out.mono ?_;rintro e w2 ⟨rfl,rfl⟩)
  | (refine Zca rfl (.tmp 8) (.tmp 8) 273 rfl 151 i0 (.int .u64 0) underlying273 hi hz0 hz1 rfl .u64 .u64 (n:Int) (n:Int) n n rfl rfl rfl rfl nl_ (by rw [hz2];omega) (by unfold maxLen;omega) ?_;rw [Zs2]))
 have b0:Blk W0 w.heap.size (upU n 0) 151:=by rw [← hW0];exact Blk.new _ _ _
 have hB0:w W0:=by rw [← hW0];exact bel_
 clear hW0
 go_loopw [4,12] (fun x4 x12 wr=>∃ k:Nat,k≤n∧x12=↑k∧Below w.heap.size w wr∧Blk wr w.heap.size (upU n k) 151) (fun _ x12 _=>n - (intOf x12).toNat)
 case atStart=>exact ⟨0,om_,rfl,hB0,b0⟩
 case round =>
  clear b0 hB0
  obtain ⟨k,hk,rfl,hB,b⟩:=hrel
  by_cases hlt:k < n
  ·have hlti:(k:Int) < (n:Int):=by omega
   have fk:=b.free k
   have ck:wr.cell? ⟨w.heap.size,k,none⟩=some (.int .u64 0):=by rw [b.cell,upU_get _ _ hlt];simp
   have lb:=b.lt
   have hku:(k:Int)≤256:=by omega
   go_wp2_with fail
   have h2:=b.set k (.int .u64 (k:Int))
   rw [upU_set _ _ hlt] at h2
   exact ⟨⟨k+1,om_,by go_num,hB.setCell nl_ _,h2⟩,by simp [intOf];omega⟩
  ·have hlti:¬ (k:Int) < (n:Int):=by omega
   obtain rfl:k=n:=by omega
   rw [upU_full] at b
   have hlb:=b.lt
   have hs0:=hB.size
   clear hlti hlt hk
   have hsrc:∀ W,Below wr.heap.size wr W→Zy9 W (.slice w.heap.size k k) k 1 ((List.range k).map u64V):=fun W hW=>by
    have b':=b.below hW hlb
    refine ⟨sp_,.inr ⟨⟨w.heap.size,0,none⟩,k,rfl,?_⟩⟩
    exact Zdh b' _ rfl
   have HSrc:=hd_ hsrc
   clear hsrc
   go_wp2_with (first
    | (refine Zca rfl (.tmp 22) (.tmp 22) 273 rfl 151 i0 (.int .u64 0) underlying273 hi hz0 hz1 rfl .i64 .i64 (k:Int) (k:Int) k k rfl rfl rfl rfl nl_ (by rw [hz2];omega) (by unfold maxLen;omega) ?_;rw [Zs2]))
   have bA:Blk (wr.alloc (.cells (upU k 0) 151)) wr.heap.size (upU k 0) 151:=Blk.new _ _ _
   have hB1:Below wr.heap.size wr (wr.alloc (.cells (upU k 0) 151)):=br_.alloc nl_ _
   have hone:∀ v∈(List.range k).map u64V,v.oneCell'=true:=fun v hv=>by
    obtain ⟨x,_,rfl⟩:=List.mem_map.1 hv
    rfl
   rw [Zex (wr.alloc (.cells (upU k 0) 151)) 273 273 _ 151 i0 wr.heap.size k k k (.slice w.heap.size k k) (upU k 0) 151 ((List.range k).map u64V) underlying273 hi bA (by rw [hz1];exact HSrc.out _ hB1) rfl (by simp [Zs3]) hone]
   obtain ⟨w3,hw3⟩:∃ w3,(wr.alloc (.cells (upU k 0) 151)).setRow wr.heap.size ((List.range k).map u64V).toArray=w3:=⟨_,rfl⟩
   rw [hw3]
   have b3:Blk w3 wr.heap.size ((List.range k).map u64V).toArray 151:=by rw [← hw3];exact bA.setRow _
   have hl3:Lets (fun j _=>j=wr.heap.size) (wr.alloc (.cells (upU k 0) 151)) w3:=by rw [← hw3];exact ⟨rfl,rfl,rfl,sp_,fun j _ hj=>Go.setRow_other _ _ j _ hj⟩
   have hB3:Below wr.heap.size wr w3:=Za3 hB1 hl3 nl_ (fun _ _ _=>om_)
   have hown:w3.ownsRow wr.heap.size 151 1 (.slice (some ⟨wr.heap.size,0,none⟩) k k) k ((List.range k).map u64V):=⟨sp_,.inr ⟨wr.heap.size,k,_,rfl,Nat.le_refl _,b3,Nat.le_refl _,by unfold maxLen;omega,sp_,by simp [List.take_of_length_le]⟩⟩
   have hown2:w3.ownsRow wr.heap.size 151 1 (.slice (some ⟨wr.heap.size,0,none⟩) k k) (2 ^ K) ((List.range (2 ^ K)).map u64V):=by rw [HN.out];exact hown
   obtain ⟨g,cap,hg1,hg2,hcall⟩:=HS.out w3 wr.heap.size _ K hl hown2
   rw [HN.out] at hg1
   simp only [Value.slice.injEq,Option.some.injEq,Addr.mk.injEq,true_and,and_true] at hg1
   obtain ⟨rfl,rfl⟩:=hg1
   have HCall:=hd_ hcall
   have hB03:Below w.heap.size w w3:=hB.trans (hB3.mono hs0)
   clear hcall hown hown2 hw3 bA hB1 hone hl3 b HS HSrc
   go_wp2_with (first
    | (go_at_call 265;refine HCall.out.mono ?_;rintro e w9 ⟨rfl,hB9,hU,hgl⟩))
   go_ret
   exact ⟨_,_,rfl,hB03.trans (hB9.mono hs0),hU,hs0,hgl⟩
theorem _root_.Q29 {p:Prop}(h:p:=by
 intro K hK
 rcases (show K=0∨K=1∨K=2∨K=3∨K=4∨K=5∨K=6∨K=7∨K=8 by omega) with rfl|rfl|rfl|rfl|rfl|rfl|rfl|rfl|rfl <;> decide +kernel):p:=h
theorem Zq7:∀ K:Nat,K≤8→∀ x:Nat,x < 2 ^ K→bits .andNot .u64 ((2 ^ K - 1:Nat):Int) (x:Int)=((2 ^ K - 1 - x:Nat):Int):=Q29
section
variable {W0:World}{Y:Nat}{t:Ty}{sa:Option Addr}{sc:Nat}{ca:Option Addr}{cc mb:Nat}
theorem Zky (hO:Zbj W0 Y t sa sc ca cc mb) (s:Nat) (hT:TyIn t s) (p x:Nat) (hx:x < 2 ^ t.calls.length) (w:World) (hw:LnT W0 mb t w) (hp:Blk w p #[.pointer Y] 161) :
  Calls prog 203 #[.int .u64 (x:Nat),.pointer p] w (fun e w'=>e=.returned (.bool (canT (Zaa t (Zae t - x))))∧LnT W0 mb t w'∧Lets (fun k _=>k=mb) w w'):=by
 have hmb:=hO.mb_lt
 have h8:=hT.calls
 have hlt:=Zk1 hT
 have hand:=Zq7 _ h8 x hx
 rw [show (2 ^ t.calls.length - 1:Nat)=Zae t from rfl] at hand
 have HE:=hd_ (fun W (hW:LnT W0 mb t W)=>Zmu (hO.at_ hW) hT.calls)
 have HT:=hd_ (fun W (hW:LnT W0 mb t W)=>Zmt hO s hT (Zae t - x) om_ W hW)
 have HC:=hd_ (fun W=>t_can (Zaa t (Zae t - x)) W)
 generalize canT (Zaa t (Zae t - x))=v at *
 generalize Zaa t (Zae t - x)=TB at *
 generalize Zae t - x=d at *
 generalize Zae t=ev at *
 have r:=hp.cell
 have lp:=hp.lt
 have hwd:=hw.drew
 go_enter func203,ntmps203
 go_wp2_with fail
 refine Zyu [(0,0),(1,0),(2,0),(3,0),(4,0),(5,2),(6,2),(7,0)] (fun _=>True) kr_ kr_ trivial ?_
 go_wp2_with (first
  | (with_reducible refine Zyp ?_)
  | (go_at_call 204;refine (HT.out _ hwd).mono ?_;rintro e w2 ⟨rfl,hLn2,hl2⟩)
  | (go_at_call 206;refine (HC.out _).mono ?_;rintro e w3 ⟨rfl,hb3⟩)
  | (refine o_ ?_;intro K hK)|(with_reducible first|refine Zyo ?_ ?_|refine Zyj ?_|refine Zyf bn_ (fun _=>?_))
  | ((with_reducible refine Zyg ?_);refine Zyv rfl (fun W=>call205 _ W) (HE.out _ hwd) (fun K hK=>?_)))
 go_ret
 exact ⟨rfl,hLn2.below hb3 hmb,((Lets.refl _ _).drew.trans hl2).trans (Lets.of_below hb3)⟩
theorem t_Clash2 (hO:Zbj W0 Y t sa sc ca cc mb) (s:Nat) (hT:TyIn t s) (p x:Nat) (hx:x < 2 ^ t.calls.length) (w:World) (hw:LnT W0 mb t w) (hp:Blk w p #[.pointer Y] 161) :
  Calls prog 366 #[.int .u64 (x:Nat),.pointer p] w (fun e w'=>e=.returned (.bool (!canT (Zaa t x)))∧LnT W0 mb t w'∧Lets (fun k _=>k=mb) w w'):=by
 have hmb:=hO.mb_lt
 have h8:=hT.calls
 have h2:=Nat.pow_le_pow_right (show 0 < 2 by omega) h8
 have HT:=hd_ (fun W (hW:LnT W0 mb t W)=>Zmt hO s hT x om_ W hW)
 have HC:=hd_ (fun W=>t_can (Zaa t x) W)
 generalize canT (Zaa t x)=v at *
 generalize Zaa t x=TB at *
 have r:=hp.cell
 have lp:=hp.lt
 go_enter func366,ntmps366
 go_wp2_with (first
  | (go_at_call 204;refine (HT.out _ hw).mono ?_;rintro e w2 ⟨rfl,hLn2,hl2⟩)
  | (go_at_call 206;refine (HC.out _).mono ?_;rintro e w3 ⟨rfl,hb3⟩))
 go_ret
 exact ⟨rfl,hLn2.below hb3 hmb,hl2.trans (Lets.of_below hb3)⟩
theorem Zjj {K:Nat}(hK:K≤8):(∀ x∈Stab.bySize K,x < 2 ^ K)∧(Stab.bySize K).length=2 ^ K:=by
 obtain ⟨-,hlen,hall⟩:=Stab.bySize_all K hK
 exact ⟨fun x hx=>by have:=List.all_eq_true.1 hall x hx;rwa [Nat.blt_eq] at this,hlen⟩
theorem Zof (hO:Zbj W0 Y t sa sc ca cc mb) (s:Nat) (hT:TyIn t s) (hf:(Stab.bySize t.calls.length).find? (fun x=>canT (Zaa t (Zae t - x)))=none) (w:World) (hw:LnT W0 mb t w) :
  Calls prog 114 #[.pointer Y] w (Zig W0 mb t 10 w):=by
 have hmb:=hO.mb_lt
 have hsz:=hw.2.size
 obtain ⟨hall,hlen⟩:=Zjj hT.calls
 have h2:=Nat.pow_le_pow_right (show 0 < 2 by omega) hT.calls
 have HS:=hd_ (fun W (hW:LnT W0 mb t W)=>Zva (hO.at_ hW) hT.calls)
 have HP:Hid (∀ W p x,x∈Stab.bySize t.calls.length→LnT W0 mb t W→Blk W p #[.pointer Y] 161→Calls prog 203 #[.int .u64 (x:Nat),.pointer (some ⟨p,0,none⟩)] W (fun e w'=>e=.returned (.bool (canT (Zaa t (Zae t - x))))∧LnT W0 mb t w'∧Lets (fun k _=>k=mb) W w')):=fun W p x hx hW hp=>Zky hO s hT p x (hall x hx) W hW hp
 have hno:=List.find?_eq_none.1 hf
 obtain ⟨pr,hpr⟩:∃ pr:Nat→Bool,(fun x=>canT (Zaa t (Zae t - x)))=pr:=⟨_,rfl⟩
 have hprx:∀ x,canT (Zaa t (Zae t - x))=pr x:=fun x=>congrFun hpr x
 simp only [hprx] at HP hno
 have hl256:(Stab.bySize t.calls.length).length≤256:=by rw [hlen];omega
 rw [← hlen] at HS
 generalize Stab.bySize t.calls.length=L at *
 clear hf hpr hprx hlen hall h2
 have hcf:∀ (args:Array Value) (W:World),(callFunc 203 args).run prog W=.ok (.enter 203 args) W:=fun args W=>call203 args W
 have hmf:=hmf_ prog
 have bp:Blk (w.alloc (.cells #[.pointer Y] 161)) w.heap.size #[.pointer Y] 161:=Blk.new _ _ _
 have hb1:w (w.alloc (.cells #[.pointer Y] 161)):=br_.alloc nl_ _
 have hLn1:=hw.below hb1 hmb
 go_enter func114,ntmps114
 go_wp2_with (first
  | (go_at_call 202;refine (HS.out _ hLn1).mono ?_;rintro e w2 ⟨g,cap,rfl,hb2,hU,hg1,hg2⟩;refine Za2 ?_))
 unfold Stop
 have bp2:=bp.below hb2 bp.lt
 have hLn2:=hLn1.below hb2 hmb
 have hb02:w w2:=hb1.trans (hb2.mono sp_)
 have hI2:∀ w',Below w2.heap.size w2 w'→(LnT W0 mb t w'∧Blk w' w.heap.size #[.pointer Y] 161):=fun w' hb=>⟨hLn2.below hb hmb,bp2.below hb bp2.lt⟩
 have hgm:∀ o:Option Obj,¬ (fun (k:Nat) (_:Option Obj)=>k=mb) g o:=fun o e=>by have:=hb2.size;simp at hg1;omega
 go_wp2_with (first
  | (go_at_call 201;refine Za2 ?_))
 unfold Stop
 refine (Zm0 203 #[.pointer w.heap.size] pr (fun w'=>LnT W0 mb t w'∧Blk w' w.heap.size #[.pointer Y] 161) (fun k _=>k=mb) L g cap 10 w2 hl256 (fun j h=>by simpa using hno _ (List.getElem_mem h)) hcf hU hgm hg2 hI2 (fun w' x hx hI=>(HP.out w' w.heap.size x hx hI.1 hI.2).mono fun e w'' h=>⟨h.1,⟨h.2.1,h.2.2.blk hI.2 om_⟩,h.2.2⟩)).mono ?_
 rintro e w3 ⟨rfl,⟨hLn3,-⟩,hl3⟩
 exact ⟨rfl,rfl,hLn3,(Lets.of_below hb02).trans hl3⟩
theorem Zms (hO:Zbj W0 Y t sa sc ca cc mb) (s:Nat) (hT:TyIn t s) (y:Nat) (hf:(Stab.bySize t.calls.length).find? (fun x=>canT (Zaa t (Zae t - x)))=some y) (w:World) (hw:LnT W0 mb t w) :
  Calls prog 114 #[.pointer Y] w (Zkl W0 mb t (.int .u64 (y:Nat)) w):=by
 have hmb:=hO.mb_lt
 have hsz:=hw.2.size
 obtain ⟨hall,hlen⟩:=Zjj hT.calls
 have h2:=Nat.pow_le_pow_right (show 0 < 2 by omega) hT.calls
 have HS:=hd_ (fun W (hW:LnT W0 mb t W)=>Zva (hO.at_ hW) hT.calls)
 have HP:Hid (∀ W p x,x∈Stab.bySize t.calls.length→LnT W0 mb t W→Blk W p #[.pointer Y] 161→Calls prog 203 #[.int .u64 (x:Nat),.pointer (some ⟨p,0,none⟩)] W (fun e w'=>e=.returned (.bool (canT (Zaa t (Zae t - x))))∧LnT W0 mb t w'∧Lets (fun k _=>k=mb) W w')):=fun W p x hx hW hp=>Zky hO s hT p x (hall x hx) W hW hp
 obtain ⟨hy,n,hn,hny,hlo⟩:=List.find?_eq_some_iff_getElem.1 hf
 obtain ⟨pr,hpr⟩:∃ pr:Nat→Bool,(fun x=>canT (Zaa t (Zae t - x)))=pr:=⟨_,rfl⟩
 have hprx:∀ x,canT (Zaa t (Zae t - x))=pr x:=fun x=>congrFun hpr x
 simp only [hprx] at HP hy hlo
 have hl256:(Stab.bySize t.calls.length).length≤256:=by rw [hlen];omega
 rw [← hlen] at HS
 generalize Stab.bySize t.calls.length=L at *
 clear hf hpr hprx hlen hall h2
 have hcf:∀ (args:Array Value) (W:World),(callFunc 203 args).run prog W=.ok (.enter 203 args) W:=fun args W=>call203 args W
 have hmf:=hmf_ prog
 have bp:Blk (w.alloc (.cells #[.pointer Y] 161)) w.heap.size #[.pointer Y] 161:=Blk.new _ _ _
 have hb1:w (w.alloc (.cells #[.pointer Y] 161)):=br_.alloc nl_ _
 have hLn1:=hw.below hb1 hmb
 have HN:=hd_ hny
 have HLo:=hd_ hlo
 have HYy:=hd_ hy
 clear hny hlo hy
 go_enter func114,ntmps114
 go_wp2_with (first
  | (go_at_call 202;refine (HS.out _ hLn1).mono ?_;rintro e w2 ⟨g,cap,rfl,hb2,hU,hg1,hg2⟩;refine Za2 ?_))
 unfold Stop
 have bp2:=bp.below hb2 bp.lt
 have hLn2:=hLn1.below hb2 hmb
 have hb02:w w2:=hb1.trans (hb2.mono sp_)
 have hI2:∀ w',Below w2.heap.size w2 w'→(LnT W0 mb t w'∧Blk w' w.heap.size #[.pointer Y] 161):=fun w' hb=>⟨hLn2.below hb hmb,bp2.below hb bp2.lt⟩
 have hgm:∀ o:Option Obj,¬ (fun (k:Nat) (_:Option Obj)=>k=mb) g o:=fun o e=>by have:=hb2.size;simp at hg1;omega
 go_wp2_with (first
  | (go_at_call 201;refine Za2 ?_))
 unfold Stop
 refine (Zja 203 #[.pointer w.heap.size] pr (fun w'=>LnT W0 mb t w'∧Blk w' w.heap.size #[.pointer Y] 161) (fun k _=>k=mb) L g cap n 10 w2 hl256 hn (fun j h=>by simpa using HLo.out j h) (by rw [HN.out];exact HYy.out) hcf hU hgm hg2 hI2 (fun w' x hx hI=>(HP.out w' w.heap.size x hx hI.1 hI.2).mono fun e w'' h=>⟨h.1,⟨h.2.1,h.2.2.blk hI.2 om_⟩,h.2.2⟩)).mono ?_
 rw [HN.out]
 rintro e w3 ⟨rfl,⟨hLn3,-⟩,hl3⟩
 go_wp2_with fail
 go_ret
 exact ⟨rfl,hLn3,(Lets.of_below hb02).trans hl3⟩
end
theorem Zih (t:Ty) (isB:Bool) (sa:Option Addr) (sc:Nat) (ca:Option Addr) (cc:Nat) (F:FuncId) (cap:Array Value) (w:World) (hr:RowsAt w sa 2 Zax t.strays) (hrc:RowsAt w ca 4 Zcn t.calls) (hls:t.strays.length≤9223372036854775807) (hlc:t.calls.length≤9223372036854775807)
  (hcf:∀ (args:Array Value) (W:World),(callFunc F args).run prog W=.ok (.enter F args) W)
  (HIS0:∀ w' Y mb,Below w.heap.size w w'→tyOk t=true→Zbj w' Y t sa sc ca cc mb→Calls prog F (#[.pointer (some ⟨Y,0,none⟩)] ++ cap) w' (Same (.bool isB) w')) :
  Calls prog 106 #[.agg (tyV t sa sc ca cc),.func (.func F) #[] cap] w (Zbw t isB sa sc ca cc w):=by
 by_cases hh:Zwo t
 ·exact Ztf t isB sa sc ca cc F cap w hr hrc hh hcf HIS0
 ·refine (Zvb t sa sc ca cc _ w hls hlc hh).mono fun e w' h=>?_
  unfold Zbw
  rw [if_pos (Zv5 hh)]
  exact h
theorem Zhs {t:Ty}{isB:Bool}{sa:Option Addr}{sc:Nat}{ca:Option Addr}{cc:Nat}{w:World}{e:Ending}{w':World}(h:Zbw t isB sa sc ca cc w e w') (hk:tyOk t=false∨isB=false):Zkk (if tyOk t=false then 1 else 2) w e w':=by
 unfold Zbw at h
 by_cases h1:tyOk t=false
 ·rw [if_pos h1] at h ⊢;exact h
 ·rw [if_neg h1] at h ⊢
  rcases hk with hk|hk
  ·exact absurd hk h1
  ·rw [if_pos hk] at h;exact h
theorem Zgz {t:Ty}{isB:Bool}{sa:Option Addr}{sc:Nat}{ca:Option Addr}{cc:Nat}{w:World}{e:Ending}{w':World}(h:Zbw t isB sa sc ca cc w e w') (hk:tyOk t=true) (hb:isB=true):∃ Y mb,e=.returned (.pointer (some ⟨Y,0,none⟩))∧w w'∧Zbj w' Y t sa sc ca cc mb∧w.heap.size≤Y∧w.heap.size≤mb:=by
 unfold Zbw at h
 rw [if_neg (by rw [hk];decide),if_neg (by rw [hb];decide)] at h
 exact h
section
variable (t:Ty) (sa:Option Addr) (sc:Nat) (ca:Option Addr) (cc:Nat) (w:World) (hr:RowsAt w sa 2 Zax t.strays) (hrc:RowsAt w ca 4 Zcn t.calls) (hls:t.strays.length≤9223372036854775807) (hlc:t.calls.length≤9223372036854775807)
include hr hrc hls hlc
theorem Zkz (hk:tyOk t=false) (W:World) (hb:Below w.heap.size w W):Calls prog 106 #[.agg (tyV t sa sc ca cc),.func (.func 113) #[] #[]] W (Zkk 1 W) :=
 (Zih t true sa sc ca cc 113 #[] W (hr.below hb) (hrc.below hb) hls hlc (fun args W=>call113 args W) (fun w' Y mb hb' hc hO=>Zs9 _ _)).mono fun e w' h=>by have:=Zhs h (.inl hk);rwa [if_pos hk] at this
theorem Zj8 (hk:tyOk t=true) (W:World) (hb:Below w.heap.size w W):Calls prog 106 #[.agg (tyV t sa sc ca cc),.func (.func 113) #[] #[]] W (fun e w'=>∃ Y mb,e=.returned (.pointer (some ⟨Y,0,none⟩))∧Below W.heap.size W w'∧Zbj w' Y t sa sc ca cc mb∧W.heap.size≤Y∧W.heap.size≤mb) :=
 (Zih t true sa sc ca cc 113 #[] W (hr.below hb) (hrc.below hb) hls hlc (fun args W=>call113 args W) (fun w' Y mb hb' hc hO=>Zs9 _ _)).mono fun e w' h=>Zgz h hk rfl
theorem Zoi (hk:tyOk t=false) :
  Calls prog 364 #[.agg (tyV t sa sc ca cc)] w (Zfn (tyOk t) w):=by
 have HO:=hd_ (Zkz t sa sc ca cc w hr hrc hls hlc hk)
 rw [hk]
 have hmf:=hmf_ prog
 clear hr hrc hls hlc hk
 have bm0:Blk (w.alloc (.cells (tyV t sa sc ca cc) 58)) w.heap.size (tyV t sa sc ca cc) 58:=Blk.new _ _ _
 obtain ⟨W5,hW5⟩:∃ W5,((w.alloc (.cells (tyV t sa sc ca cc) 58)).alloc (.cells #[()] 31))=W5:=⟨_,rfl⟩
 have hB5:Below w.heap.size w W5:=by rw [← hW5];exact bel_
 have bm:Blk W5 w.heap.size (tyV t sa sc ca cc) 58:=by rw [← hW5];exact bm0.alloc _
 have b4:Blk W5 (w.heap.size+1) #[()] 31:=by rw [← hW5];exact Blk.new' _ _ _ _ sp_
 have hs5:W5.heap.size=w.heap.size+2:=by rw [← hW5];simp
 have hs5a:W5.heap.size≤w.heap.size+2∧w.heap.size+2≤W5.heap.size:=by omega
 clear hs5 bm0
 have HO5:=hd_ (HO.out W5 hB5)
 unfold tyV at *
 generalize t.strays.length=nl at *
 generalize t.calls.length=nc at *
 refine callsIn_wide.1 (callsIn_of_wp_marks (F:=Fence.wide) (n:=0) func364 rfl trivial (wpIn_wide.2 ?_) rfl)
 simp only [ntmps364,List.size_toArray,List.length_cons,List.length_nil,Nat.reduceAdd,Nat.reduceSub,Array.replicate_succ,Array.replicate_zero,List.push_toArray,List.append_toArray,List.nil_append,List.cons_append]
 go_wp2_with (first
  | (refine Za0 58 (.tmp 1) Zbh rfl rfl rfl bm rfl ?_)
  | (go_at_call 106;refine Za2 ?_))
 unfold Stop
 clear hW5
 refine HO5.out.mono ?_
 rintro e w6 ⟨rfl,hb6⟩
 have hB6:w w6:=hB5.trans (hb6.mono om_)
 refine Zal (pb:=w.heap.size+1) (v:=.tuple #[(),.int .i64 1]) Zfd (fun W=>by simp [go_sem]) rfl (b4.below hb6 b4.lt) fun w' hl hb=>⟨?_,0,1,rfl,Za3 hB6 hl (by have:=hb6.size;omega) (fun _ _ _=>om_),sp_⟩
 have r4:=hb.cell
 simp [results,results364,go_sem,r4]
theorem Ztk (hk:tyOk t=true) :
  Calls prog 364 #[.agg (tyV t sa sc ca cc)] w (Zfn (tyOk t) w):=by
 have HO:=hd_ (Zj8 t sa sc ca cc w hr hrc hls hlc hk)
 have hT:=Zcb hk
 rw [hk]
 have hmf:=hmf_ prog
 obtain ⟨hall,hlen⟩:=Zjj hT.calls
 have h2:=Nat.pow_le_pow_right (show 0 < 2 by omega) hT.calls
 have HS:Hid (∀ {W0:World}{Y mb:Nat},Zbj W0 Y t sa sc ca cc mb→∀ W,LnT W0 mb t W→_):=fun hO W hW=>Zva (hO.at_ hW) hT.calls
 have HP:Hid (∀ {W0:World}{Y mb:Nat},Zbj W0 Y t sa sc ca cc mb→∀ W p x,x∈Stab.bySize t.calls.length→LnT W0 mb t W→Blk W p #[.pointer Y] 161→Calls prog 366 #[.int .u64 (x:Nat),.pointer (some ⟨p,0,none⟩)] W (fun e w'=>e=.returned (.bool (!canT (Zaa t x)))∧LnT W0 mb t w'∧Lets (fun k _=>k=mb) W w')):=fun hO W p x hx hW hp=>t_Clash2 hO _ hT p x (hall x hx) W hW hp
 have hl256:(Stab.bySize t.calls.length).length≤256:=by rw [hlen];omega
 rw [← hlen] at HS
 have hle:∀ x∈Stab.bySize t.calls.length,x < 256:=fun x hx=>by have:=hall x hx;omega
 generalize Stab.bySize t.calls.length=L at *
 clear hr hrc hls hlc hk hlen hall h2 hT
 have bm0:Blk (w.alloc (.cells (tyV t sa sc ca cc) 58)) w.heap.size (tyV t sa sc ca cc) 58:=Blk.new _ _ _
 obtain ⟨W5,hW5⟩:∃ W5,((w.alloc (.cells (tyV t sa sc ca cc) 58)).alloc (.cells #[()] 31))=W5:=⟨_,rfl⟩
 have hB5:Below w.heap.size w W5:=by rw [← hW5];exact bel_
 have bm:Blk W5 w.heap.size (tyV t sa sc ca cc) 58:=by rw [← hW5];exact bm0.alloc _
 have b4:Blk W5 (w.heap.size+1) #[()] 31:=by rw [← hW5];exact Blk.new' _ _ _ _ sp_
 have hs5:W5.heap.size=w.heap.size+2:=by rw [← hW5];simp
 have hs5a:W5.heap.size≤w.heap.size+2∧w.heap.size+2≤W5.heap.size:=by omega
 clear hs5 bm0
 have HO5:=hd_ (HO.out W5 hB5)
 unfold tyV at *
 generalize t.strays.length=nl at *
 generalize t.calls.length=nc at *
 refine callsIn_wide.1 (callsIn_of_wp_marks (F:=Fence.wide) (n:=0) func364 rfl trivial (wpIn_wide.2 ?_) rfl)
 simp only [ntmps364,List.size_toArray,List.length_cons,List.length_nil,Nat.reduceAdd,Nat.reduceSub,Array.replicate_succ,Array.replicate_zero,List.push_toArray,List.append_toArray,List.nil_append,List.cons_append]
 go_wp2_with (first
  | (refine Za0 58 (.tmp 1) Zbh rfl rfl rfl bm rfl ?_)
  | (go_at_call 106;refine Za2 ?_))
 unfold Stop
 clear hW5
 refine HO5.out.mono ?_
 rintro e w6 ⟨Y,mb,rfl,hb6,hOp,hY,hmb⟩
 have hB6:w w6:=hB5.trans (hb6.mono om_)
 have b46:=b4.below hb6 b4.lt
 have hmbl:=hOp.mb_lt
 have hs56:=hb6.size
 obtain ⟨w7,hw7⟩:∃ w7,w6.alloc (.cells #[.pointer Y] 161)=w7:=⟨_,rfl⟩
 have hb67:Below w6.heap.size w6 w7:=by rw [← hw7];exact bel_
 have bF:Blk w7 w6.heap.size #[.pointer Y] 161:=by rw [← hw7];exact Blk.new _ _ _
 have hs7:w7.heap.size=w6.heap.size+1:=by rw [← hw7];simp
 have hLn7:LnT w6 mb t w7:=(LnT.start hOp).below hb67 hmbl
 have b47:=b46.below hb67 b46.lt
 have hB7:Below w.heap.size w w7:=hB6.trans (hb67.mono hB6.size)
 clear HO5 HO hb6 b46 hB6
 have rF:=bF.cell
 have lF:=bF.lt
 go_wp2_with (first
  | (go_at_call 202;refine (HS.out hOp _ hLn7).mono ?_;rintro e w9 ⟨g,cap,rfl,hB79,hU,hg1,hgl⟩;refine Za2 ?_))
 unfold Stop
 have hLn9:=hLn7.below hB79 om_
 have b49:=b47.below hB79 b47.lt
 have bF9:=bF.below hB79 bF.lt
 have hBw9:w w9:=hB7.trans (hB79.mono hB7.size)
 have hs79:=hB79.size
 clear hw7 hb67 hB79
 generalize hp6:w6.heap.size=p6 at *
 have hcf:∀ (args:Array Value) (W:World),(callFunc 366 args).run prog W=.ok (.enter 366 args) W:=fun args W=>call366 args W
 have HPP:Hid (∀ w' x,x∈L→(LnT w6 mb t w'∧Blk w' p6 #[.pointer Y] 161)→Calls prog 366 (#[.int .u64 (x:Nat)] ++ #[.pointer p6]) w' (fun e w''=>e=.returned (.bool (!canT (Zaa t x)))∧(LnT w6 mb t w''∧Blk w'' p6 #[.pointer Y] 161)∧Lets (fun k _=>k=mb) w' w'')):=fun w' x hx hI =>
  (HP.out hOp w' p6 x hx hI.1 hI.2).mono fun e w'' h=>⟨h.1,⟨h.2.1,h.2.2.blk hI.2 om_⟩,h.2.2⟩
 have hI9:∀ w',Below w9.heap.size w9 w'→(LnT w6 mb t w'∧Blk w' p6 #[.pointer Y] 161):=fun w' hb=>⟨hLn9.below hb om_,bF9.below hb bF9.lt⟩
 go_wp2_with (first
  | (go_at_call 201;refine Za2 ?_))
 unfold Stop
 cases hf:L.find? (fun x=>!canT (Zaa t x)) with
 | none =>
  have hno:=List.find?_eq_none.1 hf
  refine (Zm0 366 #[.pointer p6] (fun x=>!canT (Zaa t x)) _ (fun k _=>k=mb) L g cap 4 w9 hl256 (fun j h=>by simpa using hno _ (List.getElem_mem h)) hcf hU (fun _ e=>om_) hgl hI9 HPP.out).mono ?_
  rintro e wa ⟨rfl,⟨hLna,bFa⟩,hla⟩
  refine Zal (pb:=w.heap.size+1) (v:=.tuple #[(),.int .i64 4]) Zfd (fun W=>by simp [go_sem]) rfl (hla.blk b49 om_) fun w' hl hb=>⟨?_,0,4,rfl,Za3 (Za3 hBw9 hla om_ (fun _ _ _=>om_)) hl (by have:=hla.size;omega) (fun _ _ _=>om_),sp_⟩
  have r4:=hb.cell
  simp [results,results364,go_sem,r4]
 | some y =>
  obtain ⟨hy,n,hn,hny,hlo⟩:=List.find?_eq_some_iff_getElem.1 hf
  refine (Zja 366 #[.pointer p6] (fun x=>!canT (Zaa t x)) _ (fun k _=>k=mb) L g cap n 4 w9 hl256 hn (fun j h=>by simpa using hlo j h) (by rw [hny];exact hy) hcf hU (fun _ e=>om_) hgl hI9 HPP.out).mono ?_
  rw [hny]
  rintro e wa ⟨rfl,⟨hLna,bFa⟩,hla⟩
  have hyi:y < 256:=by rw [← hny];exact hle _ (List.getElem_mem hn)
  have b4a:=hla.blk b49 om_
  have r4a:=b4a.cell
  have f4a:=b4a.free
  have l4a:=b4a.lt
  have hBa:w wa:=Za3 hBw9 hla om_ (fun _ _ _=>om_)
  clear HPP hI9 hU
  go_wp2_with fail
  obtain ⟨Wf,hWf⟩:∃ Wf,wa.setCell ⟨w.heap.size+1,0,none⟩ ↑()=Wf:=⟨_,rfl⟩
  have r4f:=(by rw [← hWf];exact b4a.set 0 _:Blk Wf (w.heap.size+1) #[()] 31).cell
  have hbf:Below w.heap.size w Wf:=by rw [← hWf];exact hBa.setCell (by simp only;omega) _
  change bodyPostM Fence.wide 0 prog _ _ .ret _ (wa.setCell ⟨w.heap.size+1,0,none⟩ ↑())
  rw [hWf]
  refine Zcd (pb:=w.heap.size+1) (v:=.tuple #[y,()]) Zfd (fun W=>by simp [go_sem]) rfl ?_ ⟨_,0,rfl,hbf,sp_⟩
  simp [results,results364,go_sem,r4f]
theorem t_Clash:Calls prog 364 #[.agg (tyV t sa sc ca cc)] w (Zfn (tyOk t) w):=by
 cases h:tyOk t with
 | false=>rw [← h];exact Zoi t sa sc ca cc w hr hrc hls hlc h
 | true=>rw [← h];exact Ztk t sa sc ca cc w hr hrc hls hlc h
end
end Go.Proofs.YtbapgefodmmikaaGreatDoor
