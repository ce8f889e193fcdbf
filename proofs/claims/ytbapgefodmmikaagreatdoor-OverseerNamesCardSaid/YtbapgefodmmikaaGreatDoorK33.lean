/- Parts of a proof. -/
import Derived.Test.YtbapgefodmmikaaGreatDoorKMin
import Derived.Test.YtbapgefodmmikaaGreatDoorK32
import Derived.Lib.SmallJoins
import Derived.Lib.AtoiAllCases
set_option linter.unusedVariables false
set_option linter.unusedSimpArgs false
set_option maxHeartbeats 40000000
set_option maxRecDepth 100000
namespace Go.Proofs.YtbapgefodmmikaaGreatDoor
open Go.RowKit Go.Proofs Go.Ord Tryz
attribute [local irreducible] Ord.walk
attribute [local go_sem] Oper.semAt_some
theorem Zhs:∀ (k f u:Nat),k < f→(digF f u).length≤k→u < 10 ^ k
 | k,0,u,h,_=>absurd h om_
 | 0,f+1,u,_,h=>by
  rw [digF] at h
  split at h <;> simp at h
 | k+1,f+1,u,h,hl=>by
  rw [digF] at hl
  split at hl
  ·have:10 ^ 1≤10 ^ (k+1):=Nat.pow_le_pow_right om_ om_
   omega
  ·have:=Zhs k f (u / 10) om_ (by simp at hl;omega)
   rw [Nat.pow_succ]
   omega
theorem Zot:∀ (f u:Nat),∀ x∈digF f u,48≤x.toNat
 | 0,u,x,h=>by simp [digF] at h
 | f+1,u,x,h=>by
  have key:∀ d,d < 10→48≤(48+UInt8.ofNat d).toNat:=by decide
  rw [digF] at h
  split at h
  ·simp at h
   subst h
   exact key u as_
  ·rcases List.mem_append.1 h with h|h
   ·exact Zot f _ x h
   ·simp at h
    subst h
    exact key (u % 10) om_
theorem Zvb {n:Int}(h:(magO (Zgx n)).length≤4) (hn:I64 n) : -9999≤n∧n≤9999:=by
 unfold Zgx magO at h
 split at h
 ·rw [if_pos sp_] at h
  have:=Zhs 4 20 n.natAbs om_ (by simpa using h)
  omega
 ·rw [if_neg (by
   intro e
   obtain ⟨x,hx⟩:∃ x,(digF 20 n.toNat).head? = some x∧x=45:=⟨_,e,rfl⟩
   have:=Zot 20 n.toNat x (List.mem_of_mem_head? hx.1)
   rw [hx.2] at this
   exact absurd this de_)] at h
  have:=Zhs 4 20 n.toNat om_ h
  omega
theorem trim_mag (s:Bs):Lib.trimPrefix s [45]=magO s:=by
 unfold Lib.trimPrefix magO
 cases s with
 | nil=>rfl
 | cons c r =>
  by_cases h:c=45
  ·subst h;rfl
  ·simp [Lib.hasPrefix,h]
   intro e
   exact absurd e.symm h
theorem Zt3 {s:Bs}{n:Int}(h:numO s=some n) : -9999≤n∧n≤9999:=by
 unfold numO at h
 split at h
 ·rename_i v hv
  split at h
  ·rename_i hc
   cases h
   have hb:=Lib.atoiAll_bounds hv
   exact Zvb (by rw [hc.1];exact hc.2) hb
  ·cases h
 ·cases h
def NumP (r:Option Int) (w:World) (e:Ending) (w':World):Prop :=
 match r with
 | some n=>e=.returned ↑n∧w w'
 | none=>Zx7 8 w e w'
theorem _root_.Qy {p:Prop}(h:p:=by
 have heq:∀ N w,(binOp .eql 196 (.iface 374 (.pointer (some ⟨N,0,none⟩))) .nilIface).run prog w=.ok (.bool false) w:=fun _ _=>by kernel_rfl
 unfold strV at *
 clear hv hnum hsz
 go_enter func66,ntmps66
 go_wp2_with (first
  | (go_at_call 149;refine HA.out.mono ?_;rintro e w2 ⟨N,n,rfl,hb2⟩)
  | (go_at_call 64;refine (HNo.out _).mono ?_;rintro e w5 ⟨rfl,rfl⟩))
 exact ⟨rfl,rfl,hb2⟩):p:=h
theorem o_number (s:Bs) (hs:s.length≤1000000) (w:World) (hv:VarsOk w) :
  Calls prog 66 #[strV s] w (NumP (numO s) w):=by
 have hsz:(⟨s.toArray⟩:ByteArray).size=s.length:=by simp [ByteArray.size]
 have HNo:=hd_ (fun W=>Zdb 8 W)
 have HYes:=hd_ (fun W=>Zbs 8 W)
 cases hA:Lib.atoiAll s with
 | ok n =>
  have hb:=Lib.atoiAll_bounds hA
  have hnum:numO s=if Zgx n=s∧(magO s).length≤4 then some n else none:=by unfold numO;rw [hA]
  rw [hnum]
  have HA:Hid (Calls prog 149 #[.string ⟨s.toArray⟩] w (fun e w'=>e=.returned (.tuple #[.int .i64 n,.nilIface])∧Below w.heap.size w w')):=(Tryz.strconv_Atoi_ok ⟨s.toArray⟩ (by rw [hsz];omega) n hA w).mono (by
   rintro e w' ⟨rfl,rfl | ⟨t,rfl⟩⟩
   ·exact ⟨rfl,Below.refl _ _⟩
   ·exact ⟨rfl,Go.Joins.below_bytesWorld _ _ _ _ nl_⟩)
  have HI:=hd_ (fun W (hB:Below w.heap.size w W)=>o_Itoa n hb W (hv.below hB hv.2.2.2.2))
  have HT:Hid (∀ W,Calls prog 164 #[.string ⟨s.toArray⟩,.string ⟨#[45]⟩] W (fun e w'=>e=.returned (.string ⟨(magO s).toArray⟩)∧w'=W)):=fun W=>(Tryz.strings_TrimPrefix ⟨s.toArray⟩ ⟨#[45]⟩ W).mono (by
   rintro e w' ⟨rfl,rfl⟩
   exact ⟨by rw [← trim_mag],rfl⟩)
  have hml:(magO s).length≤s.length:=by unfold magO;split <;> simp
  unfold strV at *
  clear hv hnum hsz
  generalize Zgx n=t at *
  generalize magO s=ms at *
  by_cases h1:t=s
  ·subst h1
   by_cases h2:ms.length≤4
   ·rw [if_pos ⟨rfl,h2⟩]
    have h2i:(ms.length:Int)≤4:=by omega
    go_enter func66,ntmps66
    go_wp2_with (first
     | (go_at_call 149;refine HA.out.mono ?_;rintro e w2 ⟨rfl,hb2⟩)
     | (go_at_call 30;refine (HI.out _ hb2).mono ?_;rintro e w3 ⟨rfl,hb3⟩)
     | (go_at_call 164;refine (HT.out _).mono ?_;rintro e w4 ⟨rfl,rfl⟩)
     | (go_at_call 64;refine (HYes.out _).mono ?_;rintro e w5 ⟨rfl,rfl⟩))
    go_ret
    exact ⟨rfl,hb2.trans (hb3.mono hb2.size)⟩
   ·rw [if_neg (fun e=>h2 e.2)]
    have h2i:¬ (ms.length:Int)≤4:=by omega
    have h2d:decide ((ms.length:Int)≤4)=false:=by simpa using h2i
    go_enter func66,ntmps66
    go_wp2_with (first
     | (go_at_call 149;refine HA.out.mono ?_;rintro e w2 ⟨rfl,hb2⟩)
     | (go_at_call 30;refine (HI.out _ hb2).mono ?_;rintro e w3 ⟨rfl,hb3⟩)
     | (go_at_call 164;refine (HT.out _).mono ?_;rintro e w4 ⟨rfl,rfl⟩)
     | (go_at_call 64;refine (HNo.out _).mono ?_;rintro e w5 ⟨rfl,rfl⟩))
    exact ⟨rfl,rfl,hb2.trans (hb3.mono hb2.size)⟩
  ·rw [if_neg (fun e=>h1 e.1)]
   have hne:(t == s)=false:=by simpa using h1
   go_enter func66,ntmps66
   go_wp2_with (first
     | (go_at_call 149;refine HA.out.mono ?_;rintro e w2 ⟨rfl,hb2⟩)
     | (go_at_call 30;refine (HI.out _ hb2).mono ?_;rintro e w3 ⟨rfl,hb3⟩)
     | (go_at_call 164;refine (HT.out _).mono ?_;rintro e w4 ⟨rfl,rfl⟩)
     | (go_at_call 64;refine (HNo.out _).mono ?_;rintro e w5 ⟨rfl,rfl⟩))
   exact ⟨rfl,rfl,hb2.trans (hb3.mono hb2.size)⟩
 | range =>
  have hnum:numO s=none:=by unfold numO;rw [hA]
  rw [hnum]
  obtain ⟨te,pe,hv5⟩:=hv.2.2.2.1
  have HA:Hid (Calls prog 149 #[.string ⟨s.toArray⟩] w (fun e w'=>∃ N n,e=.returned (.tuple #[.int .i64 n,.iface 374 (.pointer (some ⟨N,0,none⟩))])∧Below w.heap.size w w')):=(Tryz.strconv_Atoi_range ⟨s.toArray⟩ (by rw [hsz];omega) hA _ w hv5 (.inr ⟨te,pe,rfl⟩)).mono (by
   rintro e w' ⟨N,rfl,h1,h2,h3⟩
   exact ⟨N,_,rfl,h3⟩)
  exact Qy
 | _ =>
  have hnum:numO s=none:=by unfold numO;rw [hA]
  rw [hnum]
  obtain ⟨te,pe,hv5⟩:=hv.2.2.1
  have HA:Hid (Calls prog 149 #[.string ⟨s.toArray⟩] w (fun e w'=>∃ N n,e=.returned (.tuple #[.int .i64 n,.iface 374 (.pointer (some ⟨N,0,none⟩))])∧Below w.heap.size w w')):=(Tryz.strconv_Atoi_syntax ⟨s.toArray⟩ (by rw [hsz];omega) hA _ w hv5 (.inr ⟨te,pe,rfl⟩)).mono (by
   rintro e w' ⟨N,rfl,h1,h2,h3⟩
   exact ⟨N,_,rfl,h3⟩)
  exact Qy
end Go.Proofs.YtbapgefodmmikaaGreatDoor
namespace Go.Proofs.YtbapgefodmmikaaGreatDoor
open Go.RowKit Go.Proofs Go.Ord Tryz
attribute [local irreducible] Ord.walk
open Go.MapG
attribute [local go_sem] Oper.semAt_some
abbrev Wv:=Int × Value
def vfW (x:Wv):Value:=.agg #[.int .i64 x.1,x.2]
def okW (s:Bs):Prop:=s.length≤1000000
theorem strV_inj {a b:Bs}(h:strV a=strV b):a=b:=by
 unfold strV at h
 simp only [Value.string.injEq,ByteArray.mk.injEq] at h
 have:=congrArg Array.toList h
 simpa using this
theorem kw_key {s:Bs}(h:okW s):∃ l,keyOf prog 9 (strV s)=some l :=
 ⟨_,WideMaps.keyOf_string_mk (P:=prog) underlying9 (s:=⟨s.toArray⟩) (by
  unfold okW at h
  simp only [ByteArray.size,List.size_toArray]
  unfold maxLen
  omega)⟩
theorem kw_zero (w:World):(zeroValue 114).run prog w=.ok (.agg #[(),.nilFunc]) w:=by
 have h:(prog.info? 114).map (·.zero)=some (some (.agg #[(),.nilFunc])):=by kernel_rfl
 cases hi:prog.info? 114 with
 | none=>rw [hi] at h;cases h
 | some i =>exact Q1n
theorem ww_mt:MT prog 116 9 114 strV vfW okW (.agg #[(),.nilFunc]) where
 und:=underlying116
 law:=Go.Maps.string_keyed underlying9
 key:=kw_key
 inj:=strV_inj
 zero:=kw_zero
def WordsAt (w:World) (m:Nat) (l:List (Bs × Wv)):Prop:=MapAt strV vfW w m l∧MapG.MapOk okW l
theorem ins_word {ops:Array Oper}{Q:Exit→Act→World→Prop}{o:Oper}{rest:List Oper}{a:Act}{w:World}(x y u:Operand) (hgd:o.guard=none) (ho:o.op=.insert 116 x y u) {m:Nat}(hx:a.eval x=.map (some m)) {n:Bs}(hy:a.eval y=strV n) {c:Int}{fv:Value}(hz:a.eval u=.agg #[c,fv]) {l:List (Bs × Wv)}(h:WordsAt w m l) (hn:n.length≤1000000)
  (hK:∀ w',Turn w m w'→WordsAt w' m (MapG.put l n (c,fv))→wpList prog ops Q rest (a.put o.dst undef) w'):wpList prog ops Q (o :: rest) a w :=
 Zbr ww_mt x y u hgd (.inr ho) hx hy (v:=((c,fv):Wv)) hz h.1 h.2 (hn:okW n) fun w' h1 h2=>hK w' h1 ⟨h2,h.2.put hn _⟩
theorem WordsAt.below {w w':World}{m:Nat}{l:List (Bs × Wv)}(h:WordsAt w m l) (hb:w w'):WordsAt w' m l:=⟨h.1.below hb h.1.lt,h.2⟩
theorem Zhx {w:World}{m p:Nat}{l:List (Bs × Wv)}{A:Array Value}{t:TypeId}(h:WordsAt w m l) (hb:Blk w p A t):p≠m:=fun e=>by
 subst e
 have h1:=h.1
 unfold MapAt at h1
 rw [show w.heap[p]? = _ from hb] at h1
 cases h1
theorem CapAt.turn {B:Nat}{w w':World}{k f la m:Int}{fv:Value}(h:CapAt B w k f la m fv) {mm:Nat}{l:List (Bs × Wv)}(hm:WordsAt w mm l) (ht:Turn w mm w'):CapAt B w' k f la m fv:=by
 obtain ⟨p4,p5,p6,p7,hB,h⟩:=h
 refine ⟨p4,p5,p6,p7,⟨ht.blk hB.b4 (Zhx hm hB.b4),ht.blk hB.b5 (Zhx hm hB.b5),ht.blk hB.b6 (Zhx hm hB.b6),ht.blk hB.b7 (Zhx hm hB.b7)⟩,?_⟩
 by_cases h4:k=4
 ·rw [if_pos h4] at h ⊢
  obtain ⟨p,hB,e,hp⟩:=h
  exact ⟨p,hB,e,ht.blk hp (Zhx hm hp)⟩
 ·rw [if_neg h4] at h ⊢
  by_cases h5:k=5
  ·rw [if_pos h5] at h ⊢
   obtain ⟨p,hB,e,hp⟩:=h
   exact ⟨p,hB,e,ht.blk hp (Zhx hm hp)⟩
  ·rw [if_neg h5] at h ⊢
   exact h
theorem CapAt.mono {B B':Nat}{w:World}{k f la m:Int}{fv:Value}(h:CapAt B w k f la m fv) (hb:B'≤B):CapAt B' w k f la m fv:=by
 obtain ⟨p4,p5,p6,p7,hB,h⟩:=h
 refine ⟨p4,p5,p6,p7,hB,?_⟩
 by_cases h4:k=4
 ·rw [if_pos h4] at h ⊢
  obtain ⟨p,hB,e,hp⟩:=h
  exact ⟨p,om_,e,hp⟩
 ·rw [if_neg h4] at h ⊢
  by_cases h5:k=5
  ·rw [if_pos h5] at h ⊢
   obtain ⟨p,hB,e,hp⟩:=h
   exact ⟨p,om_,e,hp⟩
  ·rw [if_neg h5] at h ⊢
   exact h
def Caps (B:Nat) (w:World) (cs:List ((Int × Int × Int × Int) × Value)):Prop:=∀ c∈cs,CapAt B w c.1.1 c.1.2.1 c.1.2.2.1 c.1.2.2.2 c.2
theorem Caps.below {B:Nat}{w w':World}{cs:List ((Int × Int × Int × Int) × Value)}(h:Caps B w cs) (hb:w w'):Caps B w' cs:=fun c hc=>(h c hc).below hb
theorem Caps.turn {B:Nat}{w w':World}{cs:List ((Int × Int × Int × Int) × Value)}(h:Caps B w cs) {mm:Nat}{l:List (Bs × Wv)}(hm:WordsAt w mm l) (ht:Turn w mm w'):Caps B w' cs:=fun c hc=>(h c hc).turn hm ht
theorem Caps.cons {B:Nat}{w:World}{cs:List ((Int × Int × Int × Int) × Value)}(h:Caps B w cs) {k f la m:Int}{fv:Value}(hc:CapAt B w k f la m fv):Caps B w (((k,f,la,m),fv) :: cs):=fun c hm=>by
 rcases List.mem_cons.1 hm with rfl|hm
 ·exact hc
 ·exact h c hm
def Zu2 (f0 f1 f2 f3 f4 f5:Value):List (Bs × Wv):=[([103,114,111,117,112],(Zfw 0,f0)),([112,97,105,114],(Zfw 1,f1)),([112,111,114,116],(Zfw 2,f2)),([112,101,110],(Zfw 3,f3)),([102,108,101,101,99,101],(Zfw 4,f4)),([102,101,108,116],(Zfw 5,f5)),([115,116,114,105,107,101],(0,.func (.func 152) #[] #[])),([119,104,105,116,101,115],(0,.func (.func 153) #[] #[])),([119,104,105,116,101],(1,.func (.func 154) #[] #[])),([107,110,111,119,110],(0,.func (.func 155) #[] #[])),([112,97,115,115,101,100],(0,.func (.func 156) #[] #[])),([116,101,108,108],(1,.func (.func 157) #[] #[])),([115,104,111,114,110],(1,.func (.func 158) #[] #[])),([105,110,115,105,100,101],(1,.func (.func 159) #[] #[])),([102,97,108,115,101],(0,.func (.func 160) #[] #[])),([119,114,111,110,103],(1,.func (.func 161) #[] #[])),([107,101,101,112,115],(1,.func (.func 162) #[] #[])),([109,111,114,101],(1,.func (.func 163) #[] #[]))]
theorem Zu1 (f0 f1 f2 f3 f4 f5:Value):(MapG.put (MapG.put (MapG.put (MapG.put (MapG.put (MapG.put (MapG.put (MapG.put (MapG.put (MapG.put (MapG.put (MapG.put (MapG.put (MapG.put (MapG.put (MapG.put (MapG.put (MapG.put ([]) [103,114,111,117,112] (Zfw 0,f0)) [112,97,105,114] (Zfw 1,f1)) [112,111,114,116] (Zfw 2,f2)) [112,101,110] (Zfw 3,f3)) [102,108,101,101,99,101] (Zfw 4,f4)) [102,101,108,116] (Zfw 5,f5)) [115,116,114,105,107,101] (0,.func (.func 152) #[] #[])) [119,104,105,116,101,115] (0,.func (.func 153) #[] #[])) [119,104,105,116,101] (1,.func (.func 154) #[] #[])) [107,110,111,119,110] (0,.func (.func 155) #[] #[])) [112,97,115,115,101,100] (0,.func (.func 156) #[] #[])) [116,101,108,108] (1,.func (.func 157) #[] #[])) [115,104,111,114,110] (1,.func (.func 158) #[] #[])) [105,110,115,105,100,101] (1,.func (.func 159) #[] #[])) [102,97,108,115,101] (0,.func (.func 160) #[] #[])) [119,114,111,110,103] (1,.func (.func 161) #[] #[])) [107,101,101,112,115] (1,.func (.func 162) #[] #[])) [109,111,114,101] (1,.func (.func 163) #[] #[]):List (Bs × Wv))=Zu2 f0 f1 f2 f3 f4 f5:=by kernel_rfl
def StW (w W:World) (N:Nat) (l:List (Bs × Wv)) (cs:List ((Int × Int × Int × Int) × Value)):Prop:=Below N w W∧WordsAt W N l∧Caps N W cs
theorem StW.made {w W W':World}{N:Nat}{l:List (Bs × Wv)}{cs:List ((Int × Int × Int × Int) × Value)}(h:StW w W N l cs) {k f la m:Int}{fv:Value}(hb:W W') (hc:CapAt W.heap.size W' k f la m fv):StW w W' N l (((k,f,la,m),fv) :: cs) :=
 ⟨h.1.trans (hb.mono (Nat.le_of_lt h.2.1.1.lt)),h.2.1.below hb,(h.2.2.below hb).cons (hc.mono (Nat.le_of_lt h.2.1.1.lt))⟩
theorem StW.turn {w W W':World}{N:Nat}{l l':List (Bs × Wv)}{cs:List ((Int × Int × Int × Int) × Value)}(h:StW w W N l cs) (ht:Turn W N W') (hw:WordsAt W' N l'):StW w W' N l' cs :=
 ⟨ht.below h.1 nl_,hw,h.2.2.turn h.2.1 ht⟩
theorem o_words (w:World) :
  Calls prog 65 #[] w (fun e w'=>∃ f0 f1 f2 f3 f4 f5,e=.returned (.map (some w.heap.size))∧Below w.heap.size w w'∧WordsAt w' w.heap.size (Zu2 f0 f1 f2 f3 f4 f5)∧Caps w.heap.size w' [((5,5,5,30),f5),((4,2,4,8),f4),((3,2,4,8),f3),((2,2,4,8),f2),((1,1,1,4),f1),((0,0,0,4),f0)]):=by
 have HM:=hd_ (fun k f la m W=>o_made k f la m W)
 have h1:WordsAt (w.alloc (.map #[] 0)) w.heap.size []:=⟨MapAt.new w,MapG.MapOk.nil⟩
 have hB1:w (w.alloc (.map #[] 0)):=by exact bel_
 have hC1:Caps w.heap.size (w.alloc (.map #[] 0)) []:=fun c hc=>absurd hc sp_
 have hS:StW w _ _ _ _:=⟨hB1,h1,hC1⟩
 clear h1 hB1 hC1
 have hmm:=@run_makeMap prog
 go_enter func65,ntmps65
 go_wp2_with (first
  | (go_at_call 151;refine (HM.out _ _ _ _ _).mono ?_;rintro e W' ⟨fv,rfl,hb,hc⟩;replace hS:=hS.made hb hc;clear hb hc)
  | (refine ins_word (.tmp 1) _ _ rfl rfl rfl rfl rfl hS.2.1 de_ ?_;intro W' ht hw;replace hS:=hS.turn ht hw;clear ht hw))
 obtain ⟨h1,h2,h3⟩:=hS
 rw [Zu1] at h2
 go_ret
 exact ⟨_,_,_,_,_,_,rfl,h1,h2,h3⟩
end Go.Proofs.YtbapgefodmmikaaGreatDoor
namespace Go.Proofs.YtbapgefodmmikaaGreatDoor
open Go.RowKit Go.Proofs Go.Ord Tryz
attribute [local irreducible] Ord.walk
theorem I64.small {n:Int}(h : -1000000≤n∧n≤1000000):I64 n:=by unfold I64;omega
theorem wrap_i64 (x:Int):I64 (wrap64 x):=by unfold I64 wrap64;omega
theorem Zoa {t:Tb}(h:∀ i k,I64 (t i k)) (a b:Nat) (m:Int):∀ i k,I64 (Zg4 t a b m i k):=by
 intro i k
 unfold Zg4
 split
 ·exact h i k
 ·have h1:=h i k
  have h2:=wrap_i64 (wrap64 (t i a+m)+t b k)
  unfold I64 at *
  simp only
  omega
theorem putT_i64 {t:Tb}(h:∀ i k,I64 (t i k)) (x:Nat × Nat × Int × Int):∀ i k,I64 (putT t x i k):=Zoa (Zoa h _ _ _) _ _ _
theorem Zs1:∀ (l:List (Nat × Nat × Int × Int)) (t:Tb),(∀ i k,I64 (t i k))→∀ i k,I64 (l.foldl putT t i k)
 | [],t,h=>h
 | x :: l,t,h=>Zs1 l _ (putT_i64 h x)
theorem Zue (t:Ty) (s:Nat):∀ i k,I64 (Zaa t s i k):=Zs1 _ _ fun i k=>by unfold Zcr;split <;> exact I64.small om_
theorem Zrv (p:Bool) (t:Ty) (i:Int):I64 (ofR p t i).1.1∧I64 (ofR p t i).1.2:=by
 have h0:I64 0:=I64.small om_
 unfold ofR
 split
 ·exact ⟨h0,h0⟩
 ·split
  ·exact ⟨h0,h0⟩
  ·split
   ·exact ⟨h0,h0⟩
   ·exact ⟨wrap_i64 _,Zue t _ _ _⟩
theorem popT_le (n:Nat):popT n≤9:=Nat.le_trans (List.length_filter_le _ _) sp_
theorem Zos (t:Ty):I64 (Zbw t).1.1∧I64 (Zbw t).1.2:=by
 have h0:I64 0:=I64.small om_
 unfold Zbw
 split
 ·exact ⟨h0,h0⟩
 ·rename_i hk
  have hk:tyOk t=true:=by simpa using hk
  have h8:t.calls.length≤8:=by
   unfold tyOk at hk
   simp only [Bool.and_eq_true,decide_eq_true_eq] at hk
   omega
  split
  ·rename_i s hs
   have hm:=List.mem_of_find?_eq_some hs
   unfold setsT at hm
   obtain ⟨c,-,h2⟩:=List.mem_flatMap.1 hm
   have h3:=List.mem_range.1 (List.mem_filter.1 h2).1
   have h4:2 ^ t.calls.length≤2 ^ 8:=Nat.pow_le_pow_right om_ h8
   have h5:=popT_le s
   exact ⟨I64.small (by show -1000000≤((popT s:Nat):Int)∧((popT s:Nat):Int)≤1000000;omega),I64.small (by show -1000000≤(s:Int)∧(s:Int)≤1000000;omega)⟩
  ·exact ⟨h0,h0⟩
theorem Zj6 (f:Nat→Int) (m:Int):∀ n,n≤31→(0≤(Zfs f m n).1∧(Zfs f m n).1≤30)∧0≤(Zfs f m n).2∧(Zfs f m n).2≤30
 | 0,_=>by simp [Zfs]
 | n+1,h=>by
  have ih:=Zj6 f m n om_
  rw [Zfs]
  split
  ·simp only
   omega
  ·exact ih
theorem Znq (c:Cl) (i:Int):I64 (Zc5 c i).1.1∧I64 (Zc5 c i).1.2:=by
 have h0:I64 0:=I64.small om_
 unfold Zc5
 split
 ·exact ⟨h0,h0⟩
 ·split
  ·exact ⟨h0,h0⟩
  ·split
   ·exact ⟨h0,h0⟩
   ·have:=Zj6 (Zbc c.drift.toNat c.bs i.toNat (Zag c.bs)) c.mist 31 om_
    exact ⟨I64.small (show -1000000≤(Zfs (Zbc c.drift.toNat c.bs i.toNat (Zag c.bs)) c.mist 31).1∧(Zfs (Zbc c.drift.toNat c.bs i.toNat (Zag c.bs)) c.mist 31).1≤1000000 by omega),I64.small (show -1000000≤(Zfs (Zbc c.drift.toNat c.bs i.toNat (Zag c.bs)) c.mist 31).2∧(Zfs (Zbc c.drift.toNat c.bs i.toNat (Zag c.bs)) c.mist 31).2≤1000000 by omega)⟩
theorem Zvj (c:Cl) (i:Int):I64 (Zdx c i).1:=by
 unfold Zdx Zmb
 split
 ·simp only
  repeat' split
  all_goals exact I64.small om_
 ·exact I64.small om_
theorem more_i64 (c:Cl) (i:Int):I64 (Zhj c i).1:=by
 have h0:I64 0:=I64.small om_
 unfold Zhj
 split
 ·exact h0
 ·rename_i hk
  split
  ·exact h0
  ·rename_i hi
   split
   ·exact h0
   ·split
    ·rename_i n hn
     have hm:=List.mem_range.1 (List.mem_of_find?_eq_some hn)
     have hib:i.toNat < c.bs.length:=by omega
     have hk:clOk c=true:=by simpa using hk
     have hb:Ze1 (c.bs.getD i.toNat (0,0,0))=true:=by
      unfold clOk at hk
      simp only [Bool.and_eq_true] at hk
      have hall:c.bs.all Ze1=true:=by simp_all
      rw [List.getD_eq_getElem?_getD,List.getElem?_eq_getElem hib]
      exact List.all_eq_true.1 hall _ (List.getElem_mem hib)
     unfold Ze1 at hb
     simp only [decide_eq_true_eq] at hb
     exact I64.small om_
    ·exact h0
theorem Zm1 (n m:Nat):I64 (Zhn n m):=by
 unfold Zhn
 repeat' split
 all_goals exact I64.small om_
theorem lo_le (l:List Nat):loL l≤62:=by
 have key:∀ (l:List Nat) (a:Nat),a≤62→l.foldl (fun m x=>min m (sz x)) a≤62:=by
  intro l
  induction l with
  | nil=>intro a h;exact h
  | cons x l ih=>intro a h;exact ih _ (by show min a (sz x)≤62;omega)
 exact key l _ (sz_lt _)
theorem hi_le (l:List Nat):hiL l≤62:=by
 have key:∀ (l:List Nat) (a:Nat),a≤62→l.foldl (fun m x=>max m (sz x)) a≤62:=by
  intro l
  induction l with
  | nil=>intro a h;exact h
  | cons x l ih=>intro a h;exact ih _ (by have:=sz_lt x;show max a (sz x)≤62;omega)
 exact key l _ (sz_lt _)
theorem Zir (f:Nat→Bool) {V:Nat}(hV:V≤8):I64 ((Zia f V:Nat):Int):=by
 have h1:=Zvf f V
 have h2:2 ^ V≤2 ^ 8:=Nat.pow_le_pow_right om_ hV
 exact I64.small om_
theorem Zrh {b:Bn}{v:Bool}(h:Zdv b v=0):b.V.toNat≤8:=by
 have hv:valid b=true:=by
  cases hv:valid b with
  | true=>rfl
  | false=>unfold Zdv at h;simp [hv] at h
 have:=Zb4 hv
 omega
theorem Zdh (b:Ov) (l:List Nt) (k:Nat) (a:List Int):∀ n∈(askO b l k a).1,I64 n:=by
 have h0:I64 0:=I64.small om_
 have two:∀ {x y:Int},I64 x→I64 y→∀ n∈[x,y],I64 n:=fun hx hy n hn=>by
  simp at hn
  rcases hn with rfl|rfl
  ·exact hx
  ·exact hy
 have one:∀ {x:Int},I64 x→∀ n∈[x],I64 n:=fun hx n hn=>by
  simp at hn
  subst hn
  exact hx
 unfold askO
 split
 ·refine two ?_ ?_ <;> unfold Zc2 <;> split
  ·exact I64.small (by have:=lo_le (TL (bnO b l));show -1000000≤((loL _:Nat):Int)∧((loL _:Nat):Int)≤1000000;omega)
  ·exact h0
  ·exact I64.small (by have:=hi_le (TL (bnO b l));show -1000000≤((hiL _:Nat):Int)∧((hiL _:Nat):Int)≤1000000;omega)
  ·exact h0
 ·refine one ?_
  unfold Zen
  split
  ·exact Zm1 _ _
  ·exact h0
 ·refine two ?_ ?_ <;> unfold Zde <;> split
  ·rename_i h;exact Zir _ (Zrh h)
  ·exact h0
  ·rename_i h;exact Zir _ (Zrh h)
  ·exact h0
 ·refine one ?_
  unfold Zd9
  split
  ·exact Zm1 _ _
  ·exact h0
 ·refine two ?_ ?_ <;> unfold Zg7 <;> split
  ·rename_i h
   split
   ·exact h0
   ·exact Zir _ (Zrh h)
  ·exact h0
  ·rename_i h
   split
   ·exact h0
   ·exact Zir _ (Zrh h)
  ·exact h0
 ·exact two (Zrv _ _ _).1 (Zrv _ _ _).2
 ·exact two (Zrv _ _ _).1 (Zrv _ _ _).2
 ·exact two (Zos _).1 (Zos _).2
 ·exact two (Znq _ _).1 (Znq _ _).2
 ·exact one (Zvj _ _)
 ·exact one (more_i64 _ _)
end Go.Proofs.YtbapgefodmmikaaGreatDoor
namespace Go.Proofs.YtbapgefodmmikaaGreatDoor
open Go.RowKit Go.Proofs Go.Ord Tryz
attribute [local irreducible] Ord.walk
attribute [local go_sem] Oper.semAt_some
def AskP (word:Bs) (x:List Int × Int) (w:World) (e:Ending) (w':World):Prop :=
 (x.2=0∧e=.returned (strV (Zcq word x.1))∧w w')∨(x.2≠0∧Zx7 x.2 w e w')
theorem AskP.from {word:Bs}{x:List Int × Int}{w w1 w':World}{e:Ending}(h:AskP word x w1 e w') (hb:w w1):AskP word x w e w':=by
 rcases h with ⟨h0,h1,h2⟩ | ⟨h0,h1,h2⟩
 ·exact Or.inl ⟨h0,h1,hb.trans (h2.mono hb.size)⟩
 ·exact Or.inr ⟨h0,h1,hb.trans (h2.mono hb.size)⟩
theorem Zev (word:Bs) (l:List It) (x:List Int × Int) (hx:l.flatMap itN=x.1) (a:Option Addr) (c:Nat) (w:World) (hv:VarsOk w) (hr:RowsAt w a 1 itL l) (hw:word.length≤1000000) (hl:l.length≤1000) (hb:∀ n∈x.1,I64 n) :
  Calls prog 237 #[strV word,.int .i64 x.2,.slice a l.length c] w (AskP word x w):=by
 by_cases he:x.2=0
 ·rw [he]
  refine (Zv7 word l a c w hv hr hw hl (fun y hy n hn=>hb n (by rw [← hx];exact List.mem_flatMap.2 ⟨y,hy,hn⟩))).mono ?_
  rintro e w' ⟨rfl,h⟩
  exact Or.inl ⟨he,by rw [← hx],h⟩
 ·exact (Zv8 word x.2 _ w he).mono fun e w' h=>Or.inr ⟨he,h⟩
section
variable {w:World}{O:Nat}{b:Ov}{l:List Nt}{sa:Option Addr}{sc:Nat}{fa:Option Addr}{fc:Nat}{na:Option Addr}{nc:Nat}
theorem AskP.post (h:OvOk w O b l sa sc fa fc na nc) {k:Nat}{a:List Int}{e:Ending}{w':World}(hp:AskP (askW k) (askO b l k a) w e w'):DoPost O b sa sc fa fc na (doO b l a (.ask k)) w e w':=by
 unfold doO
 simp only
 rcases hp with ⟨h0,h1,h2⟩ | ⟨h0,h1,h2⟩
 ·rw [if_pos h0]
  exact Or.inl ⟨rfl,h1,Lets.of_below h2,na,nc,h.below h2,fun p e=>.inl e⟩
 ·rw [if_neg h0]
  exact Or.inr ⟨h0,h1,h2⟩
theorem Zon (hl:l.length≤30):(bnO b l).gs.length≤40∧(bnO b l).ps.length≤40:=by
 constructor
 ·have h2:=List.length_filter_le (fun n:Nt=>decide (0≤n.1∧n.1≤0)) l
  show ((ofO l 0 0).map grpO).length≤_
  rw [List.length_map];unfold ofO;omega
 ·have h2:=List.length_filter_le (fun n:Nt=>decide (1≤n.1∧n.1≤1)) l
  show ((ofO l 1 1).map Zk9).length≤_
  rw [List.length_map];unfold ofO;omega
theorem _root_.Q8 {p:Prop}(h:p:=by
 rcases hP with ⟨h0,rfl,h2⟩ | ⟨h0,rfl,h2⟩
 ·unfold strV at hP2 ⊢
  go_wp2_with fail
  go_ret
  exact hP2
 ·exact ⟨rfl,hP2⟩):p:=h
theorem o_whites (h:OvOk w O b l sa sc fa fc na nc) (v:Value) (a:List Int) :
  Calls prog 153 #[.pointer O,v] w (AskP (askW 0) (askO b l 0 a) w):=by
 obtain ⟨hgl,hpl⟩:=Zon (b:=b) h.inn.notes
 have HV:=hd_ (fun W (hb:Below w.heap.size w W)=>Zkt (h.at_.below hb) h.inn)
 have HC:Hid (∀ ga gc pa pc W,GsAt W ga (bnO b l).gs→PsAt W pa (bnO b l).ps→Calls prog 31 #[bv (bnO b l) ga gc pa pc] W (Zat (.agg #[.int .i64 (Zc2 (bnO b l)).1,.int .i64 (Zc2 (bnO b l)).2.1]) (.int .i64 (Zc2 (bnO b l)).2.2) W)):=fun ga gc pa pc W h1 h2=>Zws (bnO b l) ga gc pa pc W h1 h2 hgl hpl
 have HVar:=hd_ (fun W (hb:Below w.heap.size w W)=>h.at_.vars.below hb h.at_.vars.2.2.2.2)
 have hi:=Zdh b l 0 a
 have hq:askO b l 0 a=([(Zc2 (bnO b l)).1,(Zc2 (bnO b l)).2.1],(Zc2 (bnO b l)).2.2):=rfl
 rw [hq] at hi ⊢
 unfold bv at *
 generalize (Zc2 (bnO b l)).1=q1 at *
 generalize (Zc2 (bnO b l)).2.1=q2 at *
 generalize (Zc2 (bnO b l)).2.2=q3 at *
 generalize bnO b l=bn at *
 have HS:Hid (∀ W a c,Below w.heap.size w W→RowsAt W a 1 itL [((q1,some q2):It)]→Calls prog 237 #[strV (askW 0),q3,.slice a 1 c] W (AskP (askW 0) ([q1,q2],q3) W)):=fun W a c hb hr=>Zev (askW 0) [(q1,some q2)] ([q1,q2],q3) rfl a c W (HVar.out W hb) hr de_ sp_ hi
 clear h hq hi hgl hpl
 unfold strV at HS
 have ew:(⟨(askW 0).toArray⟩:ByteArray)=⟨#[119,104,105,116,101,115]⟩:=by rfl
 rw [ew] at HS
 clear ew
 go_enter func153,ntmps153
 go_wp2_with (first
  | (go_at_call 236;refine (HV.out _ br_).mono ?_;rintro e w3 ⟨ga,gc,pa,pc,rfl,hb3,hg,hp⟩)
  | (go_at_call 31;refine (HC.out _ _ _ _ _ hg hp).mono ?_;rintro e w4 ⟨rfl,hb4⟩;refine Za2 ?_))
 unfold Stop
 have hB4:w w4:=hb3.trans (hb4.mono hb3.size)
 clear hg hp hb3 hb4 HC HV
 have b5:Blk (w4.alloc (.cells #[(),()] 23)) w4.heap.size #[(),()] 23:=Blk.new _ _ _
 go_wp2_with (first
  | (refine Za1 23 (.tmp 5) (.tmp 12) Zas rfl rfl rfl rfl b5 rfl rfl (by simp [Value.oneCell']) ?_;intro w6 h6;have b6:=h6.blk;have hB6:w w6:=Za3 (hB4.alloc hB4.size _) ((Lets.refl _ _).rowed (X:=fun k _=>w.heap.size≤k) h6 hB4.size) nl_ (fun _ _ h e=>om_))
  | (refine Za0 23 (.tmp 5) Zas rfl rfl rfl b6 rfl ?_)
  | (go_at_call 237;refine Za2 ?_))
 unfold Stop
 have hBa:w (w6.alloc (.cells #[.iface 23 (.agg #[q1,q2])] 20)):=hB6.alloc hB6.size _
 refine (HS.out _ _ _ hBa (Zb6 w6 [((q1,some q2):It)] 20)).mono ?_
 rintro e w' hP
 have hP2:=hP.from hBa
 exact Q8
end
section
variable {w:World}{O:Nat}{b:Ov}{l:List Nt}{sa:Option Addr}{sc:Nat}{fa:Option Addr}{fc:Nat}{na:Option Addr}{nc:Nat}
theorem Zua (h:OvIn b l):(tyO b l).strays.length≤9223372036854775807∧(tyO b l).calls.length≤9223372036854775807:=by
 constructor
 ·have:=h.strays
  show b.strays.length≤_
  omega
 ·have:=h.notes
  have h2:=List.length_filter_le (fun n:Nt=>decide (2≤n.1∧n.1≤4)) l
  show ((ofO l 2 4).map Zjs).length≤_
  rw [List.length_map];unfold ofO;omega
theorem _root_.Q35 {p:Prop}(h:p:=by
 go_wp2_with (first
  | (go_at_call 237;refine Za2 ?_))
 unfold Stop
 have hBa:w (w4.alloc (.cells #[.iface 3 ↑q1,.iface 3 ↑q2] 20)):=hB4.alloc hB4.size _
 refine (HS.out _ _ _ hBa (Zb6 w4 [((q1,none):It),((q2,none):It)] 20)).mono ?_
 rintro e w' hP
 have hP2:=hP.from hBa
 exact Q8):p:=h
theorem o_known (h:OvOk w O b l sa sc fa fc na nc) (v:Value) (a:List Int) :
  Calls prog 155 #[.pointer O,v] w (AskP (askW 2) (askO b l 2 a) w):=by
 obtain ⟨hgl,hpl⟩:=Zon (b:=b) h.inn.notes
 have HV:=hd_ (fun W (hb:Below w.heap.size w W)=>Zkt (h.at_.below hb) h.inn)
 have HC:Hid (∀ ga gc pa pc W,GsAt W ga (bnO b l).gs→PsAt W pa (bnO b l).ps→Calls prog 33 #[bv (bnO b l) ga gc pa pc] W (Zfg (.int .i64 (Zde (bnO b l)).1) (.int .i64 (Zde (bnO b l)).2.1) (.int .i64 (Zde (bnO b l)).2.2) W)):=fun ga gc pa pc W h1 h2=>bb_Known (bnO b l) ga gc pa pc W h1 h2 hgl hpl
 have HVar:=hd_ (fun W (hb:Below w.heap.size w W)=>h.at_.vars.below hb h.at_.vars.2.2.2.2)
 have hi:=Zdh b l 2 a
 have hq:askO b l 2 a=([(Zde (bnO b l)).1,(Zde (bnO b l)).2.1],(Zde (bnO b l)).2.2):=rfl
 rw [hq] at hi ⊢
 unfold bv at *
 generalize (Zde (bnO b l)).1=q1 at *
 generalize (Zde (bnO b l)).2.1=q2 at *
 generalize (Zde (bnO b l)).2.2=q3 at *
 generalize bnO b l=bn at *
 have HS:Hid (∀ W a c,Below w.heap.size w W→RowsAt W a 1 itL [((q1,none):It),((q2,none):It)]→Calls prog 237 #[strV (askW 2),q3,.slice a 2 c] W (AskP (askW 2) ([q1,q2],q3) W)):=fun W a c hb hr=>Zev (askW 2) [((q1,none):It),((q2,none):It)] ([q1,q2],q3) rfl a c W (HVar.out W hb) hr de_ sp_ hi
 clear h hq hi hgl hpl
 unfold strV at HS
 have ew:(⟨(askW 2).toArray⟩:ByteArray)=⟨#[107,110,111,119,110]⟩:=by rfl
 rw [ew] at HS
 clear ew
 go_enter func155,ntmps155
 go_wp2_with (first
  | (go_at_call 236;refine (HV.out _ br_).mono ?_;rintro e w3 ⟨ga,gc,pa,pc,rfl,hb3,hg,hp⟩)
  | (go_at_call 33;refine (HC.out _ _ _ _ _ hg hp).mono ?_;rintro e w4 ⟨rfl,hb4⟩;refine Za2 ?_))
 unfold Stop
 have hB4:w w4:=hb3.trans (hb4.mono hb3.size)
 clear hg hp hb3 hb4 HC HV
 exact Q35
theorem _root_.Q32 {p:Prop}(h:p:=by
 go_wp2_with (first
  | (go_at_call 237;refine Za2 ?_))
 unfold Stop
 have hBa:w (w4.alloc (.cells #[.iface 3 ↑q1] 20)):=hB4.alloc hB4.size _
 refine (HS.out _ _ _ hBa (Zb6 w4 [((q1,none):It)] 20)).mono ?_
 rintro e w' hP
 have hP2:=hP.from hBa
 exact Q8):p:=h
theorem o_passed (h:OvOk w O b l sa sc fa fc na nc) (v:Value) (a:List Int) :
  Calls prog 156 #[.pointer O,v] w (AskP (askW 3) (askO b l 3 a) w):=by
 obtain ⟨hgl,hpl⟩:=Zon (b:=b) h.inn.notes
 have HV:=hd_ (fun W (hb:Below w.heap.size w W)=>Zkt (h.at_.below hb) h.inn)
 have HC:Hid (∀ ga gc pa pc W,GsAt W ga (bnO b l).gs→PsAt W pa (bnO b l).ps→Calls prog 34 #[bv (bnO b l) ga gc pa pc] W (Zat (.int .i64 (Zd9 (bnO b l)).1) (.int .i64 (Zd9 (bnO b l)).2) W)):=fun ga gc pa pc W h1 h2=>Zwt (bnO b l) ga gc pa pc W h1 h2 hgl hpl
 have HVar:=hd_ (fun W (hb:Below w.heap.size w W)=>h.at_.vars.below hb h.at_.vars.2.2.2.2)
 have hi:=Zdh b l 3 a
 have hq:askO b l 3 a=([(Zd9 (bnO b l)).1],(Zd9 (bnO b l)).2):=rfl
 rw [hq] at hi ⊢
 unfold bv at *
 generalize (Zd9 (bnO b l)).1=q1 at *
 generalize (Zd9 (bnO b l)).2=q3 at *
 generalize bnO b l=bn at *
 have HS:Hid (∀ W a c,Below w.heap.size w W→RowsAt W a 1 itL [((q1,none):It)]→Calls prog 237 #[strV (askW 3),q3,.slice a 1 c] W (AskP (askW 3) ([q1],q3) W)):=fun W a c hb hr=>Zev (askW 3) [((q1,none):It)] ([q1],q3) rfl a c W (HVar.out W hb) hr de_ sp_ hi
 clear h hq hi hgl hpl
 unfold strV at HS
 have ew:(⟨(askW 3).toArray⟩:ByteArray)=⟨#[112,97,115,115,101,100]⟩:=by rfl
 rw [ew] at HS
 clear ew
 go_enter func156,ntmps156
 go_wp2_with (first
  | (go_at_call 236;refine (HV.out _ br_).mono ?_;rintro e w3 ⟨ga,gc,pa,pc,rfl,hb3,hg,hp⟩)
  | (go_at_call 34;refine (HC.out _ _ _ _ _ hg hp).mono ?_;rintro e w4 ⟨rfl,hb4⟩;refine Za2 ?_))
 unfold Stop
 have hB4:w w4:=hb3.trans (hb4.mono hb3.size)
 clear hg hp hb3 hb4 HC HV
 exact Q32
theorem Zv5 (h:OvOk w O b l sa sc fa fc na nc) (v:Value) (a:List Int) :
  Calls prog 160 #[.pointer O,v] w (AskP (askW 7) (askO b l 7 a) w):=by
 obtain ⟨hgl,hpl⟩:=Zua h.inn
 have HV:=hd_ (fun W (hb:Below w.heap.size w W)=>Zml (h.at_.below hb) h.inn)
 have HC:Hid (∀ ca cc W,RowsAt W sa 2 Zaz (tyO b l).strays→RowsAt W ca 4 Zcj (tyO b l).calls→Calls prog 38 #[.agg (tyV (tyO b l) sa sc ca cc)] W (Zfg (.int .i64 (Zbw (tyO b l)).1.1) (.int .i64 (Zbw (tyO b l)).1.2) (.int .i64 (Zbw (tyO b l)).2) W)):=fun ca cc W h1 h2=>t_False (tyO b l) sa sc ca cc W h1 h2 hgl hpl
 have HVar:=hd_ (fun W (hb:Below w.heap.size w W)=>h.at_.vars.below hb h.at_.vars.2.2.2.2)
 have hi:=Zdh b l 7 a
 have hq:askO b l 7 a=([(Zbw (tyO b l)).1.1,(Zbw (tyO b l)).1.2],(Zbw (tyO b l)).2):=rfl
 rw [hq] at hi ⊢
 unfold tyV at *
 generalize (Zbw (tyO b l)).1.1=q1 at *
 generalize (Zbw (tyO b l)).1.2=q2 at *
 generalize (Zbw (tyO b l)).2=q3 at *
 generalize tyO b l=bn at *
 have HS:Hid (∀ W a c,Below w.heap.size w W→RowsAt W a 1 itL [((q1,none):It),((q2,none):It)]→Calls prog 237 #[strV (askW 7),q3,.slice a 2 c] W (AskP (askW 7) ([q1,q2],q3) W)):=fun W a c hb hr=>Zev (askW 7) [((q1,none):It),((q2,none):It)] ([q1,q2],q3) rfl a c W (HVar.out W hb) hr de_ sp_ hi
 clear h hq hi hgl hpl
 unfold strV at HS
 have ew:(⟨(askW 7).toArray⟩:ByteArray)=⟨#[102,97,108,115,101]⟩:=by rfl
 rw [ew] at HS
 clear ew
 go_enter func160,ntmps160
 go_wp2_with (first
  | (go_at_call 238;refine (HV.out _ br_).mono ?_;rintro e w3 ⟨ca,cc,rfl,hb3,hg,hp⟩)
  | (go_at_call 38;refine (HC.out _ _ _ hg hp).mono ?_;rintro e w4 ⟨rfl,hb4⟩;refine Za2 ?_))
 unfold Stop
 have hB4:w w4:=hb3.trans (hb4.mono hb3.size)
 clear hg hp hb3 hb4 HC HV
 exact Q35
end
section
variable {w:World}{O:Nat}{b:Ov}{l:List Nt}{sa:Option Addr}{sc:Nat}{fa:Option Addr}{fc:Nat}{na:Option Addr}{nc:Nat}
theorem Zwh (h:OvIn b l):(clO b l).bs.length≤9223372036854775807:=by
 have h1:=Znh b l _ nl_
 rw [Zni] at h1
 have h2:=h.fl
 show (Zjy b l).length≤_
 omega
theorem Zq8 (h:OvAt w O b l sa sc fa fc na nc) (hI:OvIn b l) :
  Calls prog 239 #[.pointer O] w (fun e w'=>∃ ca cc,e=.returned (.agg (clV (clO b l) ca cc))∧Below w.heap.size w w'∧RowsAt w' ca 3 Zbb (clO b l).bs):=by
 have HV:=hd_ (fun W (hb:Below w.heap.size w W)=>Zks (h.below hb) hI)
 have hB1:w (w.alloc (.cells #[.slice none 0 0,(),(),()] 62)):=by exact bel_
 have b1:Blk (w.alloc (.cells #[.slice none 0 0,(),(),()] 62)) w.heap.size #[.slice none 0 0,(),(),()] 62:=Blk.new _ _ _
 clear h hI
 generalize clO b l=cl at *
 unfold clV at *
 go_enter func239,ntmps239
 go_wp2_with (first
  | (go_at_call 286;refine (HV.out _ hB1).mono ?_;rintro e w2 ⟨ca,cc,rfl,hb2,hr,hfr⟩;have b2:=b1.below hb2 b1.lt)
  | (refine Za1 62 (.tmp 2) (.tmp 6) Zah rfl rfl rfl rfl b2 rfl rfl (by simp [Value.oneCell']) ?_;intro w3 h3))
 refine bodyPost_ret (Za5 rfl _ Zah rfl h3.blk rfl) rfl ⟨ca,cc,rfl,?_,?_⟩
 ·exact Za3 (hB1.trans (hb2.mono hB1.size)) ((Lets.refl _ _).rowed (X:=fun k _=>k=w.heap.size) h3 rfl) nl_ (fun _ _ h e=>om_)
 ·intro i hi
  obtain ⟨gb,go,rfl,hq⟩:=hr i hi
  refine ⟨gb,go,rfl,fun j u hj=>?_⟩
  have hc:=hq j u hj
  have hne:gb≠w.heap.size:=fun e=>by
   have:=hfr _ rfl
   simp at this
   omega
  exact (World.cell?_of_block (((Lets.refl (fun k _=>k=w.heap.size) w2).rowed h3 rfl).block gb (bl_ w2 _ hc) hne)).trans hc
theorem _root_.Q3l {p:Prop}(h:p:=by
 unfold Stop
 have hB4:w w4:=hBd.trans (hb3.trans (hb4.mono hb3.size))
 clear hg hp hb3 hb4 HC HV hH3 hH4
 exact Q32):p:=h
theorem o_white (h:OvOk w O b l sa sc fa fc na nc) (x0:Int) (aa:Option Addr) (ac:Nat) (hr:RowsAt w aa 1 numL [x0]) :
  Calls prog 154 #[.pointer O,.slice aa 1 ac] w (AskP (askW 1) (askO b l 1 [x0]) w):=by
 obtain ⟨hgl,hpl⟩:=Zon (b:=b) h.inn.notes
 have HV:=hd_ (fun W (hb:Below w.heap.size w W)=>Zkt (h.at_.below hb) h.inn)
 have HC:Hid (∀ ga gc pa pc W,GsAt W ga (bnO b l).gs→PsAt W pa (bnO b l).ps→Calls prog 32 #[bv (bnO b l) ga gc pa pc,x0] W (Zat (.int .i64 (Zen (bnO b l) x0).1) (.int .i64 (Zen (bnO b l) x0).2) W)):=fun ga gc pa pc W h1 h2=>bb_White (bnO b l) ga gc pa pc W h1 h2 hgl hpl x0
 have HVar:=hd_ (fun W (hb:Below w.heap.size w W)=>h.at_.vars.below hb h.at_.vars.2.2.2.2)
 have hi:=Zdh b l 1 [x0]
 have hq:askO b l 1 [x0]=([(Zen (bnO b l) x0).1],(Zen (bnO b l) x0).2):=rfl
 rw [hq] at hi ⊢
 obtain ⟨gb,go,rfl,h0⟩:=hr 0 sp_
 have q0:=h0 0 _ rfl
 simp only [Nat.zero_mul,Nat.add_zero] at q0
 have lg:=bl_ w _ q0
 have hq0d:w.drew.cell? ⟨gb,go,none⟩=some (.int .i64 x0):=q0
 have hBd:w w.drew:=br_.drew
 clear h0 hr
 unfold bv at *
 generalize (Zen (bnO b l) x0).1=q1 at *
 generalize (Zen (bnO b l) x0).2=q3 at *
 generalize bnO b l=bn at *
 have HS:Hid (∀ W a c,Below w.heap.size w W→RowsAt W a 1 itL [((q1,none):It)]→Calls prog 237 #[strV (askW 1),q3,.slice a 1 c] W (AskP (askW 1) ([q1],q3) W)):=fun W a c hb hr=>Zev (askW 1) [((q1,none):It)] ([q1],q3) rfl a c W (HVar.out W hb) hr de_ sp_ hi
 clear h hq hi hgl hpl
 unfold strV at HS
 have ew:(⟨(askW 1).toArray⟩:ByteArray)=⟨#[119,104,105,116,101]⟩:=by rfl
 rw [ew] at HS
 clear ew
 go_enter func154,ntmps154
 go_upto_region 1 with fail
 refine Zxt [(0,0),(1,0),(3,1),(4,1),(5,1),(2,2),(6,2),(7,0),(8,0),(9,0),(10,0),(11,0)] (fun W=>W.cell? ⟨gb,go,none⟩=some (.int .i64 x0)) kr_ kr_ hq0d ?_
 go_wp2_with (first
  | ((with_reducible refine Zxo ?_);refine Za2 ?_)
  | (go_at_call 236;refine (HV.out _ hBd).mono ?_;rintro e w3 ⟨ga,gc,pa,pc,rfl,hb3,hg,hp⟩;have hH3:=Za4 hb3 hq0d)
  | (go_at_call 32;refine (HC.out _ _ _ _ _ hg hp).mono ?_;rintro e w4 ⟨rfl,hb4⟩;have hH4:=Za4 hb4 hH3)
  | (refine Zxe (by first|with_reducible exact hH3|with_reducible exact hH4) (fun _=>?_))
  | ((with_reducible refine Zxd ?_);first|(refine Zxp (ad:=⟨gb,go,none⟩) ↑x0 rfl rfl ?_ ?_;(focus (intro W hW;simp [go_sem,hW];done));intro K hK)|(refine Zxv (.pointer (some ⟨gb,go,none⟩)) rfl ?_ ?_;(focus (intro W hW;simp [go_sem,];done));intro K hK))
  | (refine o_ ?_;intro K hK)|(with_reducible first|refine Zxn ?_ ?_|refine Zxi ?_|refine Zxe bn_ (fun _=>?_)))
 exact Q3l
theorem o_tell (h:OvOk w O b l sa sc fa fc na nc) (x0:Int) (aa:Option Addr) (ac:Nat) (hr:RowsAt w aa 1 numL [x0]) :
  Calls prog 157 #[.pointer O,.slice aa 1 ac] w (AskP (askW 4) (askO b l 4 [x0]) w):=by
 obtain ⟨hgl,hpl⟩:=Zon (b:=b) h.inn.notes
 have HV:=hd_ (fun W (hb:Below w.heap.size w W)=>Zkt (h.at_.below hb) h.inn)
 have HC:Hid (∀ ga gc pa pc W,GsAt W ga (bnO b l).gs→PsAt W pa (bnO b l).ps→Calls prog 35 #[bv (bnO b l) ga gc pa pc,x0] W (Zfg (.int .i64 (Zg7 (bnO b l) x0).1) (.int .i64 (Zg7 (bnO b l) x0).2.1) (.int .i64 (Zg7 (bnO b l) x0).2.2) W)):=fun ga gc pa pc W h1 h2=>bb_Tell (bnO b l) ga gc pa pc W h1 h2 hgl hpl x0
 have HVar:=hd_ (fun W (hb:Below w.heap.size w W)=>h.at_.vars.below hb h.at_.vars.2.2.2.2)
 have hi:=Zdh b l 4 [x0]
 have hq:askO b l 4 [x0]=([(Zg7 (bnO b l) x0).1,(Zg7 (bnO b l) x0).2.1],(Zg7 (bnO b l) x0).2.2):=rfl
 rw [hq] at hi ⊢
 obtain ⟨gb,go,rfl,h0⟩:=hr 0 sp_
 have q0:=h0 0 _ rfl
 simp only [Nat.zero_mul,Nat.add_zero] at q0
 have lg:=bl_ w _ q0
 have hq0d:w.drew.cell? ⟨gb,go,none⟩=some (.int .i64 x0):=q0
 have hBd:w w.drew:=br_.drew
 clear h0 hr
 unfold bv at *
 generalize (Zg7 (bnO b l) x0).1=q1 at *
 generalize (Zg7 (bnO b l) x0).2.1=q2 at *
 generalize (Zg7 (bnO b l) x0).2.2=q3 at *
 generalize bnO b l=bn at *
 have HS:Hid (∀ W a c,Below w.heap.size w W→RowsAt W a 1 itL [((q1,none):It),((q2,none):It)]→Calls prog 237 #[strV (askW 4),q3,.slice a 2 c] W (AskP (askW 4) ([q1,q2],q3) W)):=fun W a c hb hr=>Zev (askW 4) [((q1,none):It),((q2,none):It)] ([q1,q2],q3) rfl a c W (HVar.out W hb) hr de_ sp_ hi
 clear h hq hi hgl hpl
 unfold strV at HS
 have ew:(⟨(askW 4).toArray⟩:ByteArray)=⟨#[116,101,108,108]⟩:=by rfl
 rw [ew] at HS
 clear ew
 go_enter func157,ntmps157
 go_upto_region 1 with fail
 refine Zxt [(0,0),(1,0),(3,1),(4,1),(5,1),(2,2),(6,2),(7,0),(8,0),(9,0),(10,0),(11,0),(12,0),(13,0)] (fun W=>W.cell? ⟨gb,go,none⟩=some (.int .i64 x0)) kr_ kr_ hq0d ?_
 go_wp2_with (first
  | ((with_reducible refine Zxo ?_);refine Za2 ?_)
  | (go_at_call 236;refine (HV.out _ hBd).mono ?_;rintro e w3 ⟨ga,gc,pa,pc,rfl,hb3,hg,hp⟩;have hH3:=Za4 hb3 hq0d)
  | (go_at_call 35;refine (HC.out _ _ _ _ _ hg hp).mono ?_;rintro e w4 ⟨rfl,hb4⟩;have hH4:=Za4 hb4 hH3)
  | (refine Zxe (by first|with_reducible exact hH3|with_reducible exact hH4) (fun _=>?_))
  | ((with_reducible refine Zxd ?_);first|(refine Zxp (ad:=⟨gb,go,none⟩) ↑x0 rfl rfl ?_ ?_;(focus (intro W hW;simp [go_sem,hW];done));intro K hK)|(refine Zxv (.pointer (some ⟨gb,go,none⟩)) rfl ?_ ?_;(focus (intro W hW;simp [go_sem,];done));intro K hK))
  | (refine o_ ?_;intro K hK)|(with_reducible first|refine Zxn ?_ ?_|refine Zxi ?_|refine Zxe bn_ (fun _=>?_)))
 unfold Stop
 have hB4:w w4:=hBd.trans (hb3.trans (hb4.mono hb3.size))
 clear hg hp hb3 hb4 HC HV hH3 hH4
 exact Q35
theorem o_keeps (h:OvOk w O b l sa sc fa fc na nc) (x0:Int) (aa:Option Addr) (ac:Nat) (hr:RowsAt w aa 1 numL [x0]) :
  Calls prog 162 #[.pointer O,.slice aa 1 ac] w (AskP (askW 9) (askO b l 9 [x0]) w):=by
 have hgl:=Zwh h.inn
 have HV:=hd_ (fun W (hb:Below w.heap.size w W)=>Zq8 (h.at_.below hb) h.inn)
 have HC:Hid (∀ ca cc W,RowsAt W ca 3 Zbb (clO b l).bs→Calls prog 40 #[.agg (clV (clO b l) ca cc),x0] W (Zat (.int .i64 (Zdx (clO b l) x0).1) (.int .i64 (Zdx (clO b l) x0).2) W)):=fun ca cc W h1=>c_Keeps (clO b l) ca cc x0 W h1 hgl
 have HVar:=hd_ (fun W (hb:Below w.heap.size w W)=>h.at_.vars.below hb h.at_.vars.2.2.2.2)
 have hi:=Zdh b l 9 [x0]
 have hq:askO b l 9 [x0]=([(Zdx (clO b l) x0).1],(Zdx (clO b l) x0).2):=rfl
 rw [hq] at hi ⊢
 obtain ⟨gb,go,rfl,h0⟩:=hr 0 sp_
 have q0:=h0 0 _ rfl
 simp only [Nat.zero_mul,Nat.add_zero] at q0
 have lg:=bl_ w _ q0
 have hq0d:w.drew.cell? ⟨gb,go,none⟩=some (.int .i64 x0):=q0
 have hBd:w w.drew:=br_.drew
 clear h0 hr
 unfold clV at *
 generalize (Zdx (clO b l) x0).1=q1 at *
 generalize (Zdx (clO b l) x0).2=q3 at *
 generalize clO b l=bn at *
 have HS:Hid (∀ W a c,Below w.heap.size w W→RowsAt W a 1 itL [((q1,none):It)]→Calls prog 237 #[strV (askW 9),q3,.slice a 1 c] W (AskP (askW 9) ([q1],q3) W)):=fun W a c hb hr=>Zev (askW 9) [((q1,none):It)] ([q1],q3) rfl a c W (HVar.out W hb) hr de_ sp_ hi
 clear h hq hi hgl
 unfold strV at HS
 have ew:(⟨(askW 9).toArray⟩:ByteArray)=⟨#[107,101,101,112,115]⟩:=by rfl
 rw [ew] at HS
 clear ew
 go_enter func162,ntmps162
 go_upto_region 1 with fail
 refine Zxt [(0,0),(2,1),(3,1),(4,1),(1,2),(5,2),(6,0),(7,0),(8,0),(9,0),(10,0)] (fun W=>W.cell? ⟨gb,go,none⟩=some (.int .i64 x0)) kr_ kr_ hq0d ?_
 go_wp2_with (first
  | ((with_reducible refine Zxo ?_);refine Za2 ?_)
  | (go_at_call 239;refine (HV.out _ hBd).mono ?_;rintro e w3 ⟨ca,cc,rfl,hb3,hg⟩;have hp:True:=trivial;have hH3:=Za4 hb3 hq0d)
  | (go_at_call 40;refine (HC.out _ _ _ hg).mono ?_;rintro e w4 ⟨rfl,hb4⟩;have hH4:=Za4 hb4 hH3)
  | (refine Zxe (by first|with_reducible exact hH3|with_reducible exact hH4) (fun _=>?_))
  | ((with_reducible refine Zxd ?_);first|(refine Zxp (ad:=⟨gb,go,none⟩) ↑x0 rfl rfl ?_ ?_;(focus (intro W hW;simp [go_sem,hW];done));intro K hK)|(refine Zxv (.pointer (some ⟨gb,go,none⟩)) rfl ?_ ?_;(focus (intro W hW;simp [go_sem,];done));intro K hK))
  | (refine o_ ?_;intro K hK)|(with_reducible first|refine Zxn ?_ ?_|refine Zxi ?_|refine Zxe bn_ (fun _=>?_)))
 exact Q3l
theorem o_more (h:OvOk w O b l sa sc fa fc na nc) (x0:Int) (aa:Option Addr) (ac:Nat) (hr:RowsAt w aa 1 numL [x0]) :
  Calls prog 163 #[.pointer O,.slice aa 1 ac] w (AskP (askW 10) (askO b l 10 [x0]) w):=by
 have hgl:=Zwh h.inn
 have HV:=hd_ (fun W (hb:Below w.heap.size w W)=>Zq8 (h.at_.below hb) h.inn)
 have HC:Hid (∀ ca cc W,RowsAt W ca 3 Zbb (clO b l).bs→Calls prog 41 #[.agg (clV (clO b l) ca cc),x0] W (Zat (.int .i64 (Zhj (clO b l) x0).1) (.int .i64 (Zhj (clO b l) x0).2) W)):=fun ca cc W h1=>c_More (clO b l) ca cc x0 W h1 hgl
 have HVar:=hd_ (fun W (hb:Below w.heap.size w W)=>h.at_.vars.below hb h.at_.vars.2.2.2.2)
 have hi:=Zdh b l 10 [x0]
 have hq:askO b l 10 [x0]=([(Zhj (clO b l) x0).1],(Zhj (clO b l) x0).2):=rfl
 rw [hq] at hi ⊢
 obtain ⟨gb,go,rfl,h0⟩:=hr 0 sp_
 have q0:=h0 0 _ rfl
 simp only [Nat.zero_mul,Nat.add_zero] at q0
 have lg:=bl_ w _ q0
 have hq0d:w.drew.cell? ⟨gb,go,none⟩=some (.int .i64 x0):=q0
 have hBd:w w.drew:=br_.drew
 clear h0 hr
 unfold clV at *
 generalize (Zhj (clO b l) x0).1=q1 at *
 generalize (Zhj (clO b l) x0).2=q3 at *
 generalize clO b l=bn at *
 have HS:Hid (∀ W a c,Below w.heap.size w W→RowsAt W a 1 itL [((q1,none):It)]→Calls prog 237 #[strV (askW 10),q3,.slice a 1 c] W (AskP (askW 10) ([q1],q3) W)):=fun W a c hb hr=>Zev (askW 10) [((q1,none):It)] ([q1],q3) rfl a c W (HVar.out W hb) hr de_ sp_ hi
 clear h hq hi hgl
 unfold strV at HS
 have ew:(⟨(askW 10).toArray⟩:ByteArray)=⟨#[109,111,114,101]⟩:=by rfl
 rw [ew] at HS
 clear ew
 go_enter func163,ntmps163
 go_upto_region 1 with fail
 refine Zxt [(0,0),(2,1),(3,1),(4,1),(1,2),(5,2),(6,0),(7,0),(8,0),(9,0),(10,0)] (fun W=>W.cell? ⟨gb,go,none⟩=some (.int .i64 x0)) kr_ kr_ hq0d ?_
 go_wp2_with (first
  | ((with_reducible refine Zxo ?_);refine Za2 ?_)
  | (go_at_call 239;refine (HV.out _ hBd).mono ?_;rintro e w3 ⟨ca,cc,rfl,hb3,hg⟩;have hp:True:=trivial;have hH3:=Za4 hb3 hq0d)
  | (go_at_call 41;refine (HC.out _ _ _ hg).mono ?_;rintro e w4 ⟨rfl,hb4⟩;have hH4:=Za4 hb4 hH3)
  | (refine Zxe (by first|with_reducible exact hH3|with_reducible exact hH4) (fun _=>?_))
  | ((with_reducible refine Zxd ?_);first|(refine Zxp (ad:=⟨gb,go,none⟩) ↑x0 rfl rfl ?_ ?_;(focus (intro W hW;simp [go_sem,hW];done));intro K hK)|(refine Zxv (.pointer (some ⟨gb,go,none⟩)) rfl ?_ ?_;(focus (intro W hW;simp [go_sem,];done));intro K hK))
  | (refine o_ ?_;intro K hK)|(with_reducible first|refine Zxn ?_ ?_|refine Zxi ?_|refine Zxe bn_ (fun _=>?_)))
 exact Q3l
end
end Go.Proofs.YtbapgefodmmikaaGreatDoor
