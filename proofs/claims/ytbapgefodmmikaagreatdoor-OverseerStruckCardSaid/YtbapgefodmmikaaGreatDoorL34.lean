/- Parts of a proof. -/
import Derived.Test.YtbapgefodmmikaaGreatDoorLMin
import Derived.Test.YtbapgefodmmikaaGreatDoorL33
import Derived.Lib.SplitLaws
import Derived.Test.YtbapgefodmmikaaGreatDoorL33
set_option linter.unusedVariables false
set_option linter.unusedSimpArgs false
set_option maxHeartbeats 40000000
set_option maxRecDepth 100000
namespace Go.Proofs.YtbapgefodmmikaaGreatDoor
open Go.RowKit Go.Proofs Go.Ord Tryz
attribute [local irreducible] Ord.walk
attribute [local go_sem] Oper.semAt_some
section
variable {w:World}{O:Nat}{b:Ov}{l:List Nt}{sa:Option Addr}{sc:Nat}{fa:Option Addr}{fc:Nat}{na:Option Addr}{nc:Nat}
theorem _root_.Q38 {p:Prop}(h:p:=by
 obtain ⟨pb,rfl,rfl,b6,hB6⟩:=hcut
 go_wp2_with (first
  | (refine Za0 23 (.tmp 5) Zav rfl rfl rfl b6 rfl ?_)
  | (go_at_call 237;refine Za2 ?_))
 unfold Stop
 have hBf:w (wc.alloc (.cells #[.iface 23 (.agg #[q1,q2])] 20)):=hB6.alloc hB6.size _
 refine (HS.out _ _ _ hBf (Zba wc [((q1,some q2):It)] 20)).mono ?_
 rintro e w' hP
 have hP2:=hP.from hBf
 exact Q9):p:=h
theorem o_shorn (h:OvOk w O b l sa sc fa fc na nc) (x0:Int) (aa:Option Addr) (ac:Nat) (hr:RowsAt w aa 1 numL [x0]) :
  Calls prog 158 #[.pointer O,.slice aa 1 ac] w (AskP (askW 5) (askO b l 5 [x0]) w):=by
 obtain ⟨hgl,hpl⟩:=Zv4 h.inn
 have HV:=hd_ (fun W (hb:Below w.heap.size w W)=>Zn2 (h.at_.below hb) h.inn)
 have HC:Hid (∀ ca cc W,RowsAt W sa 2 Zax (tyO b l).strays→RowsAt W ca 4 Zcn (tyO b l).calls→Calls prog 36 #[.agg (tyV (tyO b l) sa sc ca cc),x0] W (Zat (.agg (spV (ofR false (tyO b l) x0).1)) (.int .i64 (ofR false (tyO b l) x0).2) W)):=fun ca cc W h1 h2=>t_Shorn (tyO b l) sa sc ca cc x0 W h1 h2 hgl hpl
 have HVar:=hd_ (fun W (hb:Below w.heap.size w W)=>h.at_.vars.below hb h.at_.vars.2.2.2.2)
 have hi:=Zdl b l 5 [x0]
 have hq:askO b l 5 [x0]=([(ofR false (tyO b l) x0).1.1,(ofR false (tyO b l) x0).1.2],(ofR false (tyO b l) x0).2):=rfl
 rw [hq] at hi ⊢
 obtain ⟨gb,go,rfl,h0⟩:=hr 0 sp_
 have q0:=h0 0 _ rfl
 simp only [Nat.zero_mul,Nat.add_zero] at q0
 have lg:=bl_ w _ q0
 have hq0d:w.drew.cell? ⟨gb,go,none⟩=some (.int .i64 x0):=q0
 have hBd:w w.drew:=br_.drew
 have hBa:w (w.alloc (.cells #[(),()] 23)).drew:=(br_.alloc nl_ _).drew
 have hq0a:(w.alloc (.cells #[(),()] 23)).drew.cell? ⟨gb,go,none⟩=some (.int .i64 x0):=Za4 hBa q0
 have bA:Blk (w.alloc (.cells #[(),()] 23)).drew w.heap.size #[(),()] 23:=(Blk.new _ _ _).drew
 clear h0 hr
 unfold tyV spV at *
 generalize (ofR false (tyO b l) x0).1.1=q1 at *
 generalize (ofR false (tyO b l) x0).1.2=q2 at *
 generalize (ofR false (tyO b l) x0).2=q3 at *
 generalize tyO b l=bn at *
 have HS:Hid (∀ W a c,Below w.heap.size w W→RowsAt W a 1 itL [((q1,some q2):It)]→Calls prog 237 #[strV (askW 5),q3,.slice a 1 c] W (AskP (askW 5) ([q1,q2],q3) W)):=fun W a c hb hr=>Zf1 (askW 5) [(q1,some q2)] ([q1,q2],q3) rfl a c W (HVar.out W hb) hr de_ sp_ hi
 clear h hq hi hgl hpl
 unfold strV at HS
 have ew:(⟨(askW 5).toArray⟩:ByteArray)=⟨#[115,104,111,114,110]⟩:=by rfl
 rw [ew] at HS
 clear ew
 go_enter func158,ntmps158
 go_upto_region 1 with fail
 go_cut [5,6] from 7 to 16 (fun p5 p6 wx=>∃ pb,p5=.pointer (some ⟨pb,0,none⟩)∧p6=↑q3∧Blk wx pb #[q1,q2] 23∧Below w.heap.size w wx)
 case first =>
  refine Zyz 4 (.fork2 [(0,1),(1,1),(3,1),(4,1),(5,1)] 2 (.fork2 [] 6 (.leaf [(7,1),(8,1),(9,1),(10,2),(11,2),(12,0)]) 10 (.leaf [(6,2),(7,0),(8,0),(9,1),(11,2),(12,0)])) 10 (.leaf [(2,2),(6,2),(7,0),(8,0),(9,1),(11,2),(12,0)])) (fun W=>W.cell? ⟨gb,go,none⟩=some (.int .i64 x0)) kr_ kr_ hq0d ?_
  go_wp2_with (first
   | (with_reducible refine Zyp ?_)
   | (go_at_call 238;refine (HV.out _ (by first|exact hBd|exact hBa)).mono ?_;rintro e w3 ⟨ca,cc,rfl,hb3,hg,hp⟩;have hH3:w3.cell? ⟨gb,go,none⟩=some (.int .i64 x0):=(by first|exact Za4 hb3 hq0d|exact Za4 hb3 hq0a);have hH3a:=Za4 ((Below.refl w3.heap.size w3).alloc nl_ (.cells #[(),()] 23)) hH3;have hB3:w w3:=(by first|exact hBd.trans hb3|exact hBa.trans (hb3.mono sp_));have hB3a:w (w3.alloc (.cells #[(),()] 23)):=hB3.alloc hB3.size _;have b3n:=Blk.new w3 #[(),()] 23)
   | (go_at_call 36;refine (HC.out _ _ _ (by first|exact hg|exact hg.below bel_) (by first|exact hp|exact hp.below bel_)).mono ?_;rintro e w4 ⟨rfl,hb4⟩;have hH4:w4.cell? ⟨gb,go,none⟩=some (.int .i64 x0):=(by first|exact Za4 hb4 hH3|exact Za4 hb4 hH3a);have hH4a:=Za4 ((Below.refl w4.heap.size w4).alloc nl_ (.cells #[(),()] 23)) hH4;have hB4:w w4:=(by first|exact hB3.trans (hb4.mono hB3.size)|exact hB3a.trans (hb4.mono hB3a.size));have hB4a:w (w4.alloc (.cells #[(),()] 23)):=hB4.alloc hB4.size _)
   | (refine Za1 23 (.tmp 5) (.tmp 15) Zav rfl rfl rfl rfl (by first|exact Blk.new w4 _ _|exact b3n.below hb4 b3n.lt|exact (bA.below hb3 bA.lt).below hb4 (bA.below hb3 bA.lt).lt) rfl rfl (by simp [Value.oneCell']) ?_;intro w6 h6;have hl6:=(Lets.refl (fun k _=>w.heap.size≤k) _).rowed h6 (by first|exact hB4.size|exact hB3.size|exact Nat.le_refl _);have hH6:w6.cell? ⟨gb,go,none⟩=some (.int .i64 x0):=(by first|exact (World.cell?_of_block (hl6.block gb (bl_ _ _ hH4) om_)).trans hH4|exact (World.cell?_of_block (hl6.block gb (bl_ _ _ hH4a) om_)).trans hH4a);have hB6:w w6:=(by first|exact Za3 hB4 hl6 nl_ (fun _ _ h e=>om_)|exact Za3 hB4a hl6 nl_ (fun _ _ h e=>om_));have b6:=h6.blk)
   | (refine Zyf (by first|with_reducible exact hH6|with_reducible exact hH4a|with_reducible exact hH4|with_reducible exact hH3a|with_reducible exact hH3|with_reducible exact hq0a) (fun _=>?_))
   | ((with_reducible refine Zye ?_);first|(refine Zyq (ad:=⟨gb,go,none⟩) ↑x0 rfl rfl ?_ ?_;(focus (intro W hW;simp [go_sem,hW];done));intro K hK)|(refine Zyw (.pointer (some ⟨gb,go,none⟩)) rfl ?_ ?_;(focus (intro W hW;simp [go_sem,];done));intro K hK)|(refine Zyt rfl (.tuple #[.agg #[q1,q2],q3]) ?_ ?_;(focus (intro W _;simp [go_sem,Zyr,Zys];done));intro K hK)|(refine Zyt rfl (.agg #[q1,q2]) ?_ ?_;(focus (intro W _;simp [go_sem,Zyr,Zys];done));intro K hK)|(refine Zyt rfl ↑q3 ?_ ?_;(focus (intro W _;simp [go_sem,Zyr,Zys];done));intro K hK)|(refine Zyt rfl (.agg #[.pointer O]) ?_ ?_;(focus (intro W _;simp [go_sem,Zyr,Zys];done));intro K hK))
   | with_reducible refine Ord.top_two ?_|with_reducible refine Ord.top_three ?_|with_reducible refine Ord.at_two ?_ ?_|with_reducible refine Ord.at_three ?_ ?_ ?_|with_reducible refine Ord.tree_leaf ?_|with_reducible refine Ord.tree_two ?_|(refine o_ ?_;intro K hK)|(with_reducible first|refine Zyo ?_ ?_|refine Zyj ?_|refine Zyf bn_ (fun _=>?_)))
  all_goals go_meet
  all_goals exact ⟨_,rfl,rfl,b6,hB6⟩
 case rest =>exact Q38
theorem o_inside (h:OvOk w O b l sa sc fa fc na nc) (x0:Int) (aa:Option Addr) (ac:Nat) (hr:RowsAt w aa 1 numL [x0]) :
  Calls prog 159 #[.pointer O,.slice aa 1 ac] w (AskP (askW 6) (askO b l 6 [x0]) w):=by
 obtain ⟨hgl,hpl⟩:=Zv4 h.inn
 have HV:=hd_ (fun W (hb:Below w.heap.size w W)=>Zn2 (h.at_.below hb) h.inn)
 have HC:Hid (∀ ca cc W,RowsAt W sa 2 Zax (tyO b l).strays→RowsAt W ca 4 Zcn (tyO b l).calls→Calls prog 37 #[.agg (tyV (tyO b l) sa sc ca cc),x0] W (Zat (.agg (spV (ofR true (tyO b l) x0).1)) (.int .i64 (ofR true (tyO b l) x0).2) W)):=fun ca cc W h1 h2=>t_Pen (tyO b l) sa sc ca cc x0 W h1 h2 hgl hpl
 have HVar:=hd_ (fun W (hb:Below w.heap.size w W)=>h.at_.vars.below hb h.at_.vars.2.2.2.2)
 have hi:=Zdl b l 6 [x0]
 have hq:askO b l 6 [x0]=([(ofR true (tyO b l) x0).1.1,(ofR true (tyO b l) x0).1.2],(ofR true (tyO b l) x0).2):=rfl
 rw [hq] at hi ⊢
 obtain ⟨gb,go,rfl,h0⟩:=hr 0 sp_
 have q0:=h0 0 _ rfl
 simp only [Nat.zero_mul,Nat.add_zero] at q0
 have lg:=bl_ w _ q0
 have hq0d:w.drew.cell? ⟨gb,go,none⟩=some (.int .i64 x0):=q0
 have hBd:w w.drew:=br_.drew
 have hBa:w (w.alloc (.cells #[(),()] 23)).drew:=(br_.alloc nl_ _).drew
 have hq0a:(w.alloc (.cells #[(),()] 23)).drew.cell? ⟨gb,go,none⟩=some (.int .i64 x0):=Za4 hBa q0
 have bA:Blk (w.alloc (.cells #[(),()] 23)).drew w.heap.size #[(),()] 23:=(Blk.new _ _ _).drew
 clear h0 hr
 unfold tyV spV at *
 generalize (ofR true (tyO b l) x0).1.1=q1 at *
 generalize (ofR true (tyO b l) x0).1.2=q2 at *
 generalize (ofR true (tyO b l) x0).2=q3 at *
 generalize tyO b l=bn at *
 have HS:Hid (∀ W a c,Below w.heap.size w W→RowsAt W a 1 itL [((q1,some q2):It)]→Calls prog 237 #[strV (askW 6),q3,.slice a 1 c] W (AskP (askW 6) ([q1,q2],q3) W)):=fun W a c hb hr=>Zf1 (askW 6) [(q1,some q2)] ([q1,q2],q3) rfl a c W (HVar.out W hb) hr de_ sp_ hi
 clear h hq hi hgl hpl
 unfold strV at HS
 have ew:(⟨(askW 6).toArray⟩:ByteArray)=⟨#[105,110,115,105,100,101]⟩:=by rfl
 rw [ew] at HS
 clear ew
 go_enter func159,ntmps159
 go_upto_region 1 with fail
 go_cut [5,6] from 7 to 16 (fun p5 p6 wx=>∃ pb,p5=.pointer (some ⟨pb,0,none⟩)∧p6=↑q3∧Blk wx pb #[q1,q2] 23∧Below w.heap.size w wx)
 case first =>
  refine Zyz 4 (.fork2 [(0,1),(1,1),(3,1),(4,1),(5,1)] 2 (.fork2 [] 6 (.leaf [(7,1),(8,1),(9,1),(10,2),(11,2),(12,0)]) 10 (.leaf [(6,2),(7,0),(8,0),(9,1),(11,2),(12,0)])) 10 (.leaf [(2,2),(6,2),(7,0),(8,0),(9,1),(11,2),(12,0)])) (fun W=>W.cell? ⟨gb,go,none⟩=some (.int .i64 x0)) kr_ kr_ hq0d ?_
  go_wp2_with (first
   | (with_reducible refine Zyp ?_)
   | (go_at_call 238;refine (HV.out _ (by first|exact hBd|exact hBa)).mono ?_;rintro e w3 ⟨ca,cc,rfl,hb3,hg,hp⟩;have hH3:w3.cell? ⟨gb,go,none⟩=some (.int .i64 x0):=(by first|exact Za4 hb3 hq0d|exact Za4 hb3 hq0a);have hH3a:=Za4 ((Below.refl w3.heap.size w3).alloc nl_ (.cells #[(),()] 23)) hH3;have hB3:w w3:=(by first|exact hBd.trans hb3|exact hBa.trans (hb3.mono sp_));have hB3a:w (w3.alloc (.cells #[(),()] 23)):=hB3.alloc hB3.size _;have b3n:=Blk.new w3 #[(),()] 23)
   | (go_at_call 37;refine (HC.out _ _ _ (by first|exact hg|exact hg.below bel_) (by first|exact hp|exact hp.below bel_)).mono ?_;rintro e w4 ⟨rfl,hb4⟩;have hH4:w4.cell? ⟨gb,go,none⟩=some (.int .i64 x0):=(by first|exact Za4 hb4 hH3|exact Za4 hb4 hH3a);have hH4a:=Za4 ((Below.refl w4.heap.size w4).alloc nl_ (.cells #[(),()] 23)) hH4;have hB4:w w4:=(by first|exact hB3.trans (hb4.mono hB3.size)|exact hB3a.trans (hb4.mono hB3a.size));have hB4a:w (w4.alloc (.cells #[(),()] 23)):=hB4.alloc hB4.size _)
   | (refine Za1 23 (.tmp 5) (.tmp 15) Zav rfl rfl rfl rfl (by first|exact Blk.new w4 _ _|exact b3n.below hb4 b3n.lt|exact (bA.below hb3 bA.lt).below hb4 (bA.below hb3 bA.lt).lt) rfl rfl (by simp [Value.oneCell']) ?_;intro w6 h6;have hl6:=(Lets.refl (fun k _=>w.heap.size≤k) _).rowed h6 (by first|exact hB4.size|exact hB3.size|exact Nat.le_refl _);have hH6:w6.cell? ⟨gb,go,none⟩=some (.int .i64 x0):=(by first|exact (World.cell?_of_block (hl6.block gb (bl_ _ _ hH4) om_)).trans hH4|exact (World.cell?_of_block (hl6.block gb (bl_ _ _ hH4a) om_)).trans hH4a);have hB6:w w6:=(by first|exact Za3 hB4 hl6 nl_ (fun _ _ h e=>om_)|exact Za3 hB4a hl6 nl_ (fun _ _ h e=>om_));have b6:=h6.blk)
   | (refine Zyf (by first|with_reducible exact hH6|with_reducible exact hH4a|with_reducible exact hH4|with_reducible exact hH3a|with_reducible exact hH3|with_reducible exact hq0a) (fun _=>?_))
   | ((with_reducible refine Zye ?_);first|(refine Zyq (ad:=⟨gb,go,none⟩) ↑x0 rfl rfl ?_ ?_;(focus (intro W hW;simp [go_sem,hW];done));intro K hK)|(refine Zyw (.pointer (some ⟨gb,go,none⟩)) rfl ?_ ?_;(focus (intro W hW;simp [go_sem,];done));intro K hK)|(refine Zyt rfl (.tuple #[.agg #[q1,q2],q3]) ?_ ?_;(focus (intro W _;simp [go_sem,Zyr,Zys];done));intro K hK)|(refine Zyt rfl (.agg #[q1,q2]) ?_ ?_;(focus (intro W _;simp [go_sem,Zyr,Zys];done));intro K hK)|(refine Zyt rfl ↑q3 ?_ ?_;(focus (intro W _;simp [go_sem,Zyr,Zys];done));intro K hK)|(refine Zyt rfl (.agg #[.pointer O]) ?_ ?_;(focus (intro W _;simp [go_sem,Zyr,Zys];done));intro K hK))
   | with_reducible refine Ord.top_two ?_|with_reducible refine Ord.top_three ?_|with_reducible refine Ord.at_two ?_ ?_|with_reducible refine Ord.at_three ?_ ?_ ?_|with_reducible refine Ord.tree_leaf ?_|with_reducible refine Ord.tree_two ?_|(refine o_ ?_;intro K hK)|(with_reducible first|refine Zyo ?_ ?_|refine Zyj ?_|refine Zyf bn_ (fun _=>?_)))
  all_goals go_meet
  all_goals exact ⟨_,rfl,rfl,b6,hB6⟩
 case rest =>exact Q38
theorem o_wrong (h:OvOk w O b l sa sc fa fc na nc) (x0:Int) (aa:Option Addr) (ac:Nat) (hr:RowsAt w aa 1 numL [x0]) :
  Calls prog 161 #[.pointer O,.slice aa 1 ac] w (AskP (askW 8) (askO b l 8 [x0]) w):=by
 have hgl:=Zxd h.inn
 have HV:=hd_ (fun W (hb:Below w.heap.size w W)=>Zqz (h.at_.below hb) h.inn)
 have HC:Hid (∀ ca cc W,RowsAt W ca 3 Zbf (clO b l).bs→Calls prog 39 #[.agg (clV (clO b l) ca cc),x0] W (Zat (.agg (spV (Zc6 (clO b l) x0).1)) (.int .i64 (Zc6 (clO b l) x0).2) W)):=fun ca cc W h1=>c_Wrong (clO b l) ca cc x0 W h1 hgl
 have HVar:=hd_ (fun W (hb:Below w.heap.size w W)=>h.at_.vars.below hb h.at_.vars.2.2.2.2)
 have hi:=Zdl b l 8 [x0]
 have hq:askO b l 8 [x0]=([(Zc6 (clO b l) x0).1.1,(Zc6 (clO b l) x0).1.2],(Zc6 (clO b l) x0).2):=rfl
 rw [hq] at hi ⊢
 obtain ⟨gb,go,rfl,h0⟩:=hr 0 sp_
 have q0:=h0 0 _ rfl
 simp only [Nat.zero_mul,Nat.add_zero] at q0
 have lg:=bl_ w _ q0
 have hq0d:w.drew.cell? ⟨gb,go,none⟩=some (.int .i64 x0):=q0
 have hBd:w w.drew:=br_.drew
 have hBa:w (w.alloc (.cells #[(),()] 23)).drew:=(br_.alloc nl_ _).drew
 have hq0a:(w.alloc (.cells #[(),()] 23)).drew.cell? ⟨gb,go,none⟩=some (.int .i64 x0):=Za4 hBa q0
 have bA:Blk (w.alloc (.cells #[(),()] 23)).drew w.heap.size #[(),()] 23:=(Blk.new _ _ _).drew
 clear h0 hr
 unfold clV spV at *
 generalize (Zc6 (clO b l) x0).1.1=q1 at *
 generalize (Zc6 (clO b l) x0).1.2=q2 at *
 generalize (Zc6 (clO b l) x0).2=q3 at *
 generalize clO b l=bn at *
 have HS:Hid (∀ W a c,Below w.heap.size w W→RowsAt W a 1 itL [((q1,some q2):It)]→Calls prog 237 #[strV (askW 8),q3,.slice a 1 c] W (AskP (askW 8) ([q1,q2],q3) W)):=fun W a c hb hr=>Zf1 (askW 8) [(q1,some q2)] ([q1,q2],q3) rfl a c W (HVar.out W hb) hr de_ sp_ hi
 clear h hq hi hgl
 unfold strV at HS
 have ew:(⟨(askW 8).toArray⟩:ByteArray)=⟨#[119,114,111,110,103]⟩:=by rfl
 rw [ew] at HS
 clear ew
 go_enter func161,ntmps161
 go_upto_region 1 with fail
 go_cut [5,6] from 7 to 15 (fun p5 p6 wx=>∃ pb,p5=.pointer (some ⟨pb,0,none⟩)∧p6=↑q3∧Blk wx pb #[q1,q2] 23∧Below w.heap.size w wx)
 case first =>
  refine Zyz 4 (.fork2 [(0,1),(2,1),(3,1),(4,1)] 1 (.fork2 [] 5 (.leaf [(6,1),(7,1),(8,1),(9,2),(10,2),(11,0)]) 9 (.leaf [(5,2),(6,0),(7,0),(8,1),(10,2),(11,0)])) 9 (.leaf [(1,2),(5,2),(6,0),(7,0),(8,1),(10,2),(11,0)])) (fun W=>W.cell? ⟨gb,go,none⟩=some (.int .i64 x0)) kr_ kr_ hq0d ?_
  go_wp2_with (first
   | (with_reducible refine Zyp ?_)
   | (go_at_call 239;refine (HV.out _ (by first|exact hBd|exact hBa)).mono ?_;rintro e w3 ⟨ca,cc,rfl,hb3,hg⟩;have hp:True:=trivial;have hH3:w3.cell? ⟨gb,go,none⟩=some (.int .i64 x0):=(by first|exact Za4 hb3 hq0d|exact Za4 hb3 hq0a);have hH3a:=Za4 ((Below.refl w3.heap.size w3).alloc nl_ (.cells #[(),()] 23)) hH3;have hB3:w w3:=(by first|exact hBd.trans hb3|exact hBa.trans (hb3.mono sp_));have hB3a:w (w3.alloc (.cells #[(),()] 23)):=hB3.alloc hB3.size _;have b3n:=Blk.new w3 #[(),()] 23)
   | (go_at_call 39;refine (HC.out _ _ _ (by first|exact hg|exact hg.below bel_)).mono ?_;rintro e w4 ⟨rfl,hb4⟩;have hH4:w4.cell? ⟨gb,go,none⟩=some (.int .i64 x0):=(by first|exact Za4 hb4 hH3|exact Za4 hb4 hH3a);have hH4a:=Za4 ((Below.refl w4.heap.size w4).alloc nl_ (.cells #[(),()] 23)) hH4;have hB4:w w4:=(by first|exact hB3.trans (hb4.mono hB3.size)|exact hB3a.trans (hb4.mono hB3a.size));have hB4a:w (w4.alloc (.cells #[(),()] 23)):=hB4.alloc hB4.size _)
   | (refine Za1 23 (.tmp 5) (.tmp 14) Zav rfl rfl rfl rfl (by first|exact Blk.new w4 _ _|exact b3n.below hb4 b3n.lt|exact (bA.below hb3 bA.lt).below hb4 (bA.below hb3 bA.lt).lt) rfl rfl (by simp [Value.oneCell']) ?_;intro w6 h6;have hl6:=(Lets.refl (fun k _=>w.heap.size≤k) _).rowed h6 (by first|exact hB4.size|exact hB3.size|exact Nat.le_refl _);have hH6:w6.cell? ⟨gb,go,none⟩=some (.int .i64 x0):=(by first|exact (World.cell?_of_block (hl6.block gb (bl_ _ _ hH4) om_)).trans hH4|exact (World.cell?_of_block (hl6.block gb (bl_ _ _ hH4a) om_)).trans hH4a);have hB6:w w6:=(by first|exact Za3 hB4 hl6 nl_ (fun _ _ h e=>om_)|exact Za3 hB4a hl6 nl_ (fun _ _ h e=>om_));have b6:=h6.blk)
   | (refine Zyf (by first|with_reducible exact hH6|with_reducible exact hH4a|with_reducible exact hH4|with_reducible exact hH3a|with_reducible exact hH3|with_reducible exact hq0a) (fun _=>?_))
   | ((with_reducible refine Zye ?_);first|(refine Zyq (ad:=⟨gb,go,none⟩) ↑x0 rfl rfl ?_ ?_;(focus (intro W hW;simp [go_sem,hW];done));intro K hK)|(refine Zyw (.pointer (some ⟨gb,go,none⟩)) rfl ?_ ?_;(focus (intro W hW;simp [go_sem,];done));intro K hK)|(refine Zyt rfl (.tuple #[.agg #[q1,q2],q3]) ?_ ?_;(focus (intro W _;simp [go_sem,Zyr,Zys];done));intro K hK)|(refine Zyt rfl (.agg #[q1,q2]) ?_ ?_;(focus (intro W _;simp [go_sem,Zyr,Zys];done));intro K hK)|(refine Zyt rfl ↑q3 ?_ ?_;(focus (intro W _;simp [go_sem,Zyr,Zys];done));intro K hK)|(refine Zyt rfl (.agg #[.pointer O]) ?_ ?_;(focus (intro W _;simp [go_sem,Zyr,Zys];done));intro K hK))
   | with_reducible refine Ord.top_two ?_|with_reducible refine Ord.top_three ?_|with_reducible refine Ord.at_two ?_ ?_|with_reducible refine Ord.at_three ?_ ?_ ?_|with_reducible refine Ord.tree_leaf ?_|with_reducible refine Ord.tree_two ?_|(refine o_ ?_;intro K hK)|(with_reducible first|refine Zyo ?_ ?_|refine Zyj ?_|refine Zyf bn_ (fun _=>?_)))
  all_goals go_meet
  all_goals exact ⟨_,rfl,rfl,b6,hB6⟩
 case rest =>exact Q38
end
end Go.Proofs.YtbapgefodmmikaaGreatDoor
namespace Go.Proofs.YtbapgefodmmikaaGreatDoor
open Go.RowKit Go.Proofs Go.Ord Tryz
theorem Zvd {c:UInt8}(h:c≠32):∀ (k:Nat) (r:Bs),Lib.splitK [32] 0 k (c :: r)=(c :: (Lib.splitK [32] 0 k r).headD []) :: (Lib.splitK [32] 0 k r).tail
 | 0,r=>rfl
 | k+1,r=>by
  have hp:([32]:List UInt8).isPrefixOf (c :: r)=false:=by simp [List.isPrefixOf,Ne.symm h]
  have hix:Lib.index (c :: r) [32]=if Lib.index r [32] == -1 then -1 else Lib.index r [32]+1:=by rw [Lib.index,hp];simp
  unfold Lib.splitK
  rw [hix]
  have hge:=Lib.index_ge r [32]
  by_cases hm:Lib.index r [32] = -1
  ·simp [hm]
  ·obtain ⟨j,hj⟩:∃ j:Nat,Lib.index r [32]=j:=⟨(Lib.index r [32]).toNat,om_⟩
   have h1:((j:Int) == -1)=false:=by rw [beq_eq_false_iff_ne];omega
   have h2:((j:Int)+1 == -1)=false:=by rw [beq_eq_false_iff_ne];omega
   rw [hj]
   simp only [h1,Bool.false_eq_true,if_false,h2]
   rw [show ((j:Int)+1).toNat=j+1 by omega,show (j:Int).toNat=j by omega]
   simp
theorem Zjg:∀ s:Bs,Lib.splitK [32] 0 (Lib.count s [32]) s=Zab s
 | []=>rfl
 | c :: r=>by
  by_cases h:c=32
  ·subst h
   have hix:Lib.index (32 :: r) [32]=0:=by rw [Lib.index];simp [List.isPrefixOf]
   rw [Lib.count_cons_eq,Nat.add_comm]
   unfold Lib.splitK
   rw [hix]
   simp only [Zab,if_true]
   rw [← Zjg r]
   simp
  ·rw [Lib.count_cons_ne c 32 r h,Zvd h,Zjg r,Zab,if_neg h]
theorem Zje (s:Bs):(Lib.splitB ⟨#[32]⟩ 0 (Lib.countB ⟨s.toArray⟩ ⟨#[32]⟩) ⟨s.toArray⟩).map Value.string=(Zab s).map strV:=by
 have h:=Lib.splitB_data ⟨#[32]⟩ 0 (Lib.countB ⟨s.toArray⟩ ⟨#[32]⟩) ⟨s.toArray⟩
 have h2:(Lib.splitB ⟨#[32]⟩ 0 (Lib.countB ⟨s.toArray⟩ ⟨#[32]⟩) ⟨s.toArray⟩).map (·.data.toList)=Zab s:=h.trans (Zjg s)
 rw [← h2,List.map_map]
 apply List.map_congr_left
 intro x _
 obtain ⟨⟨l⟩⟩:=x
 rfl
theorem Ztl (s:Bs):Lib.countB ⟨s.toArray⟩ ⟨#[32]⟩+1=(Zab s).length:=by
 have h:=congrArg List.length (Zje s)
 rw [List.length_map,List.length_map,Lib.splitB_all ⟨#[32]⟩ de_ 0 _ _ rfl] at h
 exact h
theorem Zjf:∀ s:Bs,0 < (Zab s).length
 | []=>by simp [Zab]
 | c :: r=>by rw [Zab];split <;> simp
theorem Zm2:∀ s:Bs,(Zab s).length≤s.length+1
 | []=>by simp [Zab]
 | c :: r=>by
  have h1:=Zm2 r
  have h2:=Zjf r
  rw [Zab]
  split
  ·simp;omega
  ·simp;omega
theorem Zm1:∀ (s:Bs),∀ t∈Zab s,t.length≤s.length
 | [],t,h=>by simp [Zab] at h;simp [h]
 | c :: r,t,h=>by
  have ih:=Zm1 r
  rw [Zab] at h
  split at h
  ·rcases List.mem_cons.1 h with rfl|h
   ·simp
   ·have:=ih t h;simp;omega
  ·have h2:=Zjf r
   obtain ⟨x,l,e⟩:∃ x l,Zab r=x :: l:=by
    cases hs:Zab r with
    | nil=>rw [hs] at h2;simp at h2
    | cons x l=>exact ⟨x,l,rfl⟩
   rw [e] at h ih
   simp only [List.headD_cons,List.tail_cons] at h
   rcases List.mem_cons.1 h with rfl|h
   ·have:=ih x (List.mem_cons_self ..);simp;omega
   ·have:=ih t (List.mem_cons_of_mem _ h);simp;omega
theorem s_Split (s:Bs) (hs:s.length≤1000000) (w:World) (hv:VarsOk w) :
  Calls prog 29 #[strV s,.string ⟨#[32]⟩] w (fun e w'=>e=.returned (.slice w.heap.size (Zab s).length (Zab s).length)∧w'=w.alloc (.cells ((Zab s).map strV).toArray 9)):=by
 obtain ⟨m,hm⟩:=hv.1
 refine (Tryz.strings_Split ⟨s.toArray⟩ ⟨#[32]⟩ m w (by show s.toArray.size < _;rw [List.size_toArray];omega) hm de_).mono ?_
 rintro e w' ⟨rfl,rfl⟩
 rw [Zje,Ztl]
 exact ⟨rfl,rfl⟩
theorem Zm9:∀ (ps:List Bs) (ns:List Int),Zg2 ps=some ns↔ps.length=ns.length∧∀ k,(h:k < ps.length)→numO ps[k]=ns[k]?
 | [],ns=>by
  constructor
  ·intro h;simp [Zg2] at h;subst h;simp
  ·rintro ⟨h,_⟩
   cases ns with
   | nil=>rfl
   | cons _ _=>simp at h
 | p :: r,ns=>by
  cases hp:numO p with
  | none =>
   constructor
   ·intro h;simp [Zg2,hp] at h
   ·rintro ⟨h1,h2⟩
    have:=h2 0 sp_
    cases ns with
    | nil=>simp at h1
    | cons n t=>rw [List.getElem_cons_zero,hp] at this;simp at this
  | some n =>
   cases ns with
   | nil =>
    constructor
    ·intro h
     simp only [Zg2,hp] at h
     split at h <;> simp at h
    ·rintro ⟨h,_⟩;simp at h
   | cons m t =>
    have ih:=Zm9 r t
    constructor
    ·intro h
     simp only [Zg2,hp] at h
     cases hr:Zg2 r with
     | none=>rw [hr] at h;simp at h
     | some l =>
      rw [hr] at h
      simp only [Option.some.injEq,List.cons.injEq] at h
      obtain ⟨rfl,rfl⟩:=h
      have:=ih.1 hr
      refine ⟨by simp [this.1],fun k hk=>?_⟩
      cases k with
      | zero=>simp [hp]
      | succ k=>simpa using this.2 k (by simpa using hk)
    ·rintro ⟨h1,h2⟩
     have h0:=h2 0 sp_
     rw [List.getElem_cons_zero,hp] at h0
     simp at h0
     subst h0
     have hr:=ih.2 ⟨by simpa using h1,fun k hk=>by have h3:=h2 (k+1) (by simp only [List.length_cons];omega);rw [List.getElem_cons_succ,List.getElem?_cons_succ] at h3;exact h3⟩
     simp only [Zg2,hp,hr]
theorem Zma:∀ (ps:List Bs) (k:Nat) (h:k < ps.length),numO ps[k]=none→Zg2 ps=none
 | [],k,h,_=>absurd h sp_
 | p :: r,0,h,hn=>by rw [List.getElem_cons_zero] at hn;simp only [Zg2,hn]
 | p :: r,k+1,h,hn=>by
  have:=Zma r k (by simpa using h) (by simpa using hn)
  rw [Zg2,this]
  cases numO p <;> rfl
end Go.Proofs.YtbapgefodmmikaaGreatDoor
namespace Go.Proofs.YtbapgefodmmikaaGreatDoor
open Go.RowKit Go.Proofs Go.Ord Tryz
attribute [local irreducible] Ord.walk
open Go.MapG
def askFs:List FuncId:=[153,154,155,156,157,158,159,160,161,162,163]
def WdAt (B:Nat) (w:World) (fv:Value):Wd→Prop
 | .note k f la m=>CapAt B w k f la m fv
 | .strike=>fv=.func (.func 152) #[] #[]
 | .ask k=>fv=.func (.func (askFs.getD k 0)) #[] #[]
theorem WdAt.below {B:Nat}{w w':World}{fv:Value}{wd:Wd}(h:WdAt B w fv wd) (hb:w w'):WdAt B w' fv wd:=by
 cases wd with
 | note k f la m=>exact CapAt.below h hb
 | strike=>exact h
 | ask k=>exact h
def RelW (B:Nat) (w:World):List (Bs × Int × Wd)→List (Bs × Wv)→Prop
 | [],[]=>True
 | x :: xs,y :: ys=>(x.1=y.1∧x.2.1=y.2.1∧WdAt B w y.2.2 x.2.2)∧RelW B w xs ys
 | _,_=>False
theorem Zvi {B:Nat}{w:World}{f0 f1 f2 f3 f4 f5:Value}(h:Caps B w [((5,5,5,30),f5),((4,2,4,8),f4),((3,2,4,8),f3),((2,2,4,8),f2),((1,1,1,4),f1),((0,0,0,4),f0)]):RelW B w wordsO (Zuv f0 f1 f2 f3 f4 f5):=by
 have h5:=h _ (List.mem_cons_self ..)
 have h4:=h _ (List.mem_cons_of_mem _ (List.mem_cons_self ..))
 have h3:=h _ (List.mem_cons_of_mem _ (List.mem_cons_of_mem _ (List.mem_cons_self ..)))
 have h2:=h _ (List.mem_cons_of_mem _ (List.mem_cons_of_mem _ (List.mem_cons_of_mem _ (List.mem_cons_self ..))))
 have h1:=h _ (List.mem_cons_of_mem _ (List.mem_cons_of_mem _ (List.mem_cons_of_mem _ (List.mem_cons_of_mem _ (List.mem_cons_self ..)))))
 have h0:=h _ (List.mem_cons_of_mem _ (List.mem_cons_of_mem _ (List.mem_cons_of_mem _ (List.mem_cons_of_mem _ (List.mem_cons_of_mem _ (List.mem_cons_self ..))))))
 exact ⟨⟨rfl,rfl,h0⟩,⟨rfl,rfl,h1⟩,⟨rfl,rfl,h2⟩,⟨rfl,rfl,h3⟩,⟨rfl,rfl,h4⟩,⟨rfl,rfl,h5⟩,⟨rfl,rfl,rfl⟩,⟨rfl,rfl,rfl⟩,⟨rfl,rfl,rfl⟩,⟨rfl,rfl,rfl⟩,⟨rfl,rfl,rfl⟩,⟨rfl,rfl,rfl⟩,⟨rfl,rfl,rfl⟩,⟨rfl,rfl,rfl⟩,⟨rfl,rfl,rfl⟩,⟨rfl,rfl,rfl⟩,⟨rfl,rfl,rfl⟩,⟨rfl,rfl,rfl⟩,trivial⟩
theorem WdAt.one {B:Nat}{w:World}{fv:Value}{wd:Wd}(h:WdAt B w fv wd):fv.oneCell'=true:=by
 cases wd with
 | note k f la m =>
  obtain ⟨p4,p5,p6,p7,-,h⟩:=h
  by_cases h4:k=4
  ·rw [if_pos h4] at h
   obtain ⟨p,-,rfl,-⟩:=h
   rfl
  ·rw [if_neg h4] at h
   by_cases h5:k=5
   ·rw [if_pos h5] at h
    obtain ⟨p,-,rfl,-⟩:=h
    rfl
   ·rw [if_neg h5] at h
    subst h
    rfl
 | strike=>unfold WdAt at h;subst h;rfl
 | ask k=>unfold WdAt at h;subst h;rfl
theorem Caps.mono {B B':Nat}{w:World}{cs:List ((Int × Int × Int × Int) × Value)}(h:Caps B w cs) (hb:B'≤B):Caps B' w cs:=fun c hc=>(h c hc).mono hb
def Found (B:Nat) (w:World) (n:Int) (fv:Value) (is:Bool):Option (Bs × Int × Wd)→Prop
 | none=>is=false
 | some x=>is=true∧n=x.2.1∧WdAt B w fv x.2.2
theorem blk_ty {w:World}{p:Nat}{A A':Array Value}{t t':TypeId}(h:Blk w p A t) (h':Blk w p A' t'):t=t':=by
 have e:some (Obj.cells A t (0,0))=some (Obj.cells A' t' (0,0)):=(show w.heap[p]? = some (Obj.cells A t (0,0)) from h).symm.trans h'
 simp only [Option.some.injEq,Obj.cells.injEq] at e
 exact e.2.1
theorem CapAt.move {B:Nat}{w w':World}{k f la m:Int}{fv:Value}(h:CapAt B w k f la m fv) (hm:∀ p A t,t≠114→Blk w p A t→Blk w' p A t):CapAt B w' k f la m fv:=by
 obtain ⟨p4,p5,p6,p7,hB,h⟩:=h
 refine ⟨p4,p5,p6,p7,⟨hm _ _ _ de_ hB.b4,hm _ _ _ de_ hB.b5,hm _ _ _ de_ hB.b6,hm _ _ _ de_ hB.b7⟩,?_⟩
 by_cases h4:k=4
 ·rw [if_pos h4] at h ⊢
  obtain ⟨p,hB,e,hp⟩:=h
  exact ⟨p,hB,e,hm _ _ _ de_ hp⟩
 ·rw [if_neg h4] at h ⊢
  by_cases h5:k=5
  ·rw [if_pos h5] at h ⊢
   obtain ⟨p,hB,e,hp⟩:=h
   exact ⟨p,hB,e,hm _ _ _ de_ hp⟩
  ·rw [if_neg h5] at h ⊢
   exact h
theorem WdAt.move {B:Nat}{w w':World}{fv:Value}{wd:Wd}(h:WdAt B w fv wd) (hm:∀ p A t,t≠114→Blk w p A t→Blk w' p A t):WdAt B w' fv wd:=by
 cases wd with
 | note k f la m=>exact CapAt.move h hm
 | strike=>exact h
 | ask k=>exact h
theorem Found.move {B:Nat}{w w':World}{n:Int}{fv:Value}{is:Bool}{r:Option (Bs × Int × Wd)}(h:Found B w n fv is r) (hm:∀ p A t,t≠114→Blk w p A t→Blk w' p A t):Found B w' n fv is r:=by
 cases r with
 | none=>exact h
 | some x=>exact ⟨h.1,h.2.1,h.2.2.move hm⟩
theorem Zsg {B:Nat}{w:World}(s:Bs):∀ {xs:List (Bs × Int × Wd)}{ys:List (Bs × Wv)},RelW B w xs ys→∃ n fv is,((MapG.get ys s).map vfW).getD (.agg #[(),.nilFunc])=Value.agg #[.int .i64 n,fv]∧(MapG.get ys s).isSome=is∧fv.oneCell'=true∧Found B w n fv is (xs.find? (fun x=>x.1 == s))
 | [],[],_=>⟨0,.nilFunc,false,rfl,rfl,rfl,rfl⟩
 | x :: xs,y :: ys,h=>by
  obtain ⟨⟨h1,h2,h3⟩,h4⟩:=h
  obtain ⟨k,n,wd⟩:=x
  obtain ⟨k',n',fv⟩:=y
  simp only at h1 h2 h3
  subst h1 h2
  by_cases e:k=s
  ·subst e
   have hg:MapG.get ((k,(n,fv)) :: ys) k=some (n,fv):=by simp [MapG.get]
   rw [hg,List.find?_cons,beq_self_eq_true]
   exact ⟨n,fv,true,rfl,rfl,h3.one,rfl,rfl,h3⟩
  ·have hg:MapG.get ((k,(n,fv)) :: ys) s=MapG.get ys s:=by simp [MapG.get,List.find?_cons,e]
   have e':(k == s)=false:=by simpa using e
   rw [hg,List.find?_cons,e']
   exact Zsg s h4
 | [],_ :: _,h=>h.elim
 | _ :: _,[],h=>h.elim
section
variable {w:World}{O:Nat}{b:Ov}{l:List Nt}{sa:Option Addr}{sc:Nat}{fa:Option Addr}{fc:Nat}{na:Option Addr}{nc:Nat}
def Zqd (fv:Value) (args:Array Value) (w:World) (R:Ending→World→Prop):Prop :=
 ∃ F cap,fv=.func (.func F) #[] cap∧(∀ xs W,(callFunc F xs).run prog W=.ok (.enter F xs) W)∧Calls prog F (args ++ cap) w R
theorem Zi2 {B:Nat}(h:OvOk w O b l sa sc fa fc na nc) (hO:9≤O) (hB:O < B) (k f la m:Int) (a:List Int) (ha:a.length=(Zg3 k).toNat) (hs:∀ n∈a,-9999≤n∧n≤9999) {fv:Value}(hf:CapAt B w k f la m fv) (aa:Option Addr) (ac:Nat) (hr:RowsAt w aa 1 numL a) :
  Zqd fv #[.pointer O,.slice aa a.length ac] w (DoPost O b sa sc fa fc na (doO b l a (.note k f la m)) w):=by
 obtain ⟨p4,p5,p6,p7,hBx,hf⟩:=hf
 rw [noteR_eq]
 by_cases h4:k=4
 ·subst h4
  rw [if_pos rfl] at hf
  obtain ⟨p,hp,rfl,hbp⟩:=hf
  have ha2:a.length=2:=ha
  obtain ⟨x0,x1,rfl⟩:∃ x0 x1,a=[x0,x1]:=by
   match a,ha2 with
   | [x0,x1],_=>exact ⟨x0,x1,rfl⟩
  exact ⟨_,_,rfl,fun xs W=>call233 xs W,o_made2 h hO hBx hbp om_ x0 x1 aa ac hr (hs x0 sp_)⟩
 ·rw [if_neg h4] at hf
  by_cases h5:k=5
  ·subst h5
   rw [if_pos rfl] at hf
   obtain ⟨p,hp,rfl,hbp⟩:=hf
   have ha2:a.length=2:=ha
   obtain ⟨x0,x1,rfl⟩:∃ x0 x1,a=[x0,x1]:=by
    match a,ha2 with
    | [x0,x1],_=>exact ⟨x0,x1,rfl⟩
   exact ⟨_,_,rfl,fun xs W=>call234 xs W,o_made3 h hO hBx hbp om_ x0 x1 aa ac hr (hs x1 sp_)⟩
  ·rw [if_neg h5] at hf
   subst hf
   have ha3:a.length=3:=by rw [ha];unfold Zg3;rw [if_neg h4,if_neg h5];rfl
   obtain ⟨x0,x1,x2,rfl⟩:∃ x0 x1 x2,a=[x0,x1,x2]:=by
    match a,ha3 with
    | [x0,x1,x2],_=>exact ⟨x0,x1,x2,rfl⟩
   have e:argO k [x0,x1,x2]=(k,x0,x1,x2):=by unfold argO;rw [if_neg h4,if_neg h5];rfl
   rw [e]
   exact ⟨_,_,rfl,fun xs W=>call231 xs W,Zqy h hO hBx x0 x1 x2 aa ac hr (hs x1 sp_)⟩
theorem Znm {k:Nat}{F:FuncId}(hc:∀ xs W,(callFunc F xs).run prog W=.ok (.enter F xs) W) (hF:∀ v,Calls prog F #[.pointer O,v] w (AskP (askW k) (askO b l k []) w)) (h:OvOk w O b l sa sc fa fc na nc) (a:List Int) (ha:a.length=0) {fv:Value}(hf:fv=.func (.func F) #[] #[]) (aa:Option Addr) (ac:Nat) :
  Zqd fv #[.pointer O,.slice aa a.length ac] w (DoPost O b sa sc fa fc na (doO b l a (.ask k)) w):=by
 obtain rfl:=List.eq_nil_of_length_eq_zero ha
 exact ⟨_,_,hf,hc,(hF _).mono fun e w' hp=>AskP.post h hp⟩
theorem Zgo {k:Nat}{F:FuncId}(hc:∀ xs W,(callFunc F xs).run prog W=.ok (.enter F xs) W) (hF:∀ x0 aa ac,RowsAt w aa 1 numL [x0]→Calls prog F #[.pointer O,.slice aa 1 ac] w (AskP (askW k) (askO b l k [x0]) w)) (h:OvOk w O b l sa sc fa fc na nc) (a:List Int) (ha:a.length=1) {fv:Value}(hf:fv=.func (.func F) #[] #[]) (aa:Option Addr) (ac:Nat) (hr:RowsAt w aa 1 numL a) :
  Zqd fv #[.pointer O,.slice aa a.length ac] w (DoPost O b sa sc fa fc na (doO b l a (.ask k)) w):=by
 obtain ⟨x0,rfl⟩:∃ x0,a=[x0]:=by
  match a,ha with
  | [x0],_=>exact ⟨x0,rfl⟩
 exact ⟨_,_,hf,hc,(hF _ _ _ hr).mono fun e w' hp=>AskP.post h hp⟩
theorem _root_.Q1g {p:Prop}(h:p:=by
 exact Zi2 h hO hB _ _ _ _ a (by simp only at ha;show a.length=3;omega) hs hf aa ac hr):p:=h
theorem o_do {B:Nat}(h:OvOk w O b l sa sc fa fc na nc) (hO:9≤O) (hB:O < B) (x:Bs × Int × Wd) (hx:x∈wordsO) (a:List Int) (ha:(a.length:Int)=x.2.1) (hs:∀ n∈a,-9999≤n∧n≤9999) {fv:Value}(hf:WdAt B w fv x.2.2) (aa:Option Addr) (ac:Nat) (hr:RowsAt w aa 1 numL a) :
  Zqd fv #[.pointer O,.slice aa a.length ac] w (DoPost O b sa sc fa fc na (doO b l a x.2.2) w):=by
 unfold wordsO at hx
 simp only [List.mem_cons,List.not_mem_nil,or_false] at hx
 rcases hx with rfl|rfl|rfl|rfl|rfl|rfl|rfl|rfl|rfl|rfl|rfl|rfl|rfl|rfl|rfl|rfl|rfl|rfl
 ·exact Q1g
 ·exact Q1g
 ·exact Q1g
 ·exact Q1g
 ·exact Zi2 h hO hB _ _ _ _ a (by simp only at ha;show a.length=2;omega) hs hf aa ac hr
 ·exact Zi2 h hO hB _ _ _ _ a (by simp only at ha;show a.length=2;omega) hs hf aa ac hr
 ·have h0:a.length=0:=by simp only at ha;omega
  obtain rfl:=List.eq_nil_of_length_eq_zero h0
  exact ⟨_,_,hf,fun xs W=>call152 xs W,o_strike h hO _⟩
 ·exact Znm (fun xs W=>call153 xs W) (fun v=>o_whites h v []) h a (by simp only at ha;omega) hf aa ac
 ·exact Zgo (fun xs W=>call154 xs W) (fun x0 aa ac hr=>o_white h x0 aa ac hr) h a (by simp only at ha;omega) hf aa ac hr
 ·exact Znm (fun xs W=>call155 xs W) (fun v=>o_known h v []) h a (by simp only at ha;omega) hf aa ac
 ·exact Znm (fun xs W=>call156 xs W) (fun v=>o_passed h v []) h a (by simp only at ha;omega) hf aa ac
 ·exact Zgo (fun xs W=>call157 xs W) (fun x0 aa ac hr=>o_tell h x0 aa ac hr) h a (by simp only at ha;omega) hf aa ac hr
 ·exact Zgo (fun xs W=>call158 xs W) (fun x0 aa ac hr=>o_shorn h x0 aa ac hr) h a (by simp only at ha;omega) hf aa ac hr
 ·exact Zgo (fun xs W=>call159 xs W) (fun x0 aa ac hr=>o_inside h x0 aa ac hr) h a (by simp only at ha;omega) hf aa ac hr
 ·exact Znm (fun xs W=>call160 xs W) (fun v=>Zw1 h v []) h a (by simp only at ha;omega) hf aa ac
 ·exact Zgo (fun xs W=>call161 xs W) (fun x0 aa ac hr=>o_wrong h x0 aa ac hr) h a (by simp only at ha;omega) hf aa ac hr
 ·exact Zgo (fun xs W=>call162 xs W) (fun x0 aa ac hr=>o_keeps h x0 aa ac hr) h a (by simp only at ha;omega) hf aa ac hr
 ·exact Zgo (fun xs W=>call163 xs W) (fun x0 aa ac hr=>o_more h x0 aa ac hr) h a (by simp only at ha;omega) hf aa ac hr
end
end Go.Proofs.YtbapgefodmmikaaGreatDoor
