/- Parts of a proof. -/
import Derived.Test.YtbapgefodmmikaaGreatDoorLMin
import Derived.Shelf.Strings.Builder1
import Derived.Shelf.Strings.Builder2
import Derived.Shelf.Strings.BuilderF
import Derived.Shelf.Strings.BuilderK
import Derived.Shelf.Strconv.Atoi
import Derived.Shelf.Strconv.Itoa0
import Derived.Shelf.Strconv.Itoa1
import Derived.Shelf.LaysM
import Derived.Shelf.Strconv.Itoa2
import Derived.Shelf.Strconv.Itoa3
import Derived.Shelf.Strconv.AtoiErrFast
import Derived.Shelf.Strconv.ParseIntEmpty
import Derived.Shelf.Strconv.AtoiFail
import Derived.Shelf.Strconv.Clone
import Derived.Shelf.Strconv.SyntaxError
import Derived.Shelf.LaysC
import Derived.Shelf.Strconv.ToError
import Derived.Shelf.Strconv.Lower
import Derived.Shelf.Strconv.ParseUint10
import Derived.Shelf.Strconv.ParseUint10Empty
import Derived.Shelf.Strconv.ParseUint10Any
import Derived.Shelf.Strconv.ParseInt10
import Derived.Shelf.Strconv.AtoiLong
import Derived.Shelf.Strconv.AtoiInnerAll
import Derived.Shelf.Strconv.RangeError
import Derived.Shelf.Strconv.ToErrorRange
import Derived.Shelf.Strconv.AtoiAll
import Derived.Shelf.Strconv.ErrVarAll
import Derived.Shelf.Strings.Search1
import Derived.Shelf.Strings.Search2
import Derived.Shelf.Strings.Search3
import Derived.Shelf.Strings.Cut
import Derived.Shelf.Strings.Count
import Derived.Shelf.Strings.Prefix
import Derived.Shelf.Strings.Split
import Derived.Test.YtbapgefodmmikaaGreatDoorL30
set_option linter.unusedVariables false
set_option linter.unusedSimpArgs false
set_option maxHeartbeats 40000000
set_option maxRecDepth 100000
namespace Go.Proofs
open Go.Shelf
def Tryz.lays169_ren:Go.Shelf.Ren:=⟨fun|169=>139|n=>n,fun|70=>190|9=>9|0=>0|72=>193|37=>191|127=>296|3=>3|5=>5|n=>n,fun|n=>n⟩
theorem Tryz.lays169:Go.Proofs.Lays.n169 Tryz.prog Tryz.lays169_ren:={
 mixed:=by kernel_rfl
 f169:=Tryz.func139.trans (congrArg some kr_)
 t0:=Tryz.underlying0
 a0:=Tryz.isAgg0
 z0:=Tryz.sizeOf0
 v0:=Tryz.zeroValue0
 t3:=Tryz.underlying3
 a3:=Tryz.isAgg3
 z3:=Tryz.sizeOf3
 v3:=Tryz.zeroValue3
 t9:=Tryz.underlying9
 a9:=Tryz.isAgg9
 z9:=Tryz.sizeOf9
 v9:=Tryz.zeroValue9
 t37:=Tryz.underlying191
 a37:=Tryz.isAgg191
 z37:=Tryz.sizeOf191
 v37:=Tryz.zeroValue191
 t70:=Tryz.underlying190
 a70:=Tryz.isAgg190
 z70:=Tryz.sizeOf190
 v70:=Tryz.zeroValue190
 t72:=Tryz.underlying193
 a72:=Tryz.isAgg193
 z72:=Tryz.sizeOf193
 v72:=Tryz.zeroValue193
 t127:=Tryz.underlying296
 a127:=Tryz.isAgg296
 z127:=Tryz.sizeOf296
 v127:=Tryz.zeroValue296 }
theorem Tryz.Builder_Extra_169:Builder.Extra Tryz.prog Tryz.lays169_ren:={
 sizeBuilder:=by kernel_rfl
 liesBuilder:=by kernel_rfl
 t5:=Tryz.underlying5
 a5:=Tryz.isAgg5
 z5:=Tryz.sizeOf5
 v5:=Tryz.zeroValue5
 infoByte:=by kernel_rfl
 cellsByte:=by kernel_rfl
 sizeByte:=by kernel_rfl
 neB5:=by decide }
open Go.RowKit in
theorem Tryz.Builder_String_any (B b:Nat) (l:List UInt8) (w:World) (h:Lib.IsBuilder 193 5 B b (Lib.byteCells l) w) (hBw:B≤w.heap.size) :
  Calls Tryz.prog 139 #[.pointer b] w fun e w'=>e=.returned (.string ⟨l.toArray⟩)∧Below B w w':=Any.Builder_String_any Tryz.lays169 Tryz.Builder_Extra_169 B b l w h hBw
def Tryz.laysM171_ren:Go.Shelf.Ren:=⟨fun|171=>30|243=>80|246=>188|283=>258|284=>259|285=>260|286=>261|129=>298|317=>297|318=>299|319=>300|320=>301|337=>325|338=>326|n=>n,fun|3=>3|9=>9|2=>2|4=>4|171=>339|0=>0|53=>281|37=>191|5=>5|173=>341|212=>390|51=>279|20=>20|213=>391|46=>151|232=>429|233=>430|n=>n,fun|17=>4|18=>7|19=>8|n=>n⟩
theorem Tryz.laysM171:Go.Proofs.LaysM.n171 Tryz.prog Tryz.laysM171_ren:={
 mixed:=by kernel_rfl
 f129:=Tryz.func298.trans (congrArg some kr_)
 f171:=Tryz.func30.trans (congrArg some kr_)
 f243:=Tryz.func80.trans (congrArg some kr_)
 f246:=Tryz.func188.trans (congrArg some kr_)
 f283:=Tryz.func258.trans (congrArg some kr_)
 f284:=Tryz.func259.trans (congrArg some kr_)
 f285:=Tryz.func260.trans (congrArg some kr_)
 f286:=Tryz.func261.trans (congrArg some kr_)
 f317:=Tryz.func297.trans (congrArg some kr_)
 f318:=Tryz.func299.trans (congrArg some kr_)
 f319:=Tryz.func300.trans (congrArg some kr_)
 f320:=Tryz.func301.trans (congrArg some kr_)
 f337:=Tryz.func325.trans (congrArg some kr_)
 f338:=Tryz.func326.trans (congrArg some kr_)
 t0:=Tryz.underlying0
 a0:=Tryz.isAgg0
 z0:=Tryz.sizeOf0
 v0:=Tryz.zeroValue0
 t2:=Tryz.underlying2
 a2:=Tryz.isAgg2
 z2:=Tryz.sizeOf2
 v2:=Tryz.zeroValue2
 t3:=Tryz.underlying3
 a3:=Tryz.isAgg3
 z3:=Tryz.sizeOf3
 v3:=Tryz.zeroValue3
 t4:=Tryz.underlying4
 a4:=Tryz.isAgg4
 z4:=Tryz.sizeOf4
 v4:=Tryz.zeroValue4
 t5:=Tryz.underlying5
 a5:=Tryz.isAgg5
 z5:=Tryz.sizeOf5
 v5:=Tryz.zeroValue5
 t9:=Tryz.underlying9
 a9:=Tryz.isAgg9
 z9:=Tryz.sizeOf9
 v9:=Tryz.zeroValue9
 t20:=Tryz.underlying20
 a20:=Tryz.isAgg20
 z20:=Tryz.sizeOf20
 v20:=Tryz.zeroValue20
 t37:=Tryz.underlying191
 a37:=Tryz.isAgg191
 z37:=Tryz.sizeOf191
 v37:=Tryz.zeroValue191
 t46:=Tryz.underlying151
 a46:=Tryz.isAgg151
 z46:=Tryz.sizeOf151
 v46:=Tryz.zeroValue151
 t51:=Tryz.underlying279
 a51:=Tryz.isAgg279
 z51:=Tryz.sizeOf279
 v51:=Tryz.zeroValue279
 t53:=Tryz.underlying281
 a53:=Tryz.isAgg281
 z53:=Tryz.sizeOf281
 v53:=Tryz.zeroValue281
 t171:=Tryz.underlying339
 a171:=Tryz.isAgg339
 z171:=Tryz.sizeOf339
 v171:=Tryz.zeroValue339
 t173:=Tryz.underlying341
 a173:=Tryz.isAgg341
 z173:=Tryz.sizeOf341
 v173:=Tryz.zeroValue341
 t212:=Tryz.underlying390
 a212:=Tryz.isAgg390
 z212:=Tryz.sizeOf390
 v212:=Tryz.zeroValue390
 t213:=Tryz.underlying391
 a213:=Tryz.isAgg391
 z213:=Tryz.sizeOf391
 t232:=Tryz.underlying429
 a232:=Tryz.isAgg429
 z232:=Tryz.sizeOf429
 v232:=Tryz.zeroValue429
 t233:=Tryz.underlying430
 a233:=Tryz.isAgg430
 z233:=Tryz.sizeOf430
 v233:=Tryz.zeroValue430
 g17:=by kernel_rfl
 g18:=by kernel_rfl
 g19:=by kernel_rfl
 i0:=by kernel_rfl
 i2:=by kernel_rfl
 i3:=by kernel_rfl
 i4:=by kernel_rfl
 i5:=by kernel_rfl
 i9:=by kernel_rfl
 i20:=by kernel_rfl
 i37:=by kernel_rfl
 i46:=by kernel_rfl
 i51:=by kernel_rfl
 i53:=by kernel_rfl
 i171:=by kernel_rfl
 i173:=by kernel_rfl
 i212:=by kernel_rfl
 i232:=by kernel_rfl
 i233:=by kernel_rfl
 m17:=by kernel_rfl
 m18:=by kernel_rfl
 m19:=by kernel_rfl }
open Go.RowKit Go.Sort Go.Lib in
theorem Tryz.strconv_Itoa (n : Int) (h0 : -9223372036854775808 ≤ n) (h1 : n ≤ 9223372036854775807) (w : World) (htab : Lib.TabIs Tryz.prog w "internal/strconv.uint64pow10" .u64 Lib.pow10Tab) :
  Calls Tryz.prog 30 #[n] w fun e w'=>e=.returned (.string ⟨(Lib.itoa n).toArray⟩)∧∃ k os,w'=grow (w.drewN k) os:=Any.strconv_Itoa Tryz.laysM171 n h0 h1 w htab
def Tryz.laysC172_ren:Go.Shelf.Ren:=⟨fun|172=>149|244=>229|245=>230|247=>279|279=>280|280=>281|281=>282|282=>283|287=>313|316=>314|171=>30|205=>315|321=>329|322=>330|243=>80|246=>188|283=>258|284=>259|285=>260|286=>261|129=>298|317=>297|318=>299|319=>300|320=>301|337=>325|338=>326|n=>n,fun|9=>9|3=>3|75=>196|76=>197|4=>4|5=>5|167=>371|37=>191|0=>0|85=>372|2=>2|168=>374|53=>281|175=>403|46=>151|210=>406|127=>296|145=>426|143=>424|21=>21|171=>339|173=>341|212=>390|51=>279|20=>20|213=>391|232=>429|233=>430|80=>200|n=>n,fun|15=>5|16=>6|17=>4|18=>7|19=>8|n=>n⟩
theorem Tryz.laysC172:Go.Proofs.LaysC.n172 Tryz.prog Tryz.laysC172_ren:={
 mixed:=by kernel_rfl
 f129:=Tryz.func298.trans (congrArg some kr_)
 f171:=Tryz.func30.trans (congrArg some kr_)
 f172:=Tryz.func149.trans (congrArg some kr_)
 f205:=Tryz.func315.trans (congrArg some kr_)
 f243:=Tryz.func80.trans (congrArg some kr_)
 f244:=Tryz.func229.trans (congrArg some kr_)
 f245:=Tryz.func230.trans (congrArg some kr_)
 f246:=Tryz.func188.trans (congrArg some kr_)
 f247:=Tryz.func279.trans (congrArg some kr_)
 f279:=Tryz.func280.trans (congrArg some kr_)
 f280:=Tryz.func281.trans (congrArg some kr_)
 f281:=Tryz.func282.trans (congrArg some kr_)
 f282:=Tryz.func283.trans (congrArg some kr_)
 f283:=Tryz.func258.trans (congrArg some kr_)
 f284:=Tryz.func259.trans (congrArg some kr_)
 f285:=Tryz.func260.trans (congrArg some kr_)
 f286:=Tryz.func261.trans (congrArg some kr_)
 f287:=Tryz.func313.trans (congrArg some kr_)
 f316:=Tryz.func314.trans (congrArg some kr_)
 f317:=Tryz.func297.trans (congrArg some kr_)
 f318:=Tryz.func299.trans (congrArg some kr_)
 f319:=Tryz.func300.trans (congrArg some kr_)
 f320:=Tryz.func301.trans (congrArg some kr_)
 f321:=Tryz.func329.trans (congrArg some kr_)
 f322:=Tryz.func330.trans (congrArg some kr_)
 f337:=Tryz.func325.trans (congrArg some kr_)
 f338:=Tryz.func326.trans (congrArg some kr_)
 t0:=Tryz.underlying0
 a0:=Tryz.isAgg0
 z0:=Tryz.sizeOf0
 v0:=Tryz.zeroValue0
 t2:=Tryz.underlying2
 a2:=Tryz.isAgg2
 z2:=Tryz.sizeOf2
 v2:=Tryz.zeroValue2
 t3:=Tryz.underlying3
 a3:=Tryz.isAgg3
 z3:=Tryz.sizeOf3
 v3:=Tryz.zeroValue3
 t4:=Tryz.underlying4
 a4:=Tryz.isAgg4
 z4:=Tryz.sizeOf4
 v4:=Tryz.zeroValue4
 t5:=Tryz.underlying5
 a5:=Tryz.isAgg5
 z5:=Tryz.sizeOf5
 v5:=Tryz.zeroValue5
 t9:=Tryz.underlying9
 a9:=Tryz.isAgg9
 z9:=Tryz.sizeOf9
 v9:=Tryz.zeroValue9
 t20:=Tryz.underlying20
 a20:=Tryz.isAgg20
 z20:=Tryz.sizeOf20
 v20:=Tryz.zeroValue20
 t21:=Tryz.underlying21
 a21:=Tryz.isAgg21
 z21:=Tryz.sizeOf21
 v21:=Tryz.zeroValue21
 t37:=Tryz.underlying191
 a37:=Tryz.isAgg191
 z37:=Tryz.sizeOf191
 v37:=Tryz.zeroValue191
 t46:=Tryz.underlying151
 a46:=Tryz.isAgg151
 z46:=Tryz.sizeOf151
 v46:=Tryz.zeroValue151
 t51:=Tryz.underlying279
 a51:=Tryz.isAgg279
 z51:=Tryz.sizeOf279
 v51:=Tryz.zeroValue279
 t53:=Tryz.underlying281
 a53:=Tryz.isAgg281
 z53:=Tryz.sizeOf281
 v53:=Tryz.zeroValue281
 t75:=Tryz.underlying196
 a75:=Tryz.isAgg196
 z75:=Tryz.sizeOf196
 v75:=Tryz.zeroValue196
 t76:=Tryz.underlying197
 a76:=Tryz.isAgg197
 z76:=Tryz.sizeOf197
 v76:=Tryz.zeroValue197
 t85:=Tryz.underlying372
 a85:=Tryz.isAgg372
 z85:=Tryz.sizeOf372
 v85:=Tryz.zeroValue372
 t127:=Tryz.underlying296
 a127:=Tryz.isAgg296
 z127:=Tryz.sizeOf296
 v127:=Tryz.zeroValue296
 t143:=Tryz.underlying424
 a143:=Tryz.isAgg424
 z143:=Tryz.sizeOf424
 v143:=Tryz.zeroValue424
 t145:=Tryz.underlying426
 a145:=Tryz.isAgg426
 z145:=Tryz.sizeOf426
 v145:=Tryz.zeroValue426
 t167:=Tryz.underlying371
 a167:=Tryz.isAgg371
 z167:=Tryz.sizeOf371
 v167:=Tryz.zeroValue371
 t168:=Tryz.underlying374
 a168:=Tryz.isAgg374
 z168:=Tryz.sizeOf374
 v168:=Tryz.zeroValue374
 t171:=Tryz.underlying339
 a171:=Tryz.isAgg339
 z171:=Tryz.sizeOf339
 v171:=Tryz.zeroValue339
 t173:=Tryz.underlying341
 a173:=Tryz.isAgg341
 z173:=Tryz.sizeOf341
 v173:=Tryz.zeroValue341
 t175:=Tryz.underlying403
 a175:=Tryz.isAgg403
 z175:=Tryz.sizeOf403
 v175:=Tryz.zeroValue403
 t210:=Tryz.underlying406
 a210:=Tryz.isAgg406
 z210:=Tryz.sizeOf406
 v210:=Tryz.zeroValue406
 t212:=Tryz.underlying390
 a212:=Tryz.isAgg390
 z212:=Tryz.sizeOf390
 v212:=Tryz.zeroValue390
 t213:=Tryz.underlying391
 a213:=Tryz.isAgg391
 z213:=Tryz.sizeOf391
 t232:=Tryz.underlying429
 a232:=Tryz.isAgg429
 z232:=Tryz.sizeOf429
 v232:=Tryz.zeroValue429
 t233:=Tryz.underlying430
 a233:=Tryz.isAgg430
 z233:=Tryz.sizeOf430
 v233:=Tryz.zeroValue430
 g15:=by kernel_rfl
 g16:=by kernel_rfl
 g17:=by kernel_rfl
 g18:=by kernel_rfl
 g19:=by kernel_rfl
 t80:=Tryz.underlying200
 a80:=Tryz.isAgg200
 z80:=Tryz.sizeOf200
 v80:=Tryz.zeroValue200
 i0:=by kernel_rfl
 i2:=by kernel_rfl
 i3:=by kernel_rfl
 i4:=by kernel_rfl
 i5:=by kernel_rfl
 i9:=by kernel_rfl
 i20:=by kernel_rfl
 i21:=by kernel_rfl
 i37:=by kernel_rfl
 i46:=by kernel_rfl
 i51:=by kernel_rfl
 i53:=by kernel_rfl
 i75:=by kernel_rfl
 i76:=by kernel_rfl
 i80:=by kernel_rfl
 i85:=by kernel_rfl
 i127:=by kernel_rfl
 i143:=by kernel_rfl
 i145:=by kernel_rfl
 i167:=by kernel_rfl
 i168:=by kernel_rfl
 i171:=by kernel_rfl
 i173:=by kernel_rfl
 i175:=by kernel_rfl
 i210:=by kernel_rfl
 i212:=by kernel_rfl
 i232:=by kernel_rfl
 i233:=by kernel_rfl
 m15:=by kernel_rfl
 m16:=by kernel_rfl
 m17:=by kernel_rfl
 m18:=by kernel_rfl
 m19:=by kernel_rfl
 c0:=by kernel_rfl
 c2:=by kernel_rfl
 c3:=by kernel_rfl
 c4:=by kernel_rfl
 c5:=by kernel_rfl
 c9:=by kernel_rfl
 c20:=by kernel_rfl
 c21:=by kernel_rfl
 c37:=by kernel_rfl
 c46:=by kernel_rfl
 c51:=by kernel_rfl
 c53:=by kernel_rfl
 c75:=by kernel_rfl
 c76:=by kernel_rfl
 c80:=by kernel_rfl
 c85:=by kernel_rfl
 c127:=by kernel_rfl
 c143:=by kernel_rfl
 c145:=by kernel_rfl
 c167:=by kernel_rfl
 c168:=by kernel_rfl
 c171:=by kernel_rfl
 c173:=by kernel_rfl
 c175:=by kernel_rfl
 c210:=by kernel_rfl
 c212:=by kernel_rfl
 c213:=by kernel_rfl
 c232:=by kernel_rfl
 c233:=by kernel_rfl }
open Go.RowKit in
theorem Tryz.strconv_Atoi_ok (s:ByteArray) (hmax:s.size≤9223372036854775806) (v:Int) (h:Lib.atoiAll s.data.toList=.ok v) (w:World) :
  Calls Tryz.prog 149 #[.string s] w fun e w'=>e=.returned (.tuple #[v,.nilIface])∧(w'=w∨∃ t,w'=Lib.bytesWorld w 5 t):=Any.strconv_Atoi_ok Tryz.laysC172 s hmax v h w
open Go.RowKit in
theorem Tryz.strconv_Atoi_syntax (s:ByteArray) (hlim:s.size≤281474976710656) (h:Lib.atoiAll s.data.toList=Lib.NumEnd.syntax) (ev:Value) (w:World) (hv:w.cell? ⟨5,0,none⟩=some ev) (hev:ev=.nilIface∨∃ te pe,ev=.iface te pe) :
  Calls Tryz.prog 149 #[.string s] w fun e w'=>∃ N,e=.returned (.tuple #[.int .i64 (0),.iface 374 (.pointer (some ⟨N,0,none⟩))])∧w.heap.size≤N∧w'.heap[N]? = some (.cells #[.string ⟨#[65,116,111,105]⟩,.string s,ev] 406 (0,0))∧Below w.heap.size w w':=Any.strconv_Atoi_syntax Tryz.laysC172 s hlim h ev w hv hev
open Go.RowKit in
theorem Tryz.strconv_Atoi_range (s:ByteArray) (hlim:s.size≤281474976710656) (h:Lib.atoiAll s.data.toList=.range) (ev:Value) (w:World) (hv:w.cell? ⟨6,0,none⟩=some ev) (hev:ev=.nilIface∨∃ te pe,ev=.iface te pe) :
  Calls Tryz.prog 149 #[.string s] w fun e w'=>∃ N,e=.returned (.tuple #[(Lib.atoiSat s.data.toList),.iface 374 (.pointer (some ⟨N,0,none⟩))])∧w.heap.size≤N∧w'.heap[N]? = some (.cells #[.string ⟨#[65,116,111,105]⟩,.string s,ev] 406 (0,0))∧Below w.heap.size w w':=Any.strconv_Atoi_range Tryz.laysC172 s hlim h ev w hv hev
def Tryz.lays99_ren:Go.Shelf.Ren:=⟨fun|99=>43|206=>132|n=>n,fun|9=>9|4=>4|3=>3|n=>n,fun|n=>n⟩
theorem Tryz.lays99:Go.Proofs.Lays.n99 Tryz.prog Tryz.lays99_ren:={
 mixed:=by kernel_rfl
 f99:=Tryz.func43.trans (congrArg some kr_)
 f206:=Tryz.func132.trans (congrArg some kr_)
 t3:=Tryz.underlying3
 a3:=Tryz.isAgg3
 z3:=Tryz.sizeOf3
 v3:=Tryz.zeroValue3
 t4:=Tryz.underlying4
 a4:=Tryz.isAgg4
 z4:=Tryz.sizeOf4
 v4:=Tryz.zeroValue4
 t9:=Tryz.underlying9
 a9:=Tryz.isAgg9
 z9:=Tryz.sizeOf9
 v9:=Tryz.zeroValue9 }
open Go.RowKit Go.Lib in
theorem Tryz.strings_HasPrefix (s p:ByteArray) (w:World) :
  Calls Tryz.prog 43 #[.string s,.string p] w fun e w'=>e=.returned (.bool (Lib.hasPrefix s.data.toList p.data.toList))∧w'=w:=Any.strings_HasPrefix Tryz.lays99 s p w
def Tryz.lays101_ren:Go.Shelf.Ren:=⟨fun|101=>164|208=>240|206=>132|n=>n,fun|9=>9|4=>4|3=>3|n=>n,fun|n=>n⟩
theorem Tryz.lays101:Go.Proofs.Lays.n101 Tryz.prog Tryz.lays101_ren:={
 mixed:=by kernel_rfl
 f101:=Tryz.func164.trans (congrArg some kr_)
 f206:=Tryz.func132.trans (congrArg some kr_)
 f208:=Tryz.func240.trans (congrArg some kr_)
 t3:=Tryz.underlying3
 a3:=Tryz.isAgg3
 z3:=Tryz.sizeOf3
 v3:=Tryz.zeroValue3
 t4:=Tryz.underlying4
 a4:=Tryz.isAgg4
 z4:=Tryz.sizeOf4
 v4:=Tryz.zeroValue4
 t9:=Tryz.underlying9
 a9:=Tryz.isAgg9
 z9:=Tryz.sizeOf9
 v9:=Tryz.zeroValue9 }
open Go.RowKit Go.Lib in
theorem Tryz.strings_TrimPrefix (s p:ByteArray) (w:World) :
  Calls Tryz.prog 164 #[.string s,.string p] w fun e w'=>e=.returned (.string ⟨(Lib.trimPrefix s.data.toList p.data.toList).toArray⟩)∧w'=w:=Any.strings_TrimPrefix Tryz.lays101 s p w
def Tryz.lays146_ren:Go.Shelf.Ren:=⟨fun|146=>29|221=>79|268=>187|138=>142|143=>143|195=>224|197=>144|218=>225|219=>216|260=>226|217=>271|225=>272|224=>273|267=>274|266=>308|314=>309|n=>n,fun|9=>9|31=>28|3=>3|4=>4|0=>0|105=>203|21=>21|5=>5|46=>151|119=>367|139=>370|138=>369|146=>294|51=>279|n=>n,fun|1=>0|3=>2|4=>3|n=>n⟩
theorem Tryz.lays146:Go.Proofs.Lays.n146 Tryz.prog Tryz.lays146_ren:={
 mixed:=by kernel_rfl
 f138:=Tryz.func142.trans (congrArg some kr_)
 f143:=Tryz.func143.trans (congrArg some kr_)
 f146:=Tryz.func29.trans (congrArg some kr_)
 f195:=Tryz.func224.trans (congrArg some kr_)
 f197:=Tryz.func144.trans (congrArg some kr_)
 f217:=Tryz.func271.trans (congrArg some kr_)
 f218:=Tryz.func225.trans (congrArg some kr_)
 f219:=Tryz.func216.trans (congrArg some kr_)
 f221:=Tryz.func79.trans (congrArg some kr_)
 f224:=Tryz.func273.trans (congrArg some kr_)
 f225:=Tryz.func272.trans (congrArg some kr_)
 f260:=Tryz.func226.trans (congrArg some kr_)
 f266:=Tryz.func308.trans (congrArg some kr_)
 f267:=Tryz.func274.trans (congrArg some kr_)
 f268:=Tryz.func187.trans (congrArg some kr_)
 f314:=Tryz.func309.trans (congrArg some kr_)
 t0:=Tryz.underlying0
 a0:=Tryz.isAgg0
 z0:=Tryz.sizeOf0
 v0:=Tryz.zeroValue0
 t3:=Tryz.underlying3
 a3:=Tryz.isAgg3
 z3:=Tryz.sizeOf3
 v3:=Tryz.zeroValue3
 t4:=Tryz.underlying4
 a4:=Tryz.isAgg4
 z4:=Tryz.sizeOf4
 v4:=Tryz.zeroValue4
 t5:=Tryz.underlying5
 a5:=Tryz.isAgg5
 z5:=Tryz.sizeOf5
 v5:=Tryz.zeroValue5
 t9:=Tryz.underlying9
 a9:=Tryz.isAgg9
 z9:=Tryz.sizeOf9
 v9:=Tryz.zeroValue9
 t21:=Tryz.underlying21
 a21:=Tryz.isAgg21
 z21:=Tryz.sizeOf21
 v21:=Tryz.zeroValue21
 t31:=Tryz.underlying28
 a31:=Tryz.isAgg28
 z31:=Tryz.sizeOf28
 v31:=Tryz.zeroValue28
 t46:=Tryz.underlying151
 a46:=Tryz.isAgg151
 z46:=Tryz.sizeOf151
 v46:=Tryz.zeroValue151
 t51:=Tryz.underlying279
 a51:=Tryz.isAgg279
 z51:=Tryz.sizeOf279
 v51:=Tryz.zeroValue279
 t105:=Tryz.underlying203
 a105:=Tryz.isAgg203
 z105:=Tryz.sizeOf203
 v105:=Tryz.zeroValue203
 t119:=Tryz.underlying367
 a119:=Tryz.isAgg367
 z119:=Tryz.sizeOf367
 t138:=Tryz.underlying369
 a138:=Tryz.isAgg369
 z138:=Tryz.sizeOf369
 v138:=Tryz.zeroValue369
 t139:=Tryz.underlying370
 a139:=Tryz.isAgg370
 z139:=Tryz.sizeOf370
 v139:=Tryz.zeroValue370
 t146:=Tryz.underlying294
 a146:=Tryz.isAgg294
 z146:=Tryz.sizeOf294
 v146:=Tryz.zeroValue294
 g1:=by kernel_rfl
 g3:=by kernel_rfl
 g4:=by kernel_rfl }
open Go.RowKit Go.Lib in
theorem Tryz.strings_Split (s sep:ByteArray) (m:Int) (w:World) (hs:s.size < 4294967281) (hm:w.cell? ⟨0,0,none⟩=some (.int .i64 m)) (h1:1≤sep.size) :
  Calls Tryz.prog 29 #[.string s,.string sep] w fun e w' =>
   e=.returned (.slice w.heap.size (Lib.countB s sep+1) (Lib.countB s sep+1))∧w'=w.alloc (.cells ((Lib.splitB sep 0 (Lib.countB s sep) s).map Value.string).toArray 9):=Any.strings_Split Tryz.lays146 kr_ s sep m w hs hm h1
end Go.Proofs
namespace Go.Proofs.YtbapgefodmmikaaGreatDoor
open Go.RowKit Go.Proofs Go.Ord
attribute [local irreducible] Ord.walk
theorem Zij:(Tryz.prog.info? 193).map (·.size)=some 2:=by kernel_rfl
theorem Zp6:liesAt Tryz.prog Tryz.prog.depth 193 (2 / Tryz.prog.cellsOf 193) 0 193 1=true:=by kernel_rfl
theorem Zwn:(Tryz.prog.info? 5).map (fun i=>(i.zero,i.size,i.bytes))=some (some (.int .u8 0),1,1):=by kernel_rfl
theorem Zit (b:Nat) (w:World) (h0:w.cell? ⟨b,0,none⟩=some (.pointer b)) :
  Calls Tryz.prog 218 #[.pointer b] w fun e w'=>e=.returned (.tuple #[])∧w'=w:=by
 obtain ⟨j,hj,_⟩:=Option.map_eq_some_iff.1 Zij
 go_enter Tryz.func218,Tryz.ntmps218
 go_wp2
 rw [Lib.run_neq_ptr_same w _ Tryz.underlying190 hj]
 go_wp2
 go_end0
 exact ⟨rfl,rfl⟩
theorem Zho (b:Nat) (w:World) (h0:w.cell? ⟨b,0,none⟩=some (.pointer none)) (hsh:w.shape? b=some (193,2)) (hfz:w.frozen? ⟨b,0,none⟩=false) :
  Calls Tryz.prog 218 #[.pointer b] w fun e w'=>e=.returned (.tuple #[])∧w'=w.setCell ⟨b,0,none⟩ (.pointer b):=by
 obtain ⟨j,hj,hjs⟩:=Option.map_eq_some_iff.1 Zij
 go_enter Tryz.func218,Tryz.ntmps218
 go_wp2
 rw [Lib.run_to_unsafe w ⟨b,0,none⟩ Tryz.underlying190 Tryz.underlying360 hj (by rw [hjs];decide) hsh (Nat.zero_lt_succ 1)]
 simp only [Result.andThen]
 rw [Oper.upon_value]
 go_wp2
 rw [run_callFunc_extern Tryz.func275 kr_ kr_ kr_ (e:=Extern.AbiNoEscape.same) kr_]
 rw [Lib.run_noEscape]
 simp only [Result.andThen]
 rw [Oper.upon_value]
 go_wp2
 rw [Lib.run_from_unsafe w ⟨b,0,none⟩ Tryz.underlying360 Tryz.underlying190 hj hsh Zp6]
 simp only [Result.andThen]
 rw [Oper.upon_value]
 go_wp2
 go_end0
 exact ⟨rfl,rfl⟩
theorem Zqp (B b:Nat) (bs:List Value) (w:World) (h:Lib.IsBuilder 193 5 B b bs w) :
  Calls Tryz.prog 218 #[.pointer b] w fun e w'=>e=.returned (.tuple #[])∧(Lib.BuilderAt 193 5 B b (.pointer b) bs w'∧Below B w w'):=by
 rcases h with h|h
 ·refine (Zho b w h.cell0 h.shape h.frozen0).mono ?_
  rintro e w' ⟨rfl,rfl⟩
  exact ⟨rfl,h.used _,(Below.refl B w).setCell (p:=⟨b,0,none⟩) h.1 _⟩
 ·refine (Zit b w h.cell0).mono ?_
  rintro e w' ⟨rfl,rfl⟩
  exact ⟨rfl,h,Below.refl B _⟩
theorem Zmy (B b:Nat) (bs:List Value) (s:ByteArray) (w:World) (h:Lib.IsBuilder 193 5 B b bs w) (hlen:bs.length+s.size≤140737488355328) (hBw:B≤w.heap.size) :
  Calls Tryz.prog 137 #[.pointer b,.string s] w fun e w'=>e=.returned (.tuple #[s.size,.nilIface])∧(Lib.BuilderAt 193 5 B b (.pointer b) (bs ++ Lib.strCells s) w'∧Below B w w'):=by
 obtain ⟨i0,hi,hz0,hz1,hz2⟩:=Zbp Zwn
 go_enter Tryz.func137,Tryz.ntmps137
 go_wp2_with (first
  | (go_at_call 218;refine (Zqp B b bs _ h).mono ?_;rintro e w1 ⟨rfl,h1,hb1⟩;refine Za2 ?_))
 unfold Stop
 obtain ⟨hB,v,hbk,hown,hne⟩:=h1
 have c0:w1.cell? ⟨b,0,none⟩=some (.pointer b):=by rw [Lib.cell_of_heap hbk];rfl
 have c1:w1.cell? ⟨b,1,none⟩=some v:=by rw [Lib.cell_of_heap hbk];rfl
 go_wp2_with (at_builtin;refine Lib.wpList_append_own_string _ rfl _ _ 191 9 rfl B 5 i0 Tryz.underlying191 Tryz.underlying9 hi hz0 hz1 hz2 _ _ _ rfl hown s rfl ?c3 ?c4 ?c5 ?_)
 case c3=>unfold maxLen;omega
 case c4=>omega
 case c5=>have:=hb1.size;omega
 intro v' w2 hown' hgrow _
 have hlt:b < w1.heap.size:=by
  rcases Nat.lt_or_ge b w1.heap.size with h'|h'
  ·exact h'
  ·simp [Array.getElem?_eq_none h'] at hbk
 have hb2:w2.heap[b]? = some (.cells #[.pointer b,v] 193 (0,0)):=by
  rw [hgrow.block b hlt (fun e=>hne e.symm)]
  exact hbk
 have d0:w2.cell? ⟨b,0,none⟩=some (.pointer b):=by rw [Lib.cell_of_heap hb2];rfl
 have d1:w2.cell? ⟨b,1,none⟩=some v:=by rw [Lib.cell_of_heap hb2];rfl
 have f1:w2.frozen? ⟨b,1,none⟩=false:=Lib.frozen_of_heap hb2 1
 obtain ⟨ao,cap,rfl⟩:=Zb9 hown'
 go_wp2
 go_ret2
 refine ⟨rfl,?_,?_⟩
 ·exact Lib.BuilderAt.put (T:=193) (e:=5) hB hb2 (bs':=bs ++ Lib.strCells s) (by simpa [Lib.strCells_length] using hown') de_
 ·exact (hb1.grown hgrow (by have:=hb1.size;omega) (fun k hk=>(hown.lt k hk).1)).setCell (p:=⟨b,1,none⟩) hB _
end Go.Proofs.YtbapgefodmmikaaGreatDoor
namespace Go.Proofs.YtbapgefodmmikaaGreatDoor
open Go.RowKit Go.Proofs Go.Ord
attribute [local irreducible] Ord.walk
attribute [local go_sem] Oper.semAt_some
theorem Zuh (w:World) (q:Nat) (os:Array Obj):w (Go.Sort.grow (w.drewN q) os) :=
 ⟨rfl,rfl,rfl,by first|(simp [Go.Sort.grow];done)|(simp [Go.Sort.grow];omega),fun i hi=>by
  show ((w.drewN q).heap ++ os)[i]? = _
  rw [Array.getElem?_append_left (by show i < w.heap.size;omega)]
  rfl⟩
def strV (l:Bs):Value:=.string ⟨l.toArray⟩
def I64 (n:Int):Prop:=-9223372036854775808≤n∧n≤9223372036854775807
abbrev It:=Int × Option Int
def itV:It→Value
 | (n,none)=>.iface 3 ↑n
 | (lo,some hi)=>.iface 23 (.agg #[lo,hi])
def itL (x:It):List Value:=[itV x]
def itN:It→List Int
 | (n,none)=>[n]
 | (lo,some hi)=>[lo,hi]
def numT (n:Int):Bs:=32 :: Zct n
def itT (x:It):Bs:=(itN x).flatMap numT
theorem Zow (word:Bs) (l:List Int):Zam word l=word ++ l.flatMap numT:=rfl
theorem Znn:∀ f u,(digF f u).length≤f
 | 0,_=>by simp [digF]
 | f+1,u=>by
  rw [digF]
  split
  ·simp
  ·have:=Znn f (u / 10)
   simp;omega
theorem Zh7 (n:Int):(Zct n).length≤21:=by
 unfold Zct
 split
 ·have:=Znn 20 n.natAbs;simp;omega
 ·have:=Znn 20 n.toNat;omega
theorem Zh1 (n:Int):(numT n).length≤22:=by
 have:=Zh7 n
 simp [numT];omega
theorem Zwh (x:It):(itT x).length≤44:=by
 obtain ⟨a,_|b⟩:=x
 ·have:=Zh1 a
  simp [itT,itN];omega
 ·have h1:=Zh1 a
  have h2:=Zh1 b
  simp [itT,itN];omega
theorem Zww (l:List It):(l.flatMap itT).length≤44 * l.length:=by
 induction l with
 | nil=>simp
 | cons x l ih =>
  have:=Zwh x
  simp only [List.flatMap_cons,List.length_append,List.length_cons]
  omega
theorem Zsm (n:Int) (hn:I64 n) (w:World) (hv:VarsOk w) :
  Calls Tryz.prog 30 #[n] w (Zak (strV (Zct n)) w):=by
 refine (Tryz.strconv_Itoa n hn.1 hn.2 w hv.2.1).mono ?_
 rintro e w' ⟨rfl,k,os,rfl⟩
 rw [itoaP_eq n hn]
 exact ⟨rfl,Zuh _ _ _⟩
theorem Zt2 (a b:Bs):(⟨a.toArray⟩ ++ ⟨b.toArray⟩:ByteArray)=⟨(a ++ b).toArray⟩:=by
 apply ByteArray.ext
 rw [ByteArray.data_append]
 simp
theorem Zpy {T e:TypeId}{B b:Nat}{p:Value}{bs:List Value}{w w':World}(h:Lib.BuilderAt T e B b p bs w) (hb:w w'):Lib.BuilderAt T e B b p bs w':=by
 have hlt:=h.lt
 obtain ⟨h1,v,h2,h3,h4⟩:=h
 exact ⟨h1,v,(hb.block _ hlt).trans h2,Zbn h3 nl_ (fun g hg=>hb.block g (Zad h3 hg).2),h4⟩
theorem _root_.Q2y {p:Prop}(h:p:=by
 go_wp2_with fail
 exact ⟨⟨k+1,om_,by go_num,hb5,by rw [HX1.out];exact hbd5⟩,by simp [intOf];omega⟩):p:=h
theorem Zsl (word:Bs) (l:List It) (a:Option Addr) (c:Nat) (w:World) (hv:VarsOk w) (hr:RowsAt w a 1 itL l) (hw:word.length≤1000000) (hl:l.length≤1000) (hb:∀ x∈l,∀ n∈itN x,I64 n)
  (HS:∀ W lo hi a' c',VarsOk W→(lo,some hi)∈l→RowsAt W a' 1 itL [((lo,none):It),(hi,none)]→Calls Tryz.prog 235 #[.string ⟨#[]⟩,.slice a' 2 c'] W (Zak (strV (itT (lo,some hi))) W)) :
  Calls Tryz.prog 235 #[strV word,.slice a l.length c] w (Zak (strV (word ++ l.flatMap itT)) w):=by
 have HW:=hd_ (fun B b bs s W h1 h2 h3=>Zmy B b bs s W h1 h2 h3)
 have HStr:=hd_ (fun B b t W h1 h2=>Tryz.Builder_String_any B b t W h1 h2)
 have HI:=hd_ (fun n (hn:I64 n) W (hb:Below w.heap.size w W)=>Zsm n hn W (hv.below hb hv.2.2.2.2))
 have HR:=hd_ (fun W (hb:Below w.heap.size w W)=>hr.below hb)
 have HV:=hd_ (fun W (hb:Below w.heap.size w W)=>hv.below hb hv.2.2.2.2)
 have HRec:=hd_ HS
 have HLen:=hd_ (fun k=>Zww (l.take k))
 have HB:=hd_ hb
 clear hr hv HS hb
 have hli:(l.length:Int)≤1000:=by omega
 have hBld:Lib.IsBuilder 193 5 w.heap.size w.heap.size [] (w.alloc (.cells #[.pointer none,.slice none 0 0] 193)):=Lib.fresh_isBuilder _ _ _
 have hB0:Below w.heap.size w (w.alloc (.cells #[.pointer none,.slice none 0 0] 193)):=by exact bel_
 unfold strV at *
 go_enter Tryz.func235,Tryz.ntmps235
 go_wp2_with (first
  | (go_at_call 137;refine (HW.out w.heap.size w.heap.size [] _ _ hBld (by simp [ByteArray.size];omega) sp_).mono ?_;rintro e w2 ⟨rfl,hbd2,hb2⟩;refine Za2 ?_))
 unfold Stop
 have hbd20:Lib.BuilderAt 193 5 w.heap.size w.heap.size (.pointer (some ⟨w.heap.size,0,none⟩)) (Lib.byteCells (word ++ (l.take 0).flatMap itT)) w2:=by
  have:=hbd2
  rw [List.nil_append,Lib.strCells_eq] at this
  simpa using this
 have hB2:Below w.heap.size w w2:=hB0.trans hb2
 clear hbd2 hb2 hB0 hBld
 generalize hN:w.heap.size=N at *
 have HN:=hd_ hN
 clear hN
 go_wp2_with fail
 go_loopw [7,8,9,14,15,16,17,18,19,20,21,22,23,24,25,26,27,28,29,30,31,32,33,34,35,36,37,38] (fun x7 x8 x9 x14 x15 x16 x17 x18 x19 x20 x21 x22 x23 x24 x25 x26 x27 x28 x29 x30 x31 x32 x33 x34 x35 x36 x37 x38 wr=>∃ k:Nat,k≤l.length∧x14=.int .i64 (k:Int)∧Below N w wr∧Lib.BuilderAt 193 5 N N (.pointer N) (Lib.byteCells (word ++ (l.take k).flatMap itT)) wr) (fun _ _ _ x14 _ _ _ _ _ _ _ _ _ _ _ _ _ _ _ _ _ _ _ _ _ _ _ _ _=>l.length - (intOf x14).toNat)
 case atStart=>exact ⟨0,om_,rfl,hB2,hbd20⟩
 case round =>
  obtain ⟨k,hk,rfl,hbr,hbd⟩:=hrel
  have hNr:=hbd.lt
  by_cases hlt:k < l.length
  ·have hlti:(k:Int) < (l.length:Int):=by omega
   obtain ⟨gb,go,rfl,hq⟩:=HR.out wr hbr k hlt
   have q0:=hq 0 _ rfl
   rw [Nat.add_zero,Nat.mul_one] at q0
   have lg:=bl_ wr _ q0
   have HTK:Hid (word ++ (l.take (k+1)).flatMap itT=(word ++ (l.take k).flatMap itT) ++ itT l[k]):=by
    show _=_
    rw [List.take_succ_eq_append_getElem hlt,List.flatMap_append]
    simp
   have hTl:(word ++ (l.take k).flatMap itT).length≤1000000+44000:=by
    have:=HLen.out k
    rw [List.length_take] at this
    simp only [List.length_append]
    omega
   have hmem:l[k]∈l:=List.getElem_mem hlt
   have HBk:=hd_ (HB.out _ hmem)
   have HRk:=hd_ (fun W lo hi a' c' h1 (h2:(lo,some hi)=l[k]) h3=>HRec.out W lo hi a' c' h1 (h2 ▸ hmem) h3)
   clear hq hmem
   generalize word ++ (l.take k).flatMap itT=txt at *
   obtain ⟨txt1,htxt1⟩:∃ t,word ++ (l.take (k+1)).flatMap itT=t:=⟨_,rfl⟩
   have HX1:=hd_ htxt1
   rw [htxt1] at HTK
   clear htxt1
   generalize l[k]=x at *
   obtain ⟨n,_|hi⟩:=x
   ·have hn:I64 n:=HBk.out n (by simp [itN])
    have hIl:=Zh7 n
    have hcat:(⟨#[32]⟩ ++ ⟨(Zct n).toArray⟩:ByteArray)=⟨(numT n).toArray⟩:=Zt2 [32] (Zct n)
    have HCat:=hd_ hcat
    clear hcat
    unfold itV at q0
    simp only at q0
    have ta1:∀ w,(Instr.typeAssert (.iface 3 (.int .i64 n)) 20 3 true).run Tryz.prog w=.ok (.tuple #[.int .i64 n,.bool true]) w:=fun _=>by kernel_rfl
    go_wp2_with (first
     | (go_at_call 30;refine (HI.out n hn _ hbr).mono ?_;rintro e w3 ⟨rfl,hb3⟩;have hbd3:=Zpy hbd hb3;refine Za2 ?_))
    unfold Stop
    have hN3:N≤w3.heap.size:=Nat.le_trans (Nat.le_of_lt hNr) hb3.size
    go_wp2_with (first
     | (go_at_call 137;refine Za2 ?_))
    unfold Stop
    rw [HCat.out]
    have hIn:=Zh1 n
    refine (HW.out N N (Lib.byteCells txt) _ _ (.inr hbd3) (by rw [Lib.byteCells_length];show _+(numT n).toArray.size≤_;rw [List.size_toArray];omega) hN3).mono ?_
    rintro e w4 ⟨rfl,hbd4,hb4⟩
    have hbd5:Lib.BuilderAt 193 5 N N (.pointer N) (Lib.byteCells txt1) w4:=by
     have:=hbd4
     rw [Lib.strCells_eq] at this
     rw [HTK.out]
     simpa [itT,itN,Lib.byteCells] using this
    have hb5:Below N w w4:=hbr.trans ((hb3.mono (Nat.le_of_lt hNr)).trans hb4)
    clear hbd4 hbd3 hbd
    exact Q2y
   ·have hn1:I64 n:=HBk.out n (by simp [itN])
    unfold itV at q0
    simp only at q0
    have ta1:∀ w,(Instr.typeAssert (.iface 23 (.agg #[.int .i64 n,.int .i64 hi])) 20 3 true).run Tryz.prog w=.ok (.tuple #[(),.bool false]) w:=fun _=>by kernel_rfl
    have ta2:∀ w,(Instr.typeAssert (.iface 23 (.agg #[.int .i64 n,.int .i64 hi])) 20 23 true).run Tryz.prog w=.ok (.tuple #[.agg #[.int .i64 n,.int .i64 hi],.bool true]) w:=fun _=>by kernel_rfl
    go_wp2_with (first
     | (go_at_call 235;refine Za2 ?_))
    unfold Stop
    have hB3:Below wr.heap.size wr ((wr.alloc (.cells #[.int .i64 n,.int .i64 hi] 23)).alloc (.cells #[.iface 3 (.int .i64 n),.iface 3 (.int .i64 hi)] 20)):=by exact bel_
    have hbA:Blk ((wr.alloc (.cells #[.int .i64 n,.int .i64 hi] 23)).alloc (.cells #[.iface 3 (.int .i64 n),.iface 3 (.int .i64 hi)] 20)) (wr.heap.size+1) #[.iface 3 (.int .i64 n),.iface 3 (.int .i64 hi)] 20:=Blk.new' _ _ _ _ sp_
    have hrA:RowsAt ((wr.alloc (.cells #[.int .i64 n,.int .i64 hi] 23)).alloc (.cells #[.iface 3 (.int .i64 n),.iface 3 (.int .i64 hi)] 20)) (some ⟨wr.heap.size+1,0,none⟩) 1 itL [((n,none):It),(hi,none)]:=fun i hi2=>by
     refine ⟨_,_,rfl,fun j u hj=>?_⟩
     have hi3:i=0∨i=1:=by simp at hi2;omega
     have hc:=hbA.cell (0+i * 1+j)
     rw [hc]
     obtain rfl:j=0:=by
      rcases j with _|j
      ·rfl
      ·simp [itL] at hj
     rcases hi3 with rfl|rfl
     ·simpa [itL,itV] using hj
     ·simpa [itL,itV] using hj
    have hBw:=hbr.trans (hB3.mono (Nat.le_of_lt hNr))
    refine (HRk.out _ n hi _ _ (HV.out _ hBw) rfl hrA).mono ?_
    rintro e w3 ⟨rfl,hb3⟩
    have hbr3:Below wr.heap.size wr w3:=hB3.trans (hb3.mono hB3.size)
    have hbd3:=Zpy hbd hbr3
    have hN3:N≤w3.heap.size:=Nat.le_trans (Nat.le_of_lt hNr) hbr3.size
    have hBw3:=hbr.trans (hbr3.mono (Nat.le_of_lt hNr))
    have hIn:=Zwh (n,some hi)
    clear hbA hrA hb3 hbr3 hB3 hBw hbd hbr
    go_wp2_with (first
     | (go_at_call 137;refine (HW.out N N (Lib.byteCells txt) _ _ (.inr hbd3) (by rw [Lib.byteCells_length];show _+(itT (n,some hi)).toArray.size≤_;rw [List.size_toArray];omega) hN3).mono ?_;rintro e w4 ⟨rfl,hbd4,hb4⟩;refine Za2 ?_))
    unfold Stop
    have hbd5:Lib.BuilderAt 193 5 N N (.pointer N) (Lib.byteCells txt1) w4:=by
     have:=hbd4
     rw [Lib.strCells_eq] at this
     rw [HTK.out]
     simpa [Lib.byteCells] using this
    have hb5:Below N w w4:=hBw3.trans hb4
    exact Q2y
  ·obtain rfl:k=l.length:=by omega
   have hlti:¬ (l.length:Int) < (l.length:Int):=by omega
   rw [List.take_length] at hbd
   go_wp2_with (first
    | (go_at_call 139;refine (HStr.out N N _ _ (.inr hbd) (Nat.le_of_lt hNr)).mono ?_;rintro e w4 ⟨rfl,hb4⟩))
   go_ret
   exact ⟨rfl,by rw [HN.out];exact hbr.trans hb4⟩
theorem Zn4 (word:Bs) (l:List Int) (a:Option Addr) (c:Nat) (w:World) (hv:VarsOk w) (hr:RowsAt w a 1 itL (l.map fun n=>((n,none):It))) (hw:word.length≤1000000) (hl:l.length≤1000) (hb:∀ n∈l,I64 n) :
  Calls Tryz.prog 235 #[strV word,.slice a l.length c] w (Zak (strV (Zam word l)) w):=by
 have:=Zsl word (l.map fun n=>((n,none):It)) a c w hv hr hw (by rw [List.length_map];exact hl) (fun x hx n hn=>by
  obtain ⟨m,hm,rfl⟩:=List.mem_map.1 hx
  simp [itN] at hn
  subst hn
  exact hb _ hm) (fun W lo hi a' c' _ h _=>by
  obtain ⟨m,_,e⟩:=List.mem_map.1 h
  cases e)
 rw [List.length_map] at this
 have e:(l.map fun n=>((n,none):It)).flatMap itT=l.flatMap numT:=by
  rw [List.flatMap_map]
  congr 1
  funext n
  simp [itT,itN]
 rw [e] at this
 exact this
theorem o_reply (word:Bs) (l:List It) (a:Option Addr) (c:Nat) (w:World) (hv:VarsOk w) (hr:RowsAt w a 1 itL l) (hw:word.length≤1000000) (hl:l.length≤1000) (hb:∀ x∈l,∀ n∈itN x,I64 n) :
  Calls Tryz.prog 235 #[strV word,.slice a l.length c] w (Zak (strV (Zam word (l.flatMap itN))) w):=by
 have:=Zsl word l a c w hv hr hw hl hb (fun W lo hi a' c' h1 h2 h3=>by
  have h4:=Zn4 [] [lo,hi] a' c' W h1 h3 sp_ sp_ (fun n hn=>hb _ h2 n (by simpa [itN] using hn))
  have e:Zam [] [lo,hi]=itT (lo,some hi):=by simp [Zow,itT,itN]
  rw [e] at h4
  exact h4)
 have e:l.flatMap itT=(l.flatMap itN).flatMap numT:=by
  rw [List.flatMap_assoc]
  rfl
 rw [e] at this
 exact this
theorem Zw3 (word:Bs) (l:List It) (a:Option Addr) (c:Nat) (w:World) (hv:VarsOk w) (hr:RowsAt w a 1 itL l) (hw:word.length≤1000000) (hl:l.length≤1000) (hb:∀ x∈l,∀ n∈itN x,I64 n) :
  Calls Tryz.prog 237 #[strV word,(),.slice a l.length c] w (Zak (strV (Zam word (l.flatMap itN))) w):=by
 have HR:=hd_ (o_reply word l a c w hv hr hw hl hb)
 have HM:=hd_ (fun W=>Zbz 0 W)
 clear hr hb
 generalize Zam word (l.flatMap itN)=t at *
 unfold strV at *
 go_enter Tryz.func237,Tryz.ntmps237
 go_wp2_with (first
  | (go_at_call 64;refine (HM.out _).mono ?_;rintro e w2 ⟨rfl,rfl⟩)
  | (go_at_call 235;refine HR.out.mono ?_;rintro e w2 ⟨rfl,hb2⟩))
 go_ret
 exact ⟨rfl,hb2⟩
theorem Zw4 (word:Bs) (e:Int) (v:Value) (w:World) (he:e≠0) :
  Calls Tryz.prog 237 #[strV word,e,v] w (Zy6 e w):=by
 have HM:=hd_ (fun W=>Zdf e W)
 have hb0:(e == 0)=false:=by simpa using he
 unfold strV at *
 go_enter Tryz.func237,Tryz.ntmps237
 go_wp2_with (first
  | (go_at_call 64;refine (HM.out _).mono ?_;rintro x w2 ⟨rfl,rfl⟩))
 exact ⟨rfl,rfl,Below.refl _ _⟩
structure OvOk (w:World) (O:Nat) (b:Ov) (l:List Nt) (sa:Option Addr) (sc:Nat) (fa:Option Addr) (fc:Nat) (na:Option Addr) (nc:Nat):Prop where
 at_:OvAt w O b l sa sc fa fc na nc
 apart:∀ p,(sa=some p∨fa=some p∨na=some p)→p.block≠O
 inn:OvIn b l
 cap:l.length≤nc
theorem OvOk.below {w w':World}{O:Nat}{b:Ov}{l:List Nt}{sa:Option Addr}{sc:Nat}{fa:Option Addr}{fc:Nat}{na:Option Addr}{nc:Nat}(h:OvOk w O b l sa sc fa fc na nc) (hb:w w'):OvOk w' O b l sa sc fa fc na nc:=⟨h.at_.below hb,h.apart,h.inn,h.cap⟩
def DoPost (O:Nat) (b:Ov) (sa:Option Addr) (sc:Nat) (fa:Option Addr) (fc:Nat) (na:Option Addr) (r:Bs × Int × List Nt) (w:World) (e:Ending) (w':World):Prop :=
 (r.2.1=0∧e=.returned (strV r.1)∧Lets (fun k _=>k=O) w w'∧∃ na' nc',OvOk w' O b r.2.2 sa sc fa fc na' nc'∧∀ p,na'=some p→na=some p∨(w.heap.size≤p.block∧p.block < w'.heap.size)) ∨
 (r.2.1≠0∧e=.panicked [{ v:=Zkm r.2.1,recovered:=false }]∧w w')
theorem Zcc {α:Type}{X:Nat→Option Obj→Prop}{w w':World}{a:Option Addr}{n:Nat}{f:α→List Value}{l:List α}(h:RowsAt w a n f l) (hl:Lets X w w') (hx:∀ p o,a=some p→¬ X p.block o):RowsAt w' a n f l:=fun i hi=>by
 obtain ⟨gb,go,h0,h1⟩:=h i hi
 refine ⟨gb,go,h0,fun j u hj=>?_⟩
 have hc:=h1 j u hj
 exact (World.cell?_of_block (hl.block gb (bl_ w _ hc) (hx _ _ h0))).trans hc
theorem Zve {α:Type}{w:World}{a:Option Addr}{n:Nat}{f:α→List Value}{l:List α}(h:RowsAt w a n f l) (k:Nat):RowsAt w a n f (l.take k):=fun i hi=>by
 have hi2:i < l.length:=by rw [List.length_take] at hi;omega
 obtain ⟨gb,go,h0,h1⟩:=h i hi2
 refine ⟨gb,go,h0,fun j u hj=>h1 j u ?_⟩
 rw [List.getElem_take] at hj
 exact hj
theorem VarsOk.letsO {w w':World}{O:Nat}(h:VarsOk w) (hl:Lets (fun k _=>k=O) w w') (hO:9≤O):VarsOk w':=h.lets (Nat.le_trans h.2.2.2.2 hl.size) fun k hk=>hl.block k (by have:=h.2.2.2.2;omega) om_
theorem OvIn.take {b:Ov}{l:List Nt}(h:OvIn b l) (k:Nat):OvIn b (l.take k):=⟨h.strays,h.fl,by have:=h.notes;rw [List.length_take];omega,fun n hn=>h.small n (List.mem_of_mem_take hn)⟩
theorem Zba (W:World) (l:List It) (t:TypeId):RowsAt (W.alloc (.cells (l.map itV).toArray t)) W.heap.size 1 itL l:=fun i hi=>by
 refine ⟨_,_,rfl,fun j u hj=>?_⟩
 have hc:=(Blk.new W (l.map itV).toArray t).cell (0+i * 1+j)
 rw [hc]
 obtain rfl:j=0:=by
  rcases j with _|j
  ·rfl
  ·simp [itL] at hj
 simp [itL] at hj
 simp [hi,hj]
section
variable {w:World}{O:Nat}{b:Ov}{l:List Nt}{sa:Option Addr}{sc:Nat}{fa:Option Addr}{fc:Nat}{na:Option Addr}{nc:Nat}
theorem ok_set {w w':World}{l':List Nt}{na':Option Addr}{nc':Nat}(h:OvOk w O b l sa sc fa fc na nc) (hb:Blk w' O (ovV b l'.length sa sc fa fc na' nc') 93) (hl:Lets (fun k _=>k=O) w w') (hO:9≤O) (hr:RowsAt w' na' 4 ntL l') (ha:∀ p,na'=some p→p.block≠O) (hi:OvIn b l') (hc:l'.length≤nc'):OvOk w' O b l' sa sc fa fc na' nc' :=
 ⟨⟨hb,Zcc h.at_.strays hl (fun p _ e=>h.apart p (.inl e)),Zcc h.at_.fl hl (fun p _ e=>h.apart p (.inr (.inl e))),hr,h.at_.vars.letsO hl hO⟩,fun p e=>by
  rcases e with e|e|e
  ·exact h.apart p (.inl e)
  ·exact h.apart p (.inr (.inl e))
  ·exact ha p e,hi,hc⟩
theorem Zqv (h:OvOk w O b l sa sc fa fc na nc) (hl0:l.length=0) (v:Value) :
  Calls Tryz.prog 152 #[.pointer O,v] w (DoPost O b sa sc fa fc na (doO b l [] .strike) w):=by
 have HM:=hd_ (fun W=>Zdf 4 W)
 have hr:doO b l [] .strike=([],4,l):=by simp [doO,hl0]
 rw [hr]
 have bO:=h.at_.blk
 have r:=bO.cell
 have lt:=bO.lt
 unfold ovV at r
 rw [hl0] at r
 clear h bO hr
 go_enter Tryz.func152,Tryz.ntmps152
 go_wp2_with (first
  | (go_at_call 64;refine (HM.out _).mono ?_;rintro e w2 ⟨rfl,rfl⟩))
 exact ⟨rfl,Or.inr ⟨by show (4:Int)≠0;decide,rfl,Below.refl _ _⟩⟩
theorem Zp1 (h:OvOk w O b l sa sc fa fc na nc) (hO:9≤O) (hl0:l.length≠0) (v:Value) :
  Calls Tryz.prog 152 #[.pointer O,v] w (DoPost O b sa sc fa fc na (doO b l [] .strike) w):=by
 have HM:=hd_ (fun W=>Zbz 4 W)
 have hr:doO b l [] .strike=(Zam Zb3 [(l.length:Int) - 1],0,l.take (l.length - 1)):=by simp [doO,hl0]
 rw [hr]
 have hl30:=h.inn.notes
 have bO:=h.at_.blk
 have r:=bO.cell
 have f:=bO.free
 have lt:=bO.lt
 obtain ⟨gb,go,rfl,-⟩:=h.at_.notes 0 om_
 obtain ⟨K,hK⟩:∃ K:Nat,l.length=K+1:=⟨l.length - 1,om_⟩
 have hlt:(l.take (l.length - 1)).length=K:=by rw [List.length_take];omega
 have hK1:((K+1:Nat):Int) - 1=(K:Int):=by omega
 have hcap:=h.cap
 have hX:Hid (∀ W,Lets (fun k _=>k=O) w W→Blk W O (ovV b K sa sc fa fc (some ⟨gb,go,none⟩) nc) 93→OvOk W O b (l.take (l.length - 1)) sa sc fa fc (some ⟨gb,go,none⟩) nc):=fun W hl hb=>ok_set h (by rw [hlt];exact hb) hl hO (Zcc (Zve h.at_.notes _) hl (fun p _ e=>h.apart p (.inr (.inr e)))) (fun p e=>h.apart p (.inr (.inr e))) (h.inn.take _) (by rw [hlt];omega)
 have HV:=hd_ (fun W (hl:Lets (fun k _=>k=O) w W)=>h.at_.vars.letsO hl hO)
 have HRp:Hid (∀ W a c,VarsOk W→RowsAt W a 1 itL [(((K:Int),none):It)]→Calls Tryz.prog 235 #[strV Zb3,.slice a 1 c] W (Zak (strV (Zam Zb3 [(l.length:Int) - 1])) W)):=fun W a c h1 h2=>by
  have:=Zn4 Zb3 [(l.length:Int) - 1] a c W h1 (by rw [hK,hK1];exact h2) de_ sp_ (fun n hn=>by simp at hn;subst hn;unfold I64;omega)
  exact this
 unfold ovV at r
 have bO':=bO
 unfold ovV at bO'
 rw [hK] at r bO' hcap hl30
 clear hr h bO hlt
 generalize l.take (l.length - 1)=l' at *
 generalize Zam Zb3 [(l.length:Int) - 1]=t at *
 unfold strV at *
 unfold Zb3 at *
 clear hK hl0
 have hcap2:(K:Int)≤(nc:Int):=by omega
 go_enter Tryz.func152,Tryz.ntmps152
 go_wp2_with (first
  | (go_at_call 64;refine (HM.out _).mono ?_;rintro e w2 ⟨rfl,rfl⟩)
  | (go_at_call 235;refine Za2 ?_))
 unfold Stop
 have hLS:Lets (fun k _=>k=O) w (w.setCell ⟨O,11,none⟩ (.slice (some ⟨gb,go,none⟩) K nc)):=(Lets.refl _ _).setCell rfl _
 have hBS:=bO'.set 11 (.slice (some ⟨gb,go,none⟩) K nc)
 have hLA:=hLS.alloc (.cells #[.iface 3 ↑K] 20)
 have hri:=Zba (w.setCell ⟨O,11,none⟩ (.slice (some ⟨gb,go,none⟩) K nc)) [((K:Int),none)] 20
 have hBA:Blk ((w.setCell ⟨O,11,none⟩ (.slice (some ⟨gb,go,none⟩) K nc)).alloc (.cells #[.iface 3 ↑K] 20)) O (ovV b K sa sc fa fc (some ⟨gb,go,none⟩) nc) 93:=hBS.alloc _
 rw [show (w.setCell ⟨O,11,none⟩ (.slice (some ⟨gb,go,none⟩) K nc)).heap.size=w.heap.size by simp] at hri
 have HR2:=hd_ (HRp.out _ _ 1 (HV.out _ hLA) hri)
 have HL:=hd_ hLA
 have HBA:=hd_ hBA
 clear hBA hLA hri hBS hLS r f bO' lt
 generalize (w.setCell ⟨O,11,none⟩ (.slice (some ⟨gb,go,none⟩) K nc)).alloc (.cells #[.iface 3 ↑K] 20)=w2 at *
 refine HR2.out.mono ?_
 rintro e w3 ⟨rfl,hb3⟩
 go_wp2_with fail
 go_ret
 have hL3:=HL.out.trans (Lets.of_below hb3)
 exact Or.inl ⟨rfl,rfl,hL3,_,_,hX.out _ hL3 (HBA.out.below hb3 HBA.out.lt),fun p e=>.inl e⟩
theorem o_strike (h:OvOk w O b l sa sc fa fc na nc) (hO:9≤O) (v:Value) :
  Calls Tryz.prog 152 #[.pointer O,v] w (DoPost O b sa sc fa fc na (doO b l [] .strike) w):=by
 by_cases h0:l.length=0
 ·exact Zqv h h0 v
 ·exact Zp1 h hO h0 v
end
end Go.Proofs.YtbapgefodmmikaaGreatDoor
