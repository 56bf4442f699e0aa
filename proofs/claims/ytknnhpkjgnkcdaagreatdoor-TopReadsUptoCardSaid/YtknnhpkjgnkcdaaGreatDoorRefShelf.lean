/- The library's contracts, laid at this program. -/
import Derived.Shelf.Small.Bits
import Derived.Shelf.Small.Strs
import Derived.Shelf.Small.Wraps
import Derived.Shelf.Strconv.Atoi
import Derived.Shelf.Strconv.Itoa0
import Derived.Shelf.Strconv.Itoa1
import Derived.Shelf.LaysM
import Derived.Shelf.Strconv.Itoa2
import Derived.Shelf.Strconv.Itoa3
import Derived.Shelf.Strconv.AtoiErrFast
import Derived.Shelf.Strconv.ParseIntEmpty
import Derived.Shelf.Strconv.AtoiFail
import Derived.Shelf.Strconv.Clone
import Derived.Shelf.Strconv.SyntaxError
import Derived.Shelf.LaysC
import Derived.Shelf.Strconv.ToError
import Derived.Shelf.Strconv.Lower
import Derived.Shelf.Strconv.ParseUint10
import Derived.Shelf.Strconv.ParseUint10Empty
import Derived.Shelf.Strconv.ParseUint10Any
import Derived.Shelf.Strconv.ParseInt10
import Derived.Shelf.Strconv.AtoiLong
import Derived.Shelf.Strconv.AtoiInnerAll
import Derived.Shelf.Strconv.RangeError
import Derived.Shelf.Strconv.ToErrorRange
import Derived.Shelf.Strconv.AtoiAll
import Derived.Shelf.Strconv.ErrVarAll
import Derived.Shelf.Sort.Plain
import Derived.Shelf.Slices.Turned
import Derived.Shelf.Slices.Reverse
import Derived.Ground.Names2Prog
import Derived.Shelf.Slices.CompactI
import Derived.Shelf.Slices.In.SortNone
import Derived.Ground.SlgnProg
import Derived.Shelf.SlicesE.Equal
import Derived.Shelf.SlicesE.Compact
import Derived.Ground.SlgfProg
import Derived.Shelf.SlicesE.IndexFunc
import Derived.Shelf.SlicesE.DeleteFunc
import Derived.Ground.SlsfProg
import Derived.Shelf.SlSortCmp.WholeK
import Derived.Test.YtknnhpkjgnkcdaaGreatDoorProg
set_option linter.all false
set_option maxRecDepth 100000
namespace Go.Proofs
open Go.Shelf Tryz
def Tryz.lays125_ren:Go.Shelf.Ren:=⟨fun | 125=>102 | 128=>146 | 129=>147 | n=>n,fun | 46=>159 | 3=>3 | 51=>219 | 53=>221 | 4=>4 | 5=>5 | 9=>9 | n=>n,fun | n=>n⟩
theorem Tryz.lays125:Go.Proofs.Lays.n125 Tryz.prog Tryz.lays125_ren:=⟨by kernel_rfl,func102.trans (congrArg some (by kernel_rfl)),func146.trans (congrArg some (by kernel_rfl)),func147.trans (congrArg some (by kernel_rfl)),underlying3,isAgg3,sizeOf3,zeroValue3,underlying4,isAgg4,sizeOf4,zeroValue4,underlying5,isAgg5,sizeOf5,zeroValue5,underlying9,isAgg9,sizeOf9,zeroValue9,underlying159,isAgg159,sizeOf159,zeroValue159,underlying219,isAgg219,sizeOf219,zeroValue219,underlying221,isAgg221,sizeOf221,zeroValue221⟩
theorem Tryz.bits_Len (x:Int)(w:World)(h0:0≤x)(h1:x≤18446744073709551615) :
  Calls Tryz.prog 102 #[.int .u64 x] w fun e w'=>e=.returned (.int .i64 (Lib.bitLen x.toNat))∧w'=w:=Any.bits_Len Tryz.lays125 x w h0 h1
def Tryz.lays106_ren:Go.Shelf.Ren:=⟨fun | 106=>35 | 213=>72 | 265=>106 | n=>n,fun | 9=>9 | 3=>3 | n=>n,fun | n=>n⟩
theorem Tryz.lays106:Go.Proofs.Lays.n106 Tryz.prog Tryz.lays106_ren:=⟨by kernel_rfl,func35.trans (congrArg some (by kernel_rfl)),func72.trans (congrArg some (by kernel_rfl)),func106.trans (congrArg some (by kernel_rfl)),underlying3,isAgg3,sizeOf3,zeroValue3,underlying9,isAgg9,sizeOf9,zeroValue9⟩
open Go.RowKit in
theorem Tryz.strings_Compare (a b:ByteArray)(w:World) :
  Calls Tryz.prog 35 #[.string a,.string b] w fun e w'=>e=.returned (.int .i64 (Lib.compareBytes a.data.toList b.data.toList))∧w'=w:=Any.strings_Compare Tryz.lays106 a b w
def Tryz.lays122_ren:Go.Shelf.Ren:=⟨fun | 122=>117 | 215=>158 | n=>n,fun | 3=>3 | 4=>4 | n=>n,fun | n=>n⟩
theorem Tryz.lays122:Go.Proofs.Lays.n122 Tryz.prog Tryz.lays122_ren:=⟨by kernel_rfl,func117.trans (congrArg some (by kernel_rfl)),func158.trans (congrArg some (by kernel_rfl)),underlying3,isAgg3,sizeOf3,zeroValue3,underlying4,isAgg4,sizeOf4,zeroValue4⟩
open Go.RowKit in
theorem Tryz.cmp_Compare_int (x y:Int)(w:World) :
  Calls Tryz.prog 117 #[.int .i64 x,.int .i64 y] w fun e w'=>e=.returned (.int .i64 (Lib.compareInt x y))∧w'=w:=Any.cmp_Compare_int Tryz.lays122 x y w
def Tryz.laysM171_ren:Go.Shelf.Ren:=⟨fun | 171=>59 | 243=>98 | 246=>132 | 283=>170 | 284=>171 | 285=>172 | 286=>173 | 129=>147 | 317=>202 | 318=>203 | 319=>204 | 320=>205 | 337=>225 | 338=>226 | n=>n,fun | 3=>3 | 9=>9 | 2=>2 | 4=>4 | 171=>243 | 0=>0 | 53=>221 | 37=>121 | 5=>5 | 173=>245 | 212=>269 | 51=>219 | 20=>20 | 213=>270 | 46=>159 | 232=>295 | 233=>296 | n=>n,fun | 17=>4 | 18=>7 | 19=>8 | n=>n⟩
theorem Tryz.laysM171:Go.Proofs.LaysM.n171 Tryz.prog Tryz.laysM171_ren:={
 mixed:=by kernel_rfl
 f129:=func147.trans (congrArg some (by kernel_rfl))
 f171:=func59.trans (congrArg some (by kernel_rfl))
 f243:=func98.trans (congrArg some (by kernel_rfl))
 f246:=func132.trans (congrArg some (by kernel_rfl))
 f283:=func170.trans (congrArg some (by kernel_rfl))
 f284:=func171.trans (congrArg some (by kernel_rfl))
 f285:=func172.trans (congrArg some (by kernel_rfl))
 f286:=func173.trans (congrArg some (by kernel_rfl))
 f317:=func202.trans (congrArg some (by kernel_rfl))
 f318:=func203.trans (congrArg some (by kernel_rfl))
 f319:=func204.trans (congrArg some (by kernel_rfl))
 f320:=func205.trans (congrArg some (by kernel_rfl))
 f337:=func225.trans (congrArg some (by kernel_rfl))
 f338:=func226.trans (congrArg some (by kernel_rfl))
 t0:=underlying0
 a0:=isAgg0
 z0:=sizeOf0
 v0:=zeroValue0
 t2:=underlying2
 a2:=isAgg2
 z2:=sizeOf2
 v2:=zeroValue2
 t3:=underlying3
 a3:=isAgg3
 z3:=sizeOf3
 v3:=zeroValue3
 t4:=underlying4
 a4:=isAgg4
 z4:=sizeOf4
 v4:=zeroValue4
 t5:=underlying5
 a5:=isAgg5
 z5:=sizeOf5
 v5:=zeroValue5
 t9:=underlying9
 a9:=isAgg9
 z9:=sizeOf9
 v9:=zeroValue9
 t20:=underlying20
 a20:=isAgg20
 z20:=sizeOf20
 v20:=zeroValue20
 t37:=underlying121
 a37:=isAgg121
 z37:=sizeOf121
 v37:=zeroValue121
 t46:=underlying159
 a46:=isAgg159
 z46:=sizeOf159
 v46:=zeroValue159
 t51:=underlying219
 a51:=isAgg219
 z51:=sizeOf219
 v51:=zeroValue219
 t53:=underlying221
 a53:=isAgg221
 z53:=sizeOf221
 v53:=zeroValue221
 t171:=underlying243
 a171:=isAgg243
 z171:=sizeOf243
 v171:=zeroValue243
 t173:=underlying245
 a173:=isAgg245
 z173:=sizeOf245
 v173:=zeroValue245
 t212:=underlying269
 a212:=isAgg269
 z212:=sizeOf269
 v212:=zeroValue269
 t213:=underlying270
 a213:=isAgg270
 z213:=sizeOf270
 t232:=underlying295
 a232:=isAgg295
 z232:=sizeOf295
 v232:=zeroValue295
 t233:=underlying296
 a233:=isAgg296
 z233:=sizeOf296
 v233:=zeroValue296
 g17:=by kernel_rfl
 g18:=by kernel_rfl
 g19:=by kernel_rfl
 i0:=by kernel_rfl
 i2:=by kernel_rfl
 i3:=by kernel_rfl
 i4:=by kernel_rfl
 i5:=by kernel_rfl
 i9:=by kernel_rfl
 i20:=by kernel_rfl
 i37:=by kernel_rfl
 i46:=by kernel_rfl
 i51:=by kernel_rfl
 i53:=by kernel_rfl
 i171:=by kernel_rfl
 i173:=by kernel_rfl
 i212:=by kernel_rfl
 i232:=by kernel_rfl
 i233:=by kernel_rfl
 m17:=by kernel_rfl
 m18:=by kernel_rfl
 m19:=by kernel_rfl }
open Go.RowKit Go.Sort Go.Lib in
theorem Tryz.strconv_Itoa (n:Int) (h0 : -9223372036854775808≤n) (h1:n≤9223372036854775807) (w:World) (htab:Lib.TabIs Tryz.prog w "internal/strconv.uint64pow10" .u64 Lib.pow10Tab) :
  Calls Tryz.prog 59 #[.int .i64 n] w fun e w'=>e=.returned (.string ⟨(Lib.itoa n).toArray⟩)∧∃ k os,w'=grow (w.drewN k) os:=Any.strconv_Itoa Tryz.laysM171 n h0 h1 w htab
def Tryz.laysC172_ren:Go.Shelf.Ren:=⟨fun | 172=>99 | 244=>133 | 245=>134 | 247=>174 | 279=>175 | 280=>176 | 281=>177 | 282=>178 | 287=>206 | 316=>207 | 171=>59 | 205=>208 | 321=>227 | 322=>228 | 243=>98 | 246=>132 | 283=>170 | 284=>171 | 285=>172 | 286=>173 | 129=>147 | 317=>202 | 318=>203 | 319=>204 | 320=>205 | 337=>225 | 338=>226 | n=>n,fun | 9=>9 | 3=>3 | 75=>125 | 76=>126 | 4=>4 | 5=>5 | 167=>247 | 37=>121 | 0=>0 | 85=>248 | 2=>2 | 168=>250 | 53=>221 | 175=>271 | 46=>159 | 210=>275 | 127=>164 | 145=>291 | 143=>289 | 21=>21 | 171=>243 | 173=>245 | 212=>269 | 51=>219 | 20=>20 | 213=>270 | 232=>295 | 233=>296 | 80=>87 | n=>n,fun | 15=>5 | 16=>6 | 17=>4 | 18=>7 | 19=>8 | n=>n⟩
theorem Tryz.laysC172:Go.Proofs.LaysC.n172 Tryz.prog Tryz.laysC172_ren:={
 mixed:=by kernel_rfl
 f129:=func147.trans (congrArg some (by kernel_rfl))
 f171:=func59.trans (congrArg some (by kernel_rfl))
 f172:=func99.trans (congrArg some (by kernel_rfl))
 f205:=func208.trans (congrArg some (by kernel_rfl))
 f243:=func98.trans (congrArg some (by kernel_rfl))
 f244:=func133.trans (congrArg some (by kernel_rfl))
 f245:=func134.trans (congrArg some (by kernel_rfl))
 f246:=func132.trans (congrArg some (by kernel_rfl))
 f247:=func174.trans (congrArg some (by kernel_rfl))
 f279:=func175.trans (congrArg some (by kernel_rfl))
 f280:=func176.trans (congrArg some (by kernel_rfl))
 f281:=func177.trans (congrArg some (by kernel_rfl))
 f282:=func178.trans (congrArg some (by kernel_rfl))
 f283:=func170.trans (congrArg some (by kernel_rfl))
 f284:=func171.trans (congrArg some (by kernel_rfl))
 f285:=func172.trans (congrArg some (by kernel_rfl))
 f286:=func173.trans (congrArg some (by kernel_rfl))
 f287:=func206.trans (congrArg some (by kernel_rfl))
 f316:=func207.trans (congrArg some (by kernel_rfl))
 f317:=func202.trans (congrArg some (by kernel_rfl))
 f318:=func203.trans (congrArg some (by kernel_rfl))
 f319:=func204.trans (congrArg some (by kernel_rfl))
 f320:=func205.trans (congrArg some (by kernel_rfl))
 f321:=func227.trans (congrArg some (by kernel_rfl))
 f322:=func228.trans (congrArg some (by kernel_rfl))
 f337:=func225.trans (congrArg some (by kernel_rfl))
 f338:=func226.trans (congrArg some (by kernel_rfl))
 t0:=underlying0
 a0:=isAgg0
 z0:=sizeOf0
 v0:=zeroValue0
 t2:=underlying2
 a2:=isAgg2
 z2:=sizeOf2
 v2:=zeroValue2
 t3:=underlying3
 a3:=isAgg3
 z3:=sizeOf3
 v3:=zeroValue3
 t4:=underlying4
 a4:=isAgg4
 z4:=sizeOf4
 v4:=zeroValue4
 t5:=underlying5
 a5:=isAgg5
 z5:=sizeOf5
 v5:=zeroValue5
 t9:=underlying9
 a9:=isAgg9
 z9:=sizeOf9
 v9:=zeroValue9
 t20:=underlying20
 a20:=isAgg20
 z20:=sizeOf20
 v20:=zeroValue20
 t21:=underlying21
 a21:=isAgg21
 z21:=sizeOf21
 v21:=zeroValue21
 t37:=underlying121
 a37:=isAgg121
 z37:=sizeOf121
 v37:=zeroValue121
 t46:=underlying159
 a46:=isAgg159
 z46:=sizeOf159
 v46:=zeroValue159
 t51:=underlying219
 a51:=isAgg219
 z51:=sizeOf219
 v51:=zeroValue219
 t53:=underlying221
 a53:=isAgg221
 z53:=sizeOf221
 v53:=zeroValue221
 t75:=underlying125
 a75:=isAgg125
 z75:=sizeOf125
 v75:=zeroValue125
 t76:=underlying126
 a76:=isAgg126
 z76:=sizeOf126
 v76:=zeroValue126
 t85:=underlying248
 a85:=isAgg248
 z85:=sizeOf248
 v85:=zeroValue248
 t127:=underlying164
 a127:=isAgg164
 z127:=sizeOf164
 v127:=zeroValue164
 t143:=underlying289
 a143:=isAgg289
 z143:=sizeOf289
 v143:=zeroValue289
 t145:=underlying291
 a145:=isAgg291
 z145:=sizeOf291
 v145:=zeroValue291
 t167:=underlying247
 a167:=isAgg247
 z167:=sizeOf247
 v167:=zeroValue247
 t168:=underlying250
 a168:=isAgg250
 z168:=sizeOf250
 v168:=zeroValue250
 t171:=underlying243
 a171:=isAgg243
 z171:=sizeOf243
 v171:=zeroValue243
 t173:=underlying245
 a173:=isAgg245
 z173:=sizeOf245
 v173:=zeroValue245
 t175:=underlying271
 a175:=isAgg271
 z175:=sizeOf271
 v175:=zeroValue271
 t210:=underlying275
 a210:=isAgg275
 z210:=sizeOf275
 v210:=zeroValue275
 t212:=underlying269
 a212:=isAgg269
 z212:=sizeOf269
 v212:=zeroValue269
 t213:=underlying270
 a213:=isAgg270
 z213:=sizeOf270
 t232:=underlying295
 a232:=isAgg295
 z232:=sizeOf295
 v232:=zeroValue295
 t233:=underlying296
 a233:=isAgg296
 z233:=sizeOf296
 v233:=zeroValue296
 g15:=by kernel_rfl
 g16:=by kernel_rfl
 g17:=by kernel_rfl
 g18:=by kernel_rfl
 g19:=by kernel_rfl
 t80:=underlying87
 a80:=isAgg87
 z80:=sizeOf87
 v80:=zeroValue87
 i0:=by kernel_rfl
 i2:=by kernel_rfl
 i3:=by kernel_rfl
 i4:=by kernel_rfl
 i5:=by kernel_rfl
 i9:=by kernel_rfl
 i20:=by kernel_rfl
 i21:=by kernel_rfl
 i37:=by kernel_rfl
 i46:=by kernel_rfl
 i51:=by kernel_rfl
 i53:=by kernel_rfl
 i75:=by kernel_rfl
 i76:=by kernel_rfl
 i80:=by kernel_rfl
 i85:=by kernel_rfl
 i127:=by kernel_rfl
 i143:=by kernel_rfl
 i145:=by kernel_rfl
 i167:=by kernel_rfl
 i168:=by kernel_rfl
 i171:=by kernel_rfl
 i173:=by kernel_rfl
 i175:=by kernel_rfl
 i210:=by kernel_rfl
 i212:=by kernel_rfl
 i232:=by kernel_rfl
 i233:=by kernel_rfl
 m15:=by kernel_rfl
 m16:=by kernel_rfl
 m17:=by kernel_rfl
 m18:=by kernel_rfl
 m19:=by kernel_rfl
 c0:=by kernel_rfl
 c2:=by kernel_rfl
 c3:=by kernel_rfl
 c4:=by kernel_rfl
 c5:=by kernel_rfl
 c9:=by kernel_rfl
 c20:=by kernel_rfl
 c21:=by kernel_rfl
 c37:=by kernel_rfl
 c46:=by kernel_rfl
 c51:=by kernel_rfl
 c53:=by kernel_rfl
 c75:=by kernel_rfl
 c76:=by kernel_rfl
 c80:=by kernel_rfl
 c85:=by kernel_rfl
 c127:=by kernel_rfl
 c143:=by kernel_rfl
 c145:=by kernel_rfl
 c167:=by kernel_rfl
 c168:=by kernel_rfl
 c171:=by kernel_rfl
 c173:=by kernel_rfl
 c175:=by kernel_rfl
 c210:=by kernel_rfl
 c212:=by kernel_rfl
 c213:=by kernel_rfl
 c232:=by kernel_rfl
 c233:=by kernel_rfl }
open Go.RowKit in
theorem Tryz.strconv_Atoi_ok (s:ByteArray)(hmax:s.size≤9223372036854775806)(v:Int)(h:Lib.atoiAll s.data.toList=.ok v)(w:World) :
  Calls Tryz.prog 99 #[.string s] w fun e w'=>e=.returned (.tuple #[.int .i64 v,.nilIface])∧(w'=w∨∃ t,w'=Lib.bytesWorld w 5 t):=Any.strconv_Atoi_ok Tryz.laysC172 s hmax v h w
open Go.RowKit in
theorem Tryz.strconv_Atoi_syntax (s:ByteArray)(hlim:s.size≤281474976710656)(h:Lib.atoiAll s.data.toList=Lib.NumEnd.syntax)(ev:Value)(w:World)(hv:w.cell? ⟨5,0,none⟩=some ev)(hev:ev=.nilIface∨∃ te pe,ev=.iface te pe) :
  Calls Tryz.prog 99 #[.string s] w fun e w'=>∃ N,e=.returned (.tuple #[.int .i64 (0),.iface 250 (.pointer (some ⟨N,0,none⟩))])∧w.heap.size≤N∧w'.heap[N]? = some (.cells #[.string ⟨#[65,116,111,105]⟩,.string s,ev] 275 (0,0))∧Below w.heap.size w w':=Any.strconv_Atoi_syntax Tryz.laysC172 s hlim h ev w hv hev
open Go.RowKit in
theorem Tryz.strconv_Atoi_range (s:ByteArray)(hlim:s.size≤281474976710656)(h:Lib.atoiAll s.data.toList=.range)(ev:Value)(w:World)(hv:w.cell? ⟨6,0,none⟩=some ev)(hev:ev=.nilIface∨∃ te pe,ev=.iface te pe) :
  Calls Tryz.prog 99 #[.string s] w fun e w'=>∃ N,e=.returned (.tuple #[.int .i64 (Lib.atoiSat s.data.toList),.iface 250 (.pointer (some ⟨N,0,none⟩))])∧w.heap.size≤N∧w'.heap[N]? = some (.cells #[.string ⟨#[65,116,111,105]⟩,.string s,ev] 275 (0,0))∧Below w.heap.size w w':=Any.strconv_Atoi_range Tryz.laysC172 s hlim h ev w hv hev
def Tryz.lays189_ren:Go.Shelf.Ren:=⟨fun | 189=>68 | 125=>102 | 257=>101 | 128=>146 | 129=>147 | 294=>137 | 295=>138 | 296=>139 | 297=>140 | 298=>141 | 299=>142 | 216=>143 | 300=>144 | 301=>145 | 328=>180 | 329=>181 | 330=>182 | 331=>183 | 332=>184 | 215=>158 | 343=>210 | n=>n,fun | 28=>42 | 3=>3 | 46=>159 | 0=>0 | 51=>219 | 53=>221 | 4=>4 | 183=>212 | 182=>211 | 131=>76 | 5=>5 | 9=>9 | 218=>253 | 222=>256 | 228=>277 | 229=>152 | n=>n,fun | n=>n⟩
theorem Tryz.lays189:Go.Proofs.Lays.n189 Tryz.prog Tryz.lays189_ren:=⟨by kernel_rfl,func102.trans (congrArg some (by kernel_rfl)),func146.trans (congrArg some (by kernel_rfl)),func147.trans (congrArg some (by kernel_rfl)),func68.trans (congrArg some (by kernel_rfl)),func158.trans (congrArg some (by kernel_rfl)),func143.trans (congrArg some (by kernel_rfl)),func101.trans (congrArg some (by kernel_rfl)),func137.trans (congrArg some (by kernel_rfl)),func138.trans (congrArg some (by kernel_rfl)),func139.trans (congrArg some (by kernel_rfl)),func140.trans (congrArg some (by kernel_rfl)),func141.trans (congrArg some (by kernel_rfl)),func142.trans (congrArg some (by kernel_rfl)),func144.trans (congrArg some (by kernel_rfl)),func145.trans (congrArg some (by kernel_rfl)),func180.trans (congrArg some (by kernel_rfl)),func181.trans (congrArg some (by kernel_rfl)),func182.trans (congrArg some (by kernel_rfl)),func183.trans (congrArg some (by kernel_rfl)),func184.trans (congrArg some (by kernel_rfl)),func210.trans (congrArg some (by kernel_rfl)),underlying0,isAgg0,sizeOf0,zeroValue0,underlying3,isAgg3,sizeOf3,zeroValue3,underlying4,isAgg4,sizeOf4,zeroValue4,underlying5,isAgg5,sizeOf5,zeroValue5,underlying9,isAgg9,sizeOf9,zeroValue9,underlying42,isAgg42,sizeOf42,zeroValue42,underlying159,isAgg159,sizeOf159,zeroValue159,underlying219,isAgg219,sizeOf219,zeroValue219,underlying221,isAgg221,sizeOf221,zeroValue221,underlying76,isAgg76,sizeOf76,zeroValue76,underlying211,isAgg211,sizeOf211,zeroValue211,underlying212,isAgg212,sizeOf212,zeroValue212,underlying253,isAgg253,sizeOf253,zeroValue253,underlying256,isAgg256,sizeOf256,zeroValue256,underlying277,isAgg277,sizeOf277,zeroValue277,underlying152,isAgg152,sizeOf152,zeroValue152⟩
open Go.Sort Go.RowKit in
theorem Tryz.slices_Sort_int (blk off cap:Nat)(zs:List Int)(w:World)(hH:Holds (Value.int .i64) w blk off zs.toArray)(hblk:blk<w.heap.size)(hsz:zs.length<4611686018427387904) :
  Calls Tryz.prog 68 #[.slice (some ⟨blk,off,none⟩) zs.length cap] w fun e w' =>
   e=.returned (.tuple #[])∧∃ n os,w'=grow (putRow (Value.int .i64) (Sort.ahead w n) blk off (zs.mergeSort fun x y=>decide (x≤y)).toArray) os:=Any.slices_Sort_int Tryz.lays189 blk off cap zs w hH hblk hsz
def Tryz.lays190_ren:Go.Shelf.Ren:=⟨fun | 190=>165 | 125=>102 | 258=>200 | 128=>146 | 129=>147 | 302=>216 | 303=>217 | 304=>218 | 305=>219 | 306=>220 | 307=>221 | 308=>222 | 309=>223 | 310=>224 | 333=>230 | 329=>181 | 330=>182 | 334=>231 | 335=>232 | 336=>233 | 344=>234 | n=>n,fun | 31=>81 | 9=>9 | 3=>3 | 46=>159 | 0=>0 | 51=>219 | 53=>221 | 4=>4 | 183=>212 | 182=>211 | 131=>76 | 5=>5 | 218=>253 | 222=>256 | 228=>277 | 229=>152 | n=>n,fun | n=>n⟩
theorem Tryz.lays190:Go.Proofs.Lays.n190 Tryz.prog Tryz.lays190_ren:=⟨by kernel_rfl,func102.trans (congrArg some (by kernel_rfl)),func146.trans (congrArg some (by kernel_rfl)),func147.trans (congrArg some (by kernel_rfl)),func165.trans (congrArg some (by kernel_rfl)),func200.trans (congrArg some (by kernel_rfl)),func216.trans (congrArg some (by kernel_rfl)),func217.trans (congrArg some (by kernel_rfl)),func218.trans (congrArg some (by kernel_rfl)),func219.trans (congrArg some (by kernel_rfl)),func220.trans (congrArg some (by kernel_rfl)),func221.trans (congrArg some (by kernel_rfl)),func222.trans (congrArg some (by kernel_rfl)),func223.trans (congrArg some (by kernel_rfl)),func224.trans (congrArg some (by kernel_rfl)),func181.trans (congrArg some (by kernel_rfl)),func182.trans (congrArg some (by kernel_rfl)),func230.trans (congrArg some (by kernel_rfl)),func231.trans (congrArg some (by kernel_rfl)),func232.trans (congrArg some (by kernel_rfl)),func233.trans (congrArg some (by kernel_rfl)),func234.trans (congrArg some (by kernel_rfl)),underlying0,isAgg0,sizeOf0,zeroValue0,underlying3,isAgg3,sizeOf3,zeroValue3,underlying4,isAgg4,sizeOf4,zeroValue4,underlying5,isAgg5,sizeOf5,zeroValue5,underlying9,isAgg9,sizeOf9,zeroValue9,underlying81,isAgg81,sizeOf81,zeroValue81,underlying159,isAgg159,sizeOf159,zeroValue159,underlying219,isAgg219,sizeOf219,zeroValue219,underlying221,isAgg221,sizeOf221,zeroValue221,underlying76,isAgg76,sizeOf76,zeroValue76,underlying211,isAgg211,sizeOf211,zeroValue211,underlying212,isAgg212,sizeOf212,zeroValue212,underlying253,isAgg253,sizeOf253,zeroValue253,underlying256,isAgg256,sizeOf256,zeroValue256,underlying277,isAgg277,sizeOf277,zeroValue277,underlying152,isAgg152,sizeOf152,zeroValue152⟩
open Go.Sort Go.RowKit in
theorem Tryz.slices_Sort_string (blk off cap:Nat)(ss:List (List UInt8))(w:World)(hH:Holds encStr w blk off ss.toArray)(hblk:blk<w.heap.size)(hsz:ss.length<4611686018427387904) :
  Calls Tryz.prog 165 #[.slice (some ⟨blk,off,none⟩) ss.length cap] w fun e w' =>
   e=.returned (.tuple #[])∧∃ n os,w'=grow (putRow encStr (Sort.ahead w n) blk off (ss.mergeSort fun x y=>decide (x≤y)).toArray) os:=Any.slices_Sort_string Tryz.lays190 blk off cap ss w hH hblk hsz
def Tryz.lays112_ren:Go.Shelf.Ren:=⟨fun | 112=>42 | n=>n,fun | 28=>42 | 3=>3 | 4=>4 | 0=>0 | n=>n,fun | n=>n⟩
theorem Tryz.lays112:Go.Proofs.Lays.n112 Tryz.prog Tryz.lays112_ren:=⟨by kernel_rfl,func42.trans (congrArg some (by kernel_rfl)),underlying0,isAgg0,sizeOf0,zeroValue0,underlying3,isAgg3,sizeOf3,zeroValue3,underlying4,isAgg4,sizeOf4,zeroValue4,underlying42,isAgg42,sizeOf42,zeroValue42⟩
open Go.RowKit Go.Lib Go.Sort in
theorem Tryz.slices_Reverse_int (blk off cap:Nat)(zs:List Int)(w:World)(hH:Holds (Value.int .i64) w blk off zs.toArray)(hsz:zs.length≤9223372036854775807) :
  Calls Tryz.prog 42 #[.slice (some ⟨blk,off,none⟩) zs.length cap] w fun e w'=>e=.returned (.tuple #[])∧∃ n,w'=putRow (Value.int .i64) (Sort.ahead w n) blk off zs.reverse.toArray:=Any.slices_Reverse_int Tryz.lays112 blk off cap zs w hH hsz
open Go.RowKit Go.Lib Go.Sort in
theorem Tryz.slices_Reverse_int_empty (a:Option Addr)(cap:Nat)(w:World) :
  Calls Tryz.prog 42 #[.slice a 0 cap] w fun e w'=>e=.returned (.tuple #[])∧w'=w:=Any.slices_Reverse_int_empty Tryz.lays112 a cap w
def Tryz.laysNm220_ren:Go.Shelf.Ren:=⟨fun | 20=>201 | n=>n,fun | 22=>42 | 3=>3 | 4=>4 | 0=>0 | n=>n,fun | n=>n⟩
theorem Tryz.laysNm220:Go.Proofs.Lays2.n20 Tryz.prog Tryz.laysNm220_ren:=⟨by kernel_rfl,func201.trans (congrArg some (by kernel_rfl)),underlying0,isAgg0,sizeOf0,zeroValue0,underlying3,isAgg3,sizeOf3,zeroValue3,underlying4,isAgg4,sizeOf4,zeroValue4,underlying42,isAgg42,sizeOf42,zeroValue42,by kernel_rfl⟩
open Go.RowKit Go.Lib Go.Sort in
theorem Tryz.slices_Compact_int (blk off cap:Nat)(zs:List Int)(w:World)(hH:Holds (Value.int .i64) w blk off zs.toArray)(hsz:zs.length≤9223372036854775807)(hcap:zs.length≤cap) :
  Calls Tryz.prog 201 #[.slice (some ⟨blk,off,none⟩) zs.length cap] w fun e w'=>e=.returned (.slice (some ⟨blk,off,none⟩) (Lib.compact zs).length cap)∧∃ q,w'=putRow (Value.int .i64) (Sort.ahead w q) blk off (Lib.compact zs++List.replicate (zs.length-(Lib.compact zs).length) 0).toArray:=Any.slices_Compact_int Tryz.laysNm220 blk off cap zs w hH hsz hcap
open Go.RowKit Go.Lib Go.Sort in
theorem Tryz.slices_Compact_int_empty (a:Option Addr)(cap:Nat)(w:World) :
  Calls Tryz.prog 201 #[.slice a 0 cap] w fun e w'=>e=.returned (.slice a 0 cap)∧w'=w:=Any.slices_Compact_int_empty Tryz.laysNm220 a cap w
open Go.RowKit Go.Sort in
theorem Tryz.slices_Sort_string_none (p:Option Addr)(cap:Nat)(w:World) :
  Calls Tryz.prog 165 #[.slice p 0 cap] w fun e w'=>e=.returned (.tuple #[])∧w'=w:=Any.slices_Sort_string_none Tryz.lays190 p cap w
open Go.RowKit Go.Sort in
theorem Tryz.slices_Sort_int_none (p:Option Addr)(cap:Nat)(w:World) :
  Calls Tryz.prog 68 #[.slice p 0 cap] w fun e w'=>e=.returned (.tuple #[])∧w'=w:=Any.slices_Sort_int_none Tryz.lays189 p cap w
def Tryz.sortFlaw_ren:Go.Shelf.Ren:=⟨fun | 6=>114 | 15=>102 | 14=>157 | 28=>146 | 29=>147 | 20=>189 | 21=>190 | 22=>191 | 23=>192 | 24=>193 | 25=>194 | 26=>195 | 27=>196 | 46=>212 | 47=>181 | 48=>182 | 49=>213 | 50=>214 | 57=>229 | n=>n,fun | 22=>30 | 24=>97 | 25=>188 | 3=>3 | 39=>159 | 0=>0 | 53=>219 | 55=>221 | 4=>4 | 46=>212 | 45=>211 | 50=>76 | 5=>5 | 9=>9 | 66=>253 | 70=>256 | 76=>277 | 77=>152 | n=>n,fun | n=>n⟩
theorem Tryz.sortFlaw:Go.Proofs.SlLaysF0.n6 Tryz.prog Tryz.sortFlaw_ren:=⟨by kernel_rfl,⟨f114.name,by decide,func114.trans (congrArg some (by kernel_rfl))⟩,⟨f157.name,by decide,func157.trans (congrArg some (by kernel_rfl))⟩,func102.trans (congrArg some (by kernel_rfl)),⟨f189.name,by decide,func189.trans (congrArg some (by kernel_rfl))⟩,⟨f190.name,by decide,func190.trans (congrArg some (by kernel_rfl))⟩,⟨f191.name,by decide,func191.trans (congrArg some (by kernel_rfl))⟩,⟨f192.name,by decide,func192.trans (congrArg some (by kernel_rfl))⟩,⟨f193.name,by decide,func193.trans (congrArg some (by kernel_rfl))⟩,⟨f194.name,by decide,func194.trans (congrArg some (by kernel_rfl))⟩,⟨f195.name,by decide,func195.trans (congrArg some (by kernel_rfl))⟩,⟨f196.name,by decide,func196.trans (congrArg some (by kernel_rfl))⟩,func146.trans (congrArg some (by kernel_rfl)),func147.trans (congrArg some (by kernel_rfl)),⟨f212.name,by decide,func212.trans (congrArg some (by kernel_rfl))⟩,func181.trans (congrArg some (by kernel_rfl)),func182.trans (congrArg some (by kernel_rfl)),⟨f213.name,by decide,func213.trans (congrArg some (by kernel_rfl))⟩,⟨f214.name,by decide,func214.trans (congrArg some (by kernel_rfl))⟩,⟨f229.name,by decide,func229.trans (congrArg some (by kernel_rfl))⟩,underlying0,isAgg0,sizeOf0,zeroValue0,underlying3,isAgg3,sizeOf3,zeroValue3,underlying4,isAgg4,sizeOf4,zeroValue4,underlying5,isAgg5,sizeOf5,zeroValue5,underlying9,isAgg9,sizeOf9,zeroValue9,underlying30,isAgg30,sizeOf30,zeroValue30,underlying188,isAgg188,sizeOf188,zeroValue188,underlying159,isAgg159,sizeOf159,zeroValue159,underlying211,isAgg211,sizeOf211,zeroValue211,underlying212,isAgg212,sizeOf212,zeroValue212,underlying76,isAgg76,sizeOf76,zeroValue76,underlying219,isAgg219,sizeOf219,zeroValue219,underlying221,isAgg221,sizeOf221,zeroValue221,underlying253,isAgg253,sizeOf253,zeroValue253,underlying256,isAgg256,sizeOf256,zeroValue256,underlying277,isAgg277,sizeOf277,zeroValue277,underlying152,isAgg152,sizeOf152,zeroValue152⟩
def Tryz.delInts_ren:Go.Shelf.Ren:=⟨fun | 10=>125 | 6=>164 | n=>n,fun | 22=>42 | 23=>3 | 25=>173 | 3=>3 | 4=>4 | 0=>0 | n=>n,fun | n=>n⟩
theorem Tryz.delInts:Go.Proofs.SlLaysH.n10 Tryz.prog Tryz.delInts_ren:=⟨by kernel_rfl,⟨f164.name,by decide,func164.trans (congrArg some (by kernel_rfl))⟩,⟨f125.name,by decide,func125.trans (congrArg some (by kernel_rfl))⟩,underlying0,isAgg0,sizeOf0,zeroValue0,underlying3,isAgg3,sizeOf3,zeroValue3,underlying4,isAgg4,sizeOf4,zeroValue4,underlying42,isAgg42,sizeOf42,zeroValue42,isAgg3,sizeOf3,underlying173,isAgg173,sizeOf173,zeroValue173⟩
end Go.Proofs
