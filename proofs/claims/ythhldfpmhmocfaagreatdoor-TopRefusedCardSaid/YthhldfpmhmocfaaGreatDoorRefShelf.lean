/- The library's contracts, laid at this program. -/
import Derived.Shelf.Small.Bits
import Derived.Shelf.Small.Strs
import Derived.Shelf.Small.Wraps
import Derived.Shelf.Strconv.Atoi
import Derived.Shelf.Strconv.Itoa0
import Derived.Shelf.Strconv.Itoa1
import Derived.Shelf.LaysM
import Derived.Shelf.Strconv.Itoa2
import Derived.Shelf.Strconv.Itoa3
import Derived.Shelf.Strconv.AtoiErrFast
import Derived.Shelf.Strconv.ParseIntEmpty
import Derived.Shelf.Strconv.AtoiFail
import Derived.Shelf.Strconv.Clone
import Derived.Shelf.Strconv.SyntaxError
import Derived.Shelf.LaysC
import Derived.Shelf.Strconv.ToError
import Derived.Shelf.Strconv.Lower
import Derived.Shelf.Strconv.ParseUint10
import Derived.Shelf.Strconv.ParseUint10Empty
import Derived.Shelf.Strconv.ParseUint10Any
import Derived.Shelf.Strconv.ParseInt10
import Derived.Shelf.Strconv.AtoiLong
import Derived.Shelf.Strconv.AtoiInnerAll
import Derived.Shelf.Strconv.RangeError
import Derived.Shelf.Strconv.ToErrorRange
import Derived.Shelf.Strconv.AtoiAll
import Derived.Shelf.Strconv.ErrVarAll
import Derived.Shelf.Sort.Plain
import Derived.Shelf.Slices.Turned
import Derived.Shelf.Slices.Reverse
import Derived.Ground.Names2Prog
import Derived.Shelf.Slices.CompactI
import Derived.Shelf.Slices.In.SortNone
import Derived.Ground.SlgnProg
import Derived.Shelf.SlicesE.Equal
import Derived.Shelf.SlicesE.Compact
import Derived.Ground.SlgfProg
import Derived.Shelf.SlicesE.IndexFunc
import Derived.Shelf.SlicesE.DeleteFunc
import Derived.Ground.SlsfProg
import Derived.Shelf.SlSortCmp.WholeK
import Derived.Test.YthhldfpmhmocfaaGreatDoorProg
set_option linter.all false
set_option maxRecDepth 100000
namespace Go.Proofs
open Go.Shelf Tryz
def Tryz.lays125_ren:Go.Shelf.Ren:=⟨fun | 125=>120 | 128=>155 | 129=>156 | n=>n,fun | 46=>182 | 3=>3 | 51=>215 | 53=>217 | 4=>4 | 5=>5 | 9=>9 | n=>n,fun | n=>n⟩
theorem Tryz.lays125:Go.Proofs.Lays.n125 Tryz.prog Tryz.lays125_ren:=⟨by kernel_rfl,func120.trans (congrArg some (by kernel_rfl)),func155.trans (congrArg some (by kernel_rfl)),func156.trans (congrArg some (by kernel_rfl)),underlying3,isAgg3,sizeOf3,zeroValue3,underlying4,isAgg4,sizeOf4,zeroValue4,underlying5,isAgg5,sizeOf5,zeroValue5,underlying9,isAgg9,sizeOf9,zeroValue9,underlying182,isAgg182,sizeOf182,zeroValue182,underlying215,isAgg215,sizeOf215,zeroValue215,underlying217,isAgg217,sizeOf217,zeroValue217⟩
theorem Tryz.bits_Len (x:Int)(w:World)(h0:0≤x)(h1:x≤18446744073709551615) :
  Calls Tryz.prog 120 #[.int .u64 x] w fun e w'=>e=.returned (.int .i64 (Lib.bitLen x.toNat))∧w'=w:=Any.bits_Len Tryz.lays125 x w h0 h1
def Tryz.lays106_ren:Go.Shelf.Ren:=⟨fun | 106=>61 | 213=>103 | 265=>136 | n=>n,fun | 9=>9 | 3=>3 | n=>n,fun | n=>n⟩
theorem Tryz.lays106:Go.Proofs.Lays.n106 Tryz.prog Tryz.lays106_ren:=⟨by kernel_rfl,func61.trans (congrArg some (by kernel_rfl)),func103.trans (congrArg some (by kernel_rfl)),func136.trans (congrArg some (by kernel_rfl)),underlying3,isAgg3,sizeOf3,zeroValue3,underlying9,isAgg9,sizeOf9,zeroValue9⟩
open Go.RowKit in
theorem Tryz.strings_Compare (a b:ByteArray)(w:World) :
  Calls Tryz.prog 61 #[.string a,.string b] w fun e w'=>e=.returned (.int .i64 (Lib.compareBytes a.data.toList b.data.toList))∧w'=w:=Any.strings_Compare Tryz.lays106 a b w
def Tryz.lays122_ren:Go.Shelf.Ren:=⟨fun | 122=>78 | 215=>121 | n=>n,fun | 3=>3 | 4=>4 | n=>n,fun | n=>n⟩
theorem Tryz.lays122:Go.Proofs.Lays.n122 Tryz.prog Tryz.lays122_ren:=⟨by kernel_rfl,func78.trans (congrArg some (by kernel_rfl)),func121.trans (congrArg some (by kernel_rfl)),underlying3,isAgg3,sizeOf3,zeroValue3,underlying4,isAgg4,sizeOf4,zeroValue4⟩
open Go.RowKit in
theorem Tryz.cmp_Compare_int (x y:Int)(w:World) :
  Calls Tryz.prog 78 #[.int .i64 x,.int .i64 y] w fun e w'=>e=.returned (.int .i64 (Lib.compareInt x y))∧w'=w:=Any.cmp_Compare_int Tryz.lays122 x y w
def Tryz.laysM171_ren:Go.Shelf.Ren:=⟨fun | 171=>91 | 243=>129 | 246=>165 | 283=>201 | 284=>202 | 285=>203 | 286=>204 | 129=>156 | 317=>221 | 318=>222 | 319=>223 | 320=>224 | 337=>240 | 338=>241 | n=>n,fun | 3=>3 | 9=>9 | 2=>2 | 4=>4 | 171=>261 | 0=>0 | 53=>217 | 37=>149 | 5=>5 | 173=>263 | 212=>279 | 51=>215 | 20=>20 | 213=>280 | 46=>182 | 232=>300 | 233=>301 | n=>n,fun | 17=>4 | 18=>7 | 19=>8 | n=>n⟩
theorem Tryz.laysM171:Go.Proofs.LaysM.n171 Tryz.prog Tryz.laysM171_ren:={
 mixed:=by kernel_rfl
 f129:=func156.trans (congrArg some (by kernel_rfl))
 f171:=func91.trans (congrArg some (by kernel_rfl))
 f243:=func129.trans (congrArg some (by kernel_rfl))
 f246:=func165.trans (congrArg some (by kernel_rfl))
 f283:=func201.trans (congrArg some (by kernel_rfl))
 f284:=func202.trans (congrArg some (by kernel_rfl))
 f285:=func203.trans (congrArg some (by kernel_rfl))
 f286:=func204.trans (congrArg some (by kernel_rfl))
 f317:=func221.trans (congrArg some (by kernel_rfl))
 f318:=func222.trans (congrArg some (by kernel_rfl))
 f319:=func223.trans (congrArg some (by kernel_rfl))
 f320:=func224.trans (congrArg some (by kernel_rfl))
 f337:=func240.trans (congrArg some (by kernel_rfl))
 f338:=func241.trans (congrArg some (by kernel_rfl))
 t0:=underlying0
 a0:=isAgg0
 z0:=sizeOf0
 v0:=zeroValue0
 t2:=underlying2
 a2:=isAgg2
 z2:=sizeOf2
 v2:=zeroValue2
 t3:=underlying3
 a3:=isAgg3
 z3:=sizeOf3
 v3:=zeroValue3
 t4:=underlying4
 a4:=isAgg4
 z4:=sizeOf4
 v4:=zeroValue4
 t5:=underlying5
 a5:=isAgg5
 z5:=sizeOf5
 v5:=zeroValue5
 t9:=underlying9
 a9:=isAgg9
 z9:=sizeOf9
 v9:=zeroValue9
 t20:=underlying20
 a20:=isAgg20
 z20:=sizeOf20
 v20:=zeroValue20
 t37:=underlying149
 a37:=isAgg149
 z37:=sizeOf149
 v37:=zeroValue149
 t46:=underlying182
 a46:=isAgg182
 z46:=sizeOf182
 v46:=zeroValue182
 t51:=underlying215
 a51:=isAgg215
 z51:=sizeOf215
 v51:=zeroValue215
 t53:=underlying217
 a53:=isAgg217
 z53:=sizeOf217
 v53:=zeroValue217
 t171:=underlying261
 a171:=isAgg261
 z171:=sizeOf261
 v171:=zeroValue261
 t173:=underlying263
 a173:=isAgg263
 z173:=sizeOf263
 v173:=zeroValue263
 t212:=underlying279
 a212:=isAgg279
 z212:=sizeOf279
 v212:=zeroValue279
 t213:=underlying280
 a213:=isAgg280
 z213:=sizeOf280
 t232:=underlying300
 a232:=isAgg300
 z232:=sizeOf300
 v232:=zeroValue300
 t233:=underlying301
 a233:=isAgg301
 z233:=sizeOf301
 v233:=zeroValue301
 g17:=by kernel_rfl
 g18:=by kernel_rfl
 g19:=by kernel_rfl
 i0:=by kernel_rfl
 i2:=by kernel_rfl
 i3:=by kernel_rfl
 i4:=by kernel_rfl
 i5:=by kernel_rfl
 i9:=by kernel_rfl
 i20:=by kernel_rfl
 i37:=by kernel_rfl
 i46:=by kernel_rfl
 i51:=by kernel_rfl
 i53:=by kernel_rfl
 i171:=by kernel_rfl
 i173:=by kernel_rfl
 i212:=by kernel_rfl
 i232:=by kernel_rfl
 i233:=by kernel_rfl
 m17:=by kernel_rfl
 m18:=by kernel_rfl
 m19:=by kernel_rfl }
open Go.RowKit Go.Sort Go.Lib in
theorem Tryz.strconv_Itoa (n:Int) (h0 : -9223372036854775808≤n) (h1:n≤9223372036854775807) (w:World) (htab:Lib.TabIs Tryz.prog w "internal/strconv.uint64pow10" .u64 Lib.pow10Tab) :
  Calls Tryz.prog 91 #[.int .i64 n] w fun e w'=>e=.returned (.string ⟨(Lib.itoa n).toArray⟩)∧∃ k os,w'=grow (w.drewN k) os:=Any.strconv_Itoa Tryz.laysM171 n h0 h1 w htab
def Tryz.laysC172_ren:Go.Shelf.Ren:=⟨fun | 172=>130 | 244=>166 | 245=>167 | 247=>205 | 279=>206 | 280=>207 | 281=>208 | 282=>209 | 287=>225 | 316=>226 | 171=>91 | 205=>227 | 321=>242 | 322=>243 | 243=>129 | 246=>165 | 283=>201 | 284=>202 | 285=>203 | 286=>204 | 129=>156 | 317=>221 | 318=>222 | 319=>223 | 320=>224 | 337=>240 | 338=>241 | n=>n,fun | 9=>9 | 3=>3 | 75=>153 | 76=>154 | 4=>4 | 5=>5 | 167=>265 | 37=>149 | 0=>0 | 85=>266 | 2=>2 | 168=>268 | 53=>217 | 175=>281 | 46=>182 | 210=>285 | 127=>189 | 145=>297 | 143=>295 | 21=>21 | 171=>261 | 173=>263 | 212=>279 | 51=>215 | 20=>20 | 213=>280 | 232=>300 | 233=>301 | 80=>108 | n=>n,fun | 15=>5 | 16=>6 | 17=>4 | 18=>7 | 19=>8 | n=>n⟩
theorem Tryz.laysC172:Go.Proofs.LaysC.n172 Tryz.prog Tryz.laysC172_ren:={
 mixed:=by kernel_rfl
 f129:=func156.trans (congrArg some (by kernel_rfl))
 f171:=func91.trans (congrArg some (by kernel_rfl))
 f172:=func130.trans (congrArg some (by kernel_rfl))
 f205:=func227.trans (congrArg some (by kernel_rfl))
 f243:=func129.trans (congrArg some (by kernel_rfl))
 f244:=func166.trans (congrArg some (by kernel_rfl))
 f245:=func167.trans (congrArg some (by kernel_rfl))
 f246:=func165.trans (congrArg some (by kernel_rfl))
 f247:=func205.trans (congrArg some (by kernel_rfl))
 f279:=func206.trans (congrArg some (by kernel_rfl))
 f280:=func207.trans (congrArg some (by kernel_rfl))
 f281:=func208.trans (congrArg some (by kernel_rfl))
 f282:=func209.trans (congrArg some (by kernel_rfl))
 f283:=func201.trans (congrArg some (by kernel_rfl))
 f284:=func202.trans (congrArg some (by kernel_rfl))
 f285:=func203.trans (congrArg some (by kernel_rfl))
 f286:=func204.trans (congrArg some (by kernel_rfl))
 f287:=func225.trans (congrArg some (by kernel_rfl))
 f316:=func226.trans (congrArg some (by kernel_rfl))
 f317:=func221.trans (congrArg some (by kernel_rfl))
 f318:=func222.trans (congrArg some (by kernel_rfl))
 f319:=func223.trans (congrArg some (by kernel_rfl))
 f320:=func224.trans (congrArg some (by kernel_rfl))
 f321:=func242.trans (congrArg some (by kernel_rfl))
 f322:=func243.trans (congrArg some (by kernel_rfl))
 f337:=func240.trans (congrArg some (by kernel_rfl))
 f338:=func241.trans (congrArg some (by kernel_rfl))
 t0:=underlying0
 a0:=isAgg0
 z0:=sizeOf0
 v0:=zeroValue0
 t2:=underlying2
 a2:=isAgg2
 z2:=sizeOf2
 v2:=zeroValue2
 t3:=underlying3
 a3:=isAgg3
 z3:=sizeOf3
 v3:=zeroValue3
 t4:=underlying4
 a4:=isAgg4
 z4:=sizeOf4
 v4:=zeroValue4
 t5:=underlying5
 a5:=isAgg5
 z5:=sizeOf5
 v5:=zeroValue5
 t9:=underlying9
 a9:=isAgg9
 z9:=sizeOf9
 v9:=zeroValue9
 t20:=underlying20
 a20:=isAgg20
 z20:=sizeOf20
 v20:=zeroValue20
 t21:=underlying21
 a21:=isAgg21
 z21:=sizeOf21
 v21:=zeroValue21
 t37:=underlying149
 a37:=isAgg149
 z37:=sizeOf149
 v37:=zeroValue149
 t46:=underlying182
 a46:=isAgg182
 z46:=sizeOf182
 v46:=zeroValue182
 t51:=underlying215
 a51:=isAgg215
 z51:=sizeOf215
 v51:=zeroValue215
 t53:=underlying217
 a53:=isAgg217
 z53:=sizeOf217
 v53:=zeroValue217
 t75:=underlying153
 a75:=isAgg153
 z75:=sizeOf153
 v75:=zeroValue153
 t76:=underlying154
 a76:=isAgg154
 z76:=sizeOf154
 v76:=zeroValue154
 t85:=underlying266
 a85:=isAgg266
 z85:=sizeOf266
 v85:=zeroValue266
 t127:=underlying189
 a127:=isAgg189
 z127:=sizeOf189
 v127:=zeroValue189
 t143:=underlying295
 a143:=isAgg295
 z143:=sizeOf295
 v143:=zeroValue295
 t145:=underlying297
 a145:=isAgg297
 z145:=sizeOf297
 v145:=zeroValue297
 t167:=underlying265
 a167:=isAgg265
 z167:=sizeOf265
 v167:=zeroValue265
 t168:=underlying268
 a168:=isAgg268
 z168:=sizeOf268
 v168:=zeroValue268
 t171:=underlying261
 a171:=isAgg261
 z171:=sizeOf261
 v171:=zeroValue261
 t173:=underlying263
 a173:=isAgg263
 z173:=sizeOf263
 v173:=zeroValue263
 t175:=underlying281
 a175:=isAgg281
 z175:=sizeOf281
 v175:=zeroValue281
 t210:=underlying285
 a210:=isAgg285
 z210:=sizeOf285
 v210:=zeroValue285
 t212:=underlying279
 a212:=isAgg279
 z212:=sizeOf279
 v212:=zeroValue279
 t213:=underlying280
 a213:=isAgg280
 z213:=sizeOf280
 t232:=underlying300
 a232:=isAgg300
 z232:=sizeOf300
 v232:=zeroValue300
 t233:=underlying301
 a233:=isAgg301
 z233:=sizeOf301
 v233:=zeroValue301
 g15:=by kernel_rfl
 g16:=by kernel_rfl
 g17:=by kernel_rfl
 g18:=by kernel_rfl
 g19:=by kernel_rfl
 t80:=underlying108
 a80:=isAgg108
 z80:=sizeOf108
 v80:=zeroValue108
 i0:=by kernel_rfl
 i2:=by kernel_rfl
 i3:=by kernel_rfl
 i4:=by kernel_rfl
 i5:=by kernel_rfl
 i9:=by kernel_rfl
 i20:=by kernel_rfl
 i21:=by kernel_rfl
 i37:=by kernel_rfl
 i46:=by kernel_rfl
 i51:=by kernel_rfl
 i53:=by kernel_rfl
 i75:=by kernel_rfl
 i76:=by kernel_rfl
 i80:=by kernel_rfl
 i85:=by kernel_rfl
 i127:=by kernel_rfl
 i143:=by kernel_rfl
 i145:=by kernel_rfl
 i167:=by kernel_rfl
 i168:=by kernel_rfl
 i171:=by kernel_rfl
 i173:=by kernel_rfl
 i175:=by kernel_rfl
 i210:=by kernel_rfl
 i212:=by kernel_rfl
 i232:=by kernel_rfl
 i233:=by kernel_rfl
 m15:=by kernel_rfl
 m16:=by kernel_rfl
 m17:=by kernel_rfl
 m18:=by kernel_rfl
 m19:=by kernel_rfl
 c0:=by kernel_rfl
 c2:=by kernel_rfl
 c3:=by kernel_rfl
 c4:=by kernel_rfl
 c5:=by kernel_rfl
 c9:=by kernel_rfl
 c20:=by kernel_rfl
 c21:=by kernel_rfl
 c37:=by kernel_rfl
 c46:=by kernel_rfl
 c51:=by kernel_rfl
 c53:=by kernel_rfl
 c75:=by kernel_rfl
 c76:=by kernel_rfl
 c80:=by kernel_rfl
 c85:=by kernel_rfl
 c127:=by kernel_rfl
 c143:=by kernel_rfl
 c145:=by kernel_rfl
 c167:=by kernel_rfl
 c168:=by kernel_rfl
 c171:=by kernel_rfl
 c173:=by kernel_rfl
 c175:=by kernel_rfl
 c210:=by kernel_rfl
 c212:=by kernel_rfl
 c213:=by kernel_rfl
 c232:=by kernel_rfl
 c233:=by kernel_rfl }
open Go.RowKit in
theorem Tryz.strconv_Atoi_ok (s:ByteArray)(hmax:s.size≤9223372036854775806)(v:Int)(h:Lib.atoiAll s.data.toList=.ok v)(w:World) :
  Calls Tryz.prog 130 #[.string s] w fun e w'=>e=.returned (.tuple #[.int .i64 v,.nilIface])∧(w'=w∨∃ t,w'=Lib.bytesWorld w 5 t):=Any.strconv_Atoi_ok Tryz.laysC172 s hmax v h w
open Go.RowKit in
theorem Tryz.strconv_Atoi_syntax (s:ByteArray)(hlim:s.size≤281474976710656)(h:Lib.atoiAll s.data.toList=Lib.NumEnd.syntax)(ev:Value)(w:World)(hv:w.cell? ⟨5,0,none⟩=some ev)(hev:ev=.nilIface∨∃ te pe,ev=.iface te pe) :
  Calls Tryz.prog 130 #[.string s] w fun e w'=>∃ N,e=.returned (.tuple #[.int .i64 (0),.iface 268 (.pointer (some ⟨N,0,none⟩))])∧w.heap.size≤N∧w'.heap[N]? = some (.cells #[.string ⟨#[65,116,111,105]⟩,.string s,ev] 285 (0,0))∧Below w.heap.size w w':=Any.strconv_Atoi_syntax Tryz.laysC172 s hlim h ev w hv hev
open Go.RowKit in
theorem Tryz.strconv_Atoi_range (s:ByteArray)(hlim:s.size≤281474976710656)(h:Lib.atoiAll s.data.toList=.range)(ev:Value)(w:World)(hv:w.cell? ⟨6,0,none⟩=some ev)(hev:ev=.nilIface∨∃ te pe,ev=.iface te pe) :
  Calls Tryz.prog 130 #[.string s] w fun e w'=>∃ N,e=.returned (.tuple #[.int .i64 (Lib.atoiSat s.data.toList),.iface 268 (.pointer (some ⟨N,0,none⟩))])∧w.heap.size≤N∧w'.heap[N]? = some (.cells #[.string ⟨#[65,116,111,105]⟩,.string s,ev] 285 (0,0))∧Below w.heap.size w w':=Any.strconv_Atoi_range Tryz.laysC172 s hlim h ev w hv hev
def Tryz.lays189_ren:Go.Shelf.Ren:=⟨fun | 189=>99 | 125=>120 | 257=>132 | 128=>155 | 129=>156 | 294=>170 | 295=>171 | 296=>172 | 297=>173 | 298=>174 | 299=>175 | 216=>176 | 300=>177 | 301=>178 | 328=>211 | 329=>190 | 330=>191 | 331=>212 | 332=>213 | 215=>121 | 343=>229 | n=>n,fun | 28=>43 | 3=>3 | 46=>182 | 0=>0 | 51=>215 | 53=>217 | 4=>4 | 183=>209 | 182=>208 | 131=>98 | 5=>5 | 9=>9 | 218=>250 | 222=>253 | 228=>275 | 229=>172 | n=>n,fun | n=>n⟩
theorem Tryz.lays189:Go.Proofs.Lays.n189 Tryz.prog Tryz.lays189_ren:=⟨by kernel_rfl,func120.trans (congrArg some (by kernel_rfl)),func155.trans (congrArg some (by kernel_rfl)),func156.trans (congrArg some (by kernel_rfl)),func99.trans (congrArg some (by kernel_rfl)),func121.trans (congrArg some (by kernel_rfl)),func176.trans (congrArg some (by kernel_rfl)),func132.trans (congrArg some (by kernel_rfl)),func170.trans (congrArg some (by kernel_rfl)),func171.trans (congrArg some (by kernel_rfl)),func172.trans (congrArg some (by kernel_rfl)),func173.trans (congrArg some (by kernel_rfl)),func174.trans (congrArg some (by kernel_rfl)),func175.trans (congrArg some (by kernel_rfl)),func177.trans (congrArg some (by kernel_rfl)),func178.trans (congrArg some (by kernel_rfl)),func211.trans (congrArg some (by kernel_rfl)),func190.trans (congrArg some (by kernel_rfl)),func191.trans (congrArg some (by kernel_rfl)),func212.trans (congrArg some (by kernel_rfl)),func213.trans (congrArg some (by kernel_rfl)),func229.trans (congrArg some (by kernel_rfl)),underlying0,isAgg0,sizeOf0,zeroValue0,underlying3,isAgg3,sizeOf3,zeroValue3,underlying4,isAgg4,sizeOf4,zeroValue4,underlying5,isAgg5,sizeOf5,zeroValue5,underlying9,isAgg9,sizeOf9,zeroValue9,underlying43,isAgg43,sizeOf43,zeroValue43,underlying182,isAgg182,sizeOf182,zeroValue182,underlying215,isAgg215,sizeOf215,zeroValue215,underlying217,isAgg217,sizeOf217,zeroValue217,underlying98,isAgg98,sizeOf98,zeroValue98,underlying208,isAgg208,sizeOf208,zeroValue208,underlying209,isAgg209,sizeOf209,zeroValue209,underlying250,isAgg250,sizeOf250,zeroValue250,underlying253,isAgg253,sizeOf253,zeroValue253,underlying275,isAgg275,sizeOf275,zeroValue275,underlying172,isAgg172,sizeOf172,zeroValue172⟩
open Go.Sort Go.RowKit in
theorem Tryz.slices_Sort_int (blk off cap:Nat)(zs:List Int)(w:World)(hH:Holds (Value.int .i64) w blk off zs.toArray)(hblk:blk<w.heap.size)(hsz:zs.length<4611686018427387904) :
  Calls Tryz.prog 99 #[.slice (some ⟨blk,off,none⟩) zs.length cap] w fun e w' =>
   e=.returned (.tuple #[])∧∃ n os,w'=grow (putRow (Value.int .i64) (Sort.ahead w n) blk off (zs.mergeSort fun x y=>decide (x≤y)).toArray) os:=Any.slices_Sort_int Tryz.lays189 blk off cap zs w hH hblk hsz
def Tryz.lays190_ren:Go.Shelf.Ren:=⟨fun | 190=>196 | 125=>120 | 258=>219 | 128=>155 | 129=>156 | 302=>231 | 303=>232 | 304=>233 | 305=>234 | 306=>235 | 307=>236 | 308=>237 | 309=>238 | 310=>239 | 333=>244 | 329=>190 | 330=>191 | 334=>245 | 335=>246 | 336=>247 | 344=>248 | n=>n,fun | 31=>88 | 9=>9 | 3=>3 | 46=>182 | 0=>0 | 51=>215 | 53=>217 | 4=>4 | 183=>209 | 182=>208 | 131=>98 | 5=>5 | 218=>250 | 222=>253 | 228=>275 | 229=>172 | n=>n,fun | n=>n⟩
theorem Tryz.lays190:Go.Proofs.Lays.n190 Tryz.prog Tryz.lays190_ren:=⟨by kernel_rfl,func120.trans (congrArg some (by kernel_rfl)),func155.trans (congrArg some (by kernel_rfl)),func156.trans (congrArg some (by kernel_rfl)),func196.trans (congrArg some (by kernel_rfl)),func219.trans (congrArg some (by kernel_rfl)),func231.trans (congrArg some (by kernel_rfl)),func232.trans (congrArg some (by kernel_rfl)),func233.trans (congrArg some (by kernel_rfl)),func234.trans (congrArg some (by kernel_rfl)),func235.trans (congrArg some (by kernel_rfl)),func236.trans (congrArg some (by kernel_rfl)),func237.trans (congrArg some (by kernel_rfl)),func238.trans (congrArg some (by kernel_rfl)),func239.trans (congrArg some (by kernel_rfl)),func190.trans (congrArg some (by kernel_rfl)),func191.trans (congrArg some (by kernel_rfl)),func244.trans (congrArg some (by kernel_rfl)),func245.trans (congrArg some (by kernel_rfl)),func246.trans (congrArg some (by kernel_rfl)),func247.trans (congrArg some (by kernel_rfl)),func248.trans (congrArg some (by kernel_rfl)),underlying0,isAgg0,sizeOf0,zeroValue0,underlying3,isAgg3,sizeOf3,zeroValue3,underlying4,isAgg4,sizeOf4,zeroValue4,underlying5,isAgg5,sizeOf5,zeroValue5,underlying9,isAgg9,sizeOf9,zeroValue9,underlying88,isAgg88,sizeOf88,zeroValue88,underlying182,isAgg182,sizeOf182,zeroValue182,underlying215,isAgg215,sizeOf215,zeroValue215,underlying217,isAgg217,sizeOf217,zeroValue217,underlying98,isAgg98,sizeOf98,zeroValue98,underlying208,isAgg208,sizeOf208,zeroValue208,underlying209,isAgg209,sizeOf209,zeroValue209,underlying250,isAgg250,sizeOf250,zeroValue250,underlying253,isAgg253,sizeOf253,zeroValue253,underlying275,isAgg275,sizeOf275,zeroValue275,underlying172,isAgg172,sizeOf172,zeroValue172⟩
open Go.Sort Go.RowKit in
theorem Tryz.slices_Sort_string (blk off cap:Nat)(ss:List (List UInt8))(w:World)(hH:Holds encStr w blk off ss.toArray)(hblk:blk<w.heap.size)(hsz:ss.length<4611686018427387904) :
  Calls Tryz.prog 196 #[.slice (some ⟨blk,off,none⟩) ss.length cap] w fun e w' =>
   e=.returned (.tuple #[])∧∃ n os,w'=grow (putRow encStr (Sort.ahead w n) blk off (ss.mergeSort fun x y=>decide (x≤y)).toArray) os:=Any.slices_Sort_string Tryz.lays190 blk off cap ss w hH hblk hsz
def Tryz.lays112_ren:Go.Shelf.Ren:=⟨fun | 112=>44 | n=>n,fun | 28=>43 | 3=>3 | 4=>4 | 0=>0 | n=>n,fun | n=>n⟩
theorem Tryz.lays112:Go.Proofs.Lays.n112 Tryz.prog Tryz.lays112_ren:=⟨by kernel_rfl,func44.trans (congrArg some (by kernel_rfl)),underlying0,isAgg0,sizeOf0,zeroValue0,underlying3,isAgg3,sizeOf3,zeroValue3,underlying4,isAgg4,sizeOf4,zeroValue4,underlying43,isAgg43,sizeOf43,zeroValue43⟩
open Go.RowKit Go.Lib Go.Sort in
theorem Tryz.slices_Reverse_int (blk off cap:Nat)(zs:List Int)(w:World)(hH:Holds (Value.int .i64) w blk off zs.toArray)(hsz:zs.length≤9223372036854775807) :
  Calls Tryz.prog 44 #[.slice (some ⟨blk,off,none⟩) zs.length cap] w fun e w'=>e=.returned (.tuple #[])∧∃ n,w'=putRow (Value.int .i64) (Sort.ahead w n) blk off zs.reverse.toArray:=Any.slices_Reverse_int Tryz.lays112 blk off cap zs w hH hsz
open Go.RowKit Go.Lib Go.Sort in
theorem Tryz.slices_Reverse_int_empty (a:Option Addr)(cap:Nat)(w:World) :
  Calls Tryz.prog 44 #[.slice a 0 cap] w fun e w'=>e=.returned (.tuple #[])∧w'=w:=Any.slices_Reverse_int_empty Tryz.lays112 a cap w
def Tryz.laysNm220_ren:Go.Shelf.Ren:=⟨fun | 20=>220 | n=>n,fun | 22=>43 | 3=>3 | 4=>4 | 0=>0 | n=>n,fun | n=>n⟩
theorem Tryz.laysNm220:Go.Proofs.Lays2.n20 Tryz.prog Tryz.laysNm220_ren:=⟨by kernel_rfl,func220.trans (congrArg some (by kernel_rfl)),underlying0,isAgg0,sizeOf0,zeroValue0,underlying3,isAgg3,sizeOf3,zeroValue3,underlying4,isAgg4,sizeOf4,zeroValue4,underlying43,isAgg43,sizeOf43,zeroValue43,by kernel_rfl⟩
open Go.RowKit Go.Lib Go.Sort in
theorem Tryz.slices_Compact_int (blk off cap:Nat)(zs:List Int)(w:World)(hH:Holds (Value.int .i64) w blk off zs.toArray)(hsz:zs.length≤9223372036854775807)(hcap:zs.length≤cap) :
  Calls Tryz.prog 220 #[.slice (some ⟨blk,off,none⟩) zs.length cap] w fun e w'=>e=.returned (.slice (some ⟨blk,off,none⟩) (Lib.compact zs).length cap)∧∃ q,w'=putRow (Value.int .i64) (Sort.ahead w q) blk off (Lib.compact zs++List.replicate (zs.length-(Lib.compact zs).length) 0).toArray:=Any.slices_Compact_int Tryz.laysNm220 blk off cap zs w hH hsz hcap
open Go.RowKit Go.Lib Go.Sort in
theorem Tryz.slices_Compact_int_empty (a:Option Addr)(cap:Nat)(w:World) :
  Calls Tryz.prog 220 #[.slice a 0 cap] w fun e w'=>e=.returned (.slice a 0 cap)∧w'=w:=Any.slices_Compact_int_empty Tryz.laysNm220 a cap w
open Go.RowKit Go.Sort in
theorem Tryz.slices_Sort_string_none (p:Option Addr)(cap:Nat)(w:World) :
  Calls Tryz.prog 196 #[.slice p 0 cap] w fun e w'=>e=.returned (.tuple #[])∧w'=w:=Any.slices_Sort_string_none Tryz.lays190 p cap w
open Go.RowKit Go.Sort in
theorem Tryz.slices_Sort_int_none (p:Option Addr)(cap:Nat)(w:World) :
  Calls Tryz.prog 99 #[.slice p 0 cap] w fun e w'=>e=.returned (.tuple #[])∧w'=w:=Any.slices_Sort_int_none Tryz.lays189 p cap w
def Tryz.sortFlaw_ren:Go.Shelf.Ren:=⟨fun | 6=>75 | 15=>120 | 14=>119 | 28=>155 | 29=>156 | 20=>147 | 21=>148 | 22=>149 | 23=>150 | 24=>151 | 25=>152 | 26=>153 | 27=>154 | 46=>189 | 47=>190 | 48=>191 | 49=>192 | 50=>193 | 57=>218 | n=>n,fun | 22=>30 | 24=>92 | 25=>135 | 3=>3 | 39=>182 | 0=>0 | 53=>215 | 55=>217 | 4=>4 | 46=>209 | 45=>208 | 50=>98 | 5=>5 | 9=>9 | 66=>250 | 70=>253 | 76=>275 | 77=>172 | n=>n,fun | n=>n⟩
theorem Tryz.sortFlaw:Go.Proofs.SlLaysF0.n6 Tryz.prog Tryz.sortFlaw_ren:=⟨by kernel_rfl,⟨f75.name,by decide,func75.trans (congrArg some (by kernel_rfl))⟩,⟨f119.name,by decide,func119.trans (congrArg some (by kernel_rfl))⟩,func120.trans (congrArg some (by kernel_rfl)),⟨f147.name,by decide,func147.trans (congrArg some (by kernel_rfl))⟩,⟨f148.name,by decide,func148.trans (congrArg some (by kernel_rfl))⟩,⟨f149.name,by decide,func149.trans (congrArg some (by kernel_rfl))⟩,⟨f150.name,by decide,func150.trans (congrArg some (by kernel_rfl))⟩,⟨f151.name,by decide,func151.trans (congrArg some (by kernel_rfl))⟩,⟨f152.name,by decide,func152.trans (congrArg some (by kernel_rfl))⟩,⟨f153.name,by decide,func153.trans (congrArg some (by kernel_rfl))⟩,⟨f154.name,by decide,func154.trans (congrArg some (by kernel_rfl))⟩,func155.trans (congrArg some (by kernel_rfl)),func156.trans (congrArg some (by kernel_rfl)),⟨f189.name,by decide,func189.trans (congrArg some (by kernel_rfl))⟩,func190.trans (congrArg some (by kernel_rfl)),func191.trans (congrArg some (by kernel_rfl)),⟨f192.name,by decide,func192.trans (congrArg some (by kernel_rfl))⟩,⟨f193.name,by decide,func193.trans (congrArg some (by kernel_rfl))⟩,⟨f218.name,by decide,func218.trans (congrArg some (by kernel_rfl))⟩,underlying0,isAgg0,sizeOf0,zeroValue0,underlying3,isAgg3,sizeOf3,zeroValue3,underlying4,isAgg4,sizeOf4,zeroValue4,underlying5,isAgg5,sizeOf5,zeroValue5,underlying9,isAgg9,sizeOf9,zeroValue9,underlying30,isAgg30,sizeOf30,zeroValue30,underlying135,isAgg135,sizeOf135,zeroValue135,underlying182,isAgg182,sizeOf182,zeroValue182,underlying208,isAgg208,sizeOf208,zeroValue208,underlying209,isAgg209,sizeOf209,zeroValue209,underlying98,isAgg98,sizeOf98,zeroValue98,underlying215,isAgg215,sizeOf215,zeroValue215,underlying217,isAgg217,sizeOf217,zeroValue217,underlying250,isAgg250,sizeOf250,zeroValue250,underlying253,isAgg253,sizeOf253,zeroValue253,underlying275,isAgg275,sizeOf275,zeroValue275,underlying172,isAgg172,sizeOf172,zeroValue172⟩
def Tryz.delInts_ren:Go.Shelf.Ren:=⟨fun | 10=>158 | 6=>195 | n=>n,fun | 22=>43 | 23=>3 | 25=>138 | 3=>3 | 4=>4 | 0=>0 | n=>n,fun | n=>n⟩
theorem Tryz.delInts:Go.Proofs.SlLaysH.n10 Tryz.prog Tryz.delInts_ren:=⟨by kernel_rfl,⟨f195.name,by decide,func195.trans (congrArg some (by kernel_rfl))⟩,⟨f158.name,by decide,func158.trans (congrArg some (by kernel_rfl))⟩,underlying0,isAgg0,sizeOf0,zeroValue0,underlying3,isAgg3,sizeOf3,zeroValue3,underlying4,isAgg4,sizeOf4,zeroValue4,underlying43,isAgg43,sizeOf43,zeroValue43,isAgg3,sizeOf3,underlying138,isAgg138,sizeOf138,zeroValue138⟩
end Go.Proofs
