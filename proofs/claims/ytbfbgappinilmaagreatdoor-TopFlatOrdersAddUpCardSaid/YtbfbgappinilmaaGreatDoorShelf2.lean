/- The library contracts that are wanted here, laid at this dump by the kit's tool. -/
import Derived.Shelf.Strings.Builder1
import Derived.Shelf.Strings.Builder2
import Derived.Shelf.Strings.Trim
import Derived.Shelf.Small.Utf8
import Derived.Shelf.Small.Strs
import Derived.Shelf.Small.Wraps
import Derived.Shelf.Strings.BuilderF
import Derived.Shelf.Strings.BuilderK
import Derived.Shelf.Utf8.RuneCount
import Derived.Shelf.Strconv.Atoi
import Derived.Shelf.Strconv.Itoa0
import Derived.Shelf.Strconv.Itoa1
import Derived.Shelf.LaysM
import Derived.Shelf.Strconv.Itoa2
import Derived.Shelf.Strconv.Itoa3
import Derived.Shelf.Strings.Search1
import Derived.Shelf.Strings.Search2
import Derived.Shelf.Strings.Search3
import Derived.Shelf.Strings.Cut
import Derived.Shelf.Strings.Count
import Derived.Shelf.Strings.Shaped
import Derived.Shelf.Strings.Prefix
import Derived.Shelf.Strings.Split
import Derived.Shelf.Strings.Replace
import Derived.Shelf.Strings.SplitShaped
import Derived.Shelf.Unicode.Decode
import Derived.Shelf.Strings.Runes
import Derived.Shelf.Strings.RuneCount
import Derived.Shelf.Strings.AsciiSet
import Derived.Shelf.Bits.Mul64
import Derived.Shelf.Strings.Repeat
import Derived.Shelf.Unicode.DecodeSlow
import Derived.Shelf.Unicode.DecodeAny
import Derived.Shelf.Unicode.DecodeLast
import Derived.Ground.Names2Prog
import Derived.Shelf.Slices.Clone
import Derived.Ground.SlgnProg
import Derived.Shelf.SlicesE.Clone
import Derived.Test.YtbfbgappinilmaaGreatDoorProg
namespace Go.Proofs
open Go.Shelf
def Tryz.lays172_ren:Go.Shelf.Ren:=⟨fun | 172=>192 | 244=>194 | 245=>195 | 247=>196 | 279=>197 | 280=>198 | 281=>199 | 282=>200 | 287=>201 | 316=>202 | 171=>19 | 205=>203 | 321=>204 | 322=>205 | 243=>59 | 246=>101 | 283=>134 | 284=>135 | 285=>136 | 286=>137 | 129=>163 | 317=>162 | 318=>164 | 319=>165 | 320=>166 | 337=>182 | 338=>183 | n=>n,fun | 9=>9 | 3=>3 | 75=>98 | 76=>99 | 4=>4 | 5=>5 | 167=>231 | 37=>93 | 0=>0 | 85=>232 | 2=>2 | 168=>234 | 53=>125 | 175=>237 | 46=>128 | 210=>241 | 127=>142 | 145=>246 | 143=>244 | 21=>21 | 171=>182 | 173=>185 | 212=>202 | 51=>127 | 20=>20 | 213=>203 | 232=>227 | 233=>228 | 80=>76 | n=>n,fun | 15=>7 | 16=>8 | 17=>2 | 18=>5 | 19=>6 | n=>n⟩
theorem Tryz.lays172:Go.Proofs.Lays.n172 Tryz.prog Tryz.lays172_ren:={
  mixed:=by kernel_rfl
  f129:=Tryz.func163.trans (congrArg some (by kernel_rfl))
  f171:=Tryz.func19.trans (congrArg some (by kernel_rfl))
  f172:=Tryz.func192.trans (congrArg some (by kernel_rfl))
  f205:=Tryz.func203.trans (congrArg some (by kernel_rfl))
  f243:=Tryz.func59.trans (congrArg some (by kernel_rfl))
  f244:=Tryz.func194.trans (congrArg some (by kernel_rfl))
  f245:=Tryz.func195.trans (congrArg some (by kernel_rfl))
  f246:=Tryz.func101.trans (congrArg some (by kernel_rfl))
  f247:=Tryz.func196.trans (congrArg some (by kernel_rfl))
  f279:=Tryz.func197.trans (congrArg some (by kernel_rfl))
  f280:=Tryz.func198.trans (congrArg some (by kernel_rfl))
  f281:=Tryz.func199.trans (congrArg some (by kernel_rfl))
  f282:=Tryz.func200.trans (congrArg some (by kernel_rfl))
  f283:=Tryz.func134.trans (congrArg some (by kernel_rfl))
  f284:=Tryz.func135.trans (congrArg some (by kernel_rfl))
  f285:=Tryz.func136.trans (congrArg some (by kernel_rfl))
  f286:=Tryz.func137.trans (congrArg some (by kernel_rfl))
  f287:=Tryz.func201.trans (congrArg some (by kernel_rfl))
  f316:=Tryz.func202.trans (congrArg some (by kernel_rfl))
  f317:=Tryz.func162.trans (congrArg some (by kernel_rfl))
  f318:=Tryz.func164.trans (congrArg some (by kernel_rfl))
  f319:=Tryz.func165.trans (congrArg some (by kernel_rfl))
  f320:=Tryz.func166.trans (congrArg some (by kernel_rfl))
  f321:=Tryz.func204.trans (congrArg some (by kernel_rfl))
  f322:=Tryz.func205.trans (congrArg some (by kernel_rfl))
  f337:=Tryz.func182.trans (congrArg some (by kernel_rfl))
  f338:=Tryz.func183.trans (congrArg some (by kernel_rfl))
  t0:=Tryz.underlying0
  a0:=Tryz.isAgg0
  z0:=Tryz.sizeOf0
  v0:=Tryz.zeroValue0
  t2:=Tryz.underlying2
  a2:=Tryz.isAgg2
  z2:=Tryz.sizeOf2
  v2:=Tryz.zeroValue2
  t3:=Tryz.underlying3
  a3:=Tryz.isAgg3
  z3:=Tryz.sizeOf3
  v3:=Tryz.zeroValue3
  t4:=Tryz.underlying4
  a4:=Tryz.isAgg4
  z4:=Tryz.sizeOf4
  v4:=Tryz.zeroValue4
  t5:=Tryz.underlying5
  a5:=Tryz.isAgg5
  z5:=Tryz.sizeOf5
  v5:=Tryz.zeroValue5
  t9:=Tryz.underlying9
  a9:=Tryz.isAgg9
  z9:=Tryz.sizeOf9
  v9:=Tryz.zeroValue9
  t20:=Tryz.underlying20
  a20:=Tryz.isAgg20
  z20:=Tryz.sizeOf20
  v20:=Tryz.zeroValue20
  t21:=Tryz.underlying21
  a21:=Tryz.isAgg21
  z21:=Tryz.sizeOf21
  v21:=Tryz.zeroValue21
  t37:=Tryz.underlying93
  a37:=Tryz.isAgg93
  z37:=Tryz.sizeOf93
  v37:=Tryz.zeroValue93
  t46:=Tryz.underlying128
  a46:=Tryz.isAgg128
  z46:=Tryz.sizeOf128
  v46:=Tryz.zeroValue128
  t51:=Tryz.underlying127
  a51:=Tryz.isAgg127
  z51:=Tryz.sizeOf127
  v51:=Tryz.zeroValue127
  t53:=Tryz.underlying125
  a53:=Tryz.isAgg125
  z53:=Tryz.sizeOf125
  v53:=Tryz.zeroValue125
  t75:=Tryz.underlying98
  a75:=Tryz.isAgg98
  z75:=Tryz.sizeOf98
  v75:=Tryz.zeroValue98
  t76:=Tryz.underlying99
  a76:=Tryz.isAgg99
  z76:=Tryz.sizeOf99
  v76:=Tryz.zeroValue99
  t85:=Tryz.underlying232
  a85:=Tryz.isAgg232
  z85:=Tryz.sizeOf232
  v85:=Tryz.zeroValue232
  t127:=Tryz.underlying142
  a127:=Tryz.isAgg142
  z127:=Tryz.sizeOf142
  v127:=Tryz.zeroValue142
  t143:=Tryz.underlying244
  a143:=Tryz.isAgg244
  z143:=Tryz.sizeOf244
  v143:=Tryz.zeroValue244
  t145:=Tryz.underlying246
  a145:=Tryz.isAgg246
  z145:=Tryz.sizeOf246
  v145:=Tryz.zeroValue246
  t167:=Tryz.underlying231
  a167:=Tryz.isAgg231
  z167:=Tryz.sizeOf231
  v167:=Tryz.zeroValue231
  t168:=Tryz.underlying234
  a168:=Tryz.isAgg234
  z168:=Tryz.sizeOf234
  v168:=Tryz.zeroValue234
  t171:=Tryz.underlying182
  a171:=Tryz.isAgg182
  z171:=Tryz.sizeOf182
  v171:=Tryz.zeroValue182
  t173:=Tryz.underlying185
  a173:=Tryz.isAgg185
  z173:=Tryz.sizeOf185
  v173:=Tryz.zeroValue185
  t175:=Tryz.underlying237
  a175:=Tryz.isAgg237
  z175:=Tryz.sizeOf237
  v175:=Tryz.zeroValue237
  t210:=Tryz.underlying241
  a210:=Tryz.isAgg241
  z210:=Tryz.sizeOf241
  v210:=Tryz.zeroValue241
  t212:=Tryz.underlying202
  a212:=Tryz.isAgg202
  z212:=Tryz.sizeOf202
  v212:=Tryz.zeroValue202
  t213:=Tryz.underlying203
  a213:=Tryz.isAgg203
  z213:=Tryz.sizeOf203
  t232:=Tryz.underlying227
  a232:=Tryz.isAgg227
  z232:=Tryz.sizeOf227
  v232:=Tryz.zeroValue227
  t233:=Tryz.underlying228
  a233:=Tryz.isAgg228
  z233:=Tryz.sizeOf228
  v233:=Tryz.zeroValue228
  g15:=by kernel_rfl
  g16:=by kernel_rfl
  g17:=by kernel_rfl
  g18:=by kernel_rfl
  g19:=by kernel_rfl }
open Go.RowKit in
theorem Tryz.strconv_Atoi (s : ByteArray) (n : Int) (hl : s.size ≤ 18) (h : Lib.atoi s.data.toList = some n) (w : World) :
    Calls Tryz.prog 192 #[.string s] w fun e w'=>e=.returned (.tuple #[.int .i64 n,.nilIface]) ∧ ∃ t,w'=Lib.bytesWorld w 5 t:=Any.strconv_Atoi Tryz.lays172 s n hl h w
end Go.Proofs
