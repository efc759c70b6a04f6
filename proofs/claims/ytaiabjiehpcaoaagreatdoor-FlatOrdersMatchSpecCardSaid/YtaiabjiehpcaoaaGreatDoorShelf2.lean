/- The library contracts that are wanted here, laid at this dump by the kit's tool. -/
import Derived.Shelf.Strings.Builder1
import Derived.Shelf.Strings.Builder2
import Derived.Shelf.Strings.Trim
import Derived.Shelf.Small.Utf8
import Derived.Shelf.Small.Strs
import Derived.Shelf.Small.Wraps
import Derived.Shelf.Strings.BuilderF
import Derived.Shelf.Strings.BuilderK
import Derived.Shelf.Strconv.Atoi
import Derived.Shelf.Strconv.Itoa0
import Derived.Shelf.Strconv.Itoa1
import Derived.Shelf.LaysM
import Derived.Shelf.Strconv.Itoa2
import Derived.Shelf.Strconv.Itoa3
import Derived.Shelf.Strings.Search1
import Derived.Shelf.Strings.Search2
import Derived.Shelf.Strings.Search3
import Derived.Shelf.Strings.Cut
import Derived.Shelf.Strings.Count
import Derived.Shelf.Strings.Shaped
import Derived.Shelf.Strings.Prefix
import Derived.Shelf.Strings.Split
import Derived.Shelf.Strings.Replace
import Derived.Shelf.Strings.SplitShaped
import Derived.Shelf.Strings.Runes
import Derived.Shelf.Strings.AsciiSet
import Derived.Shelf.Bits.Mul64
import Derived.Shelf.Strings.Repeat
import Derived.Shelf.Unicode.DecodeSlow
import Derived.Shelf.Slices.Turned
import Derived.Test.YtaiabjiehpcaoaaGreatDoorProg
namespace Go.Proofs
open Go.Shelf
def Tryz.lays172_ren:Go.Shelf.Ren:=⟨fun | 172=>224 | 244=>252 | 245=>253 | 247=>269 | 279=>270 | 280=>271 | 281=>272 | 282=>273 | 287=>278 | 316=>279 | 171=>38 | 205=>280 | 321=>281 | 322=>282 | 243=>69 | 246=>118 | 283=>182 | 284=>183 | 285=>184 | 286=>185 | 129=>226 | 317=>225 | 318=>227 | 319=>228 | 320=>229 | 337=>254 | 338=>255 | n=>n,fun | 9=>9 | 3=>3 | 75=>195 | 76=>196 | 4=>4 | 5=>5 | 167=>256 | 37=>190 | 0=>0 | 85=>257 | 2=>2 | 168=>259 | 53=>150 | 175=>272 | 46=>153 | 210=>275 | 127=>229 | 145=>280 | 143=>278 | 21=>21 | 171=>202 | 173=>205 | 212=>233 | 51=>152 | 20=>20 | 213=>234 | 232=>262 | 233=>263 | 80=>141 | n=>n,fun | 15=>7 | 16=>8 | 17=>0 | 18=>3 | 19=>4 | n=>n⟩
theorem Tryz.lays172:Go.Proofs.Lays.n172 Tryz.prog Tryz.lays172_ren:={
  mixed:=by kernel_rfl
  f129:=Tryz.func226.trans (congrArg some (by kernel_rfl))
  f171:=Tryz.func38.trans (congrArg some (by kernel_rfl))
  f172:=Tryz.func224.trans (congrArg some (by kernel_rfl))
  f205:=Tryz.func280.trans (congrArg some (by kernel_rfl))
  f243:=Tryz.func69.trans (congrArg some (by kernel_rfl))
  f244:=Tryz.func252.trans (congrArg some (by kernel_rfl))
  f245:=Tryz.func253.trans (congrArg some (by kernel_rfl))
  f246:=Tryz.func118.trans (congrArg some (by kernel_rfl))
  f247:=Tryz.func269.trans (congrArg some (by kernel_rfl))
  f279:=Tryz.func270.trans (congrArg some (by kernel_rfl))
  f280:=Tryz.func271.trans (congrArg some (by kernel_rfl))
  f281:=Tryz.func272.trans (congrArg some (by kernel_rfl))
  f282:=Tryz.func273.trans (congrArg some (by kernel_rfl))
  f283:=Tryz.func182.trans (congrArg some (by kernel_rfl))
  f284:=Tryz.func183.trans (congrArg some (by kernel_rfl))
  f285:=Tryz.func184.trans (congrArg some (by kernel_rfl))
  f286:=Tryz.func185.trans (congrArg some (by kernel_rfl))
  f287:=Tryz.func278.trans (congrArg some (by kernel_rfl))
  f316:=Tryz.func279.trans (congrArg some (by kernel_rfl))
  f317:=Tryz.func225.trans (congrArg some (by kernel_rfl))
  f318:=Tryz.func227.trans (congrArg some (by kernel_rfl))
  f319:=Tryz.func228.trans (congrArg some (by kernel_rfl))
  f320:=Tryz.func229.trans (congrArg some (by kernel_rfl))
  f321:=Tryz.func281.trans (congrArg some (by kernel_rfl))
  f322:=Tryz.func282.trans (congrArg some (by kernel_rfl))
  f337:=Tryz.func254.trans (congrArg some (by kernel_rfl))
  f338:=Tryz.func255.trans (congrArg some (by kernel_rfl))
  t0:=Tryz.underlying0
  a0:=Tryz.isAgg0
  z0:=Tryz.sizeOf0
  v0:=Tryz.zeroValue0
  t2:=Tryz.underlying2
  a2:=Tryz.isAgg2
  z2:=Tryz.sizeOf2
  v2:=Tryz.zeroValue2
  t3:=Tryz.underlying3
  a3:=Tryz.isAgg3
  z3:=Tryz.sizeOf3
  v3:=Tryz.zeroValue3
  t4:=Tryz.underlying4
  a4:=Tryz.isAgg4
  z4:=Tryz.sizeOf4
  v4:=Tryz.zeroValue4
  t5:=Tryz.underlying5
  a5:=Tryz.isAgg5
  z5:=Tryz.sizeOf5
  v5:=Tryz.zeroValue5
  t9:=Tryz.underlying9
  a9:=Tryz.isAgg9
  z9:=Tryz.sizeOf9
  v9:=Tryz.zeroValue9
  t20:=Tryz.underlying20
  a20:=Tryz.isAgg20
  z20:=Tryz.sizeOf20
  v20:=Tryz.zeroValue20
  t21:=Tryz.underlying21
  a21:=Tryz.isAgg21
  z21:=Tryz.sizeOf21
  v21:=Tryz.zeroValue21
  t37:=Tryz.underlying190
  a37:=Tryz.isAgg190
  z37:=Tryz.sizeOf190
  v37:=Tryz.zeroValue190
  t46:=Tryz.underlying153
  a46:=Tryz.isAgg153
  z46:=Tryz.sizeOf153
  v46:=Tryz.zeroValue153
  t51:=Tryz.underlying152
  a51:=Tryz.isAgg152
  z51:=Tryz.sizeOf152
  v51:=Tryz.zeroValue152
  t53:=Tryz.underlying150
  a53:=Tryz.isAgg150
  z53:=Tryz.sizeOf150
  v53:=Tryz.zeroValue150
  t75:=Tryz.underlying195
  a75:=Tryz.isAgg195
  z75:=Tryz.sizeOf195
  v75:=Tryz.zeroValue195
  t76:=Tryz.underlying196
  a76:=Tryz.isAgg196
  z76:=Tryz.sizeOf196
  v76:=Tryz.zeroValue196
  t85:=Tryz.underlying257
  a85:=Tryz.isAgg257
  z85:=Tryz.sizeOf257
  v85:=Tryz.zeroValue257
  t127:=Tryz.underlying229
  a127:=Tryz.isAgg229
  z127:=Tryz.sizeOf229
  v127:=Tryz.zeroValue229
  t143:=Tryz.underlying278
  a143:=Tryz.isAgg278
  z143:=Tryz.sizeOf278
  v143:=Tryz.zeroValue278
  t145:=Tryz.underlying280
  a145:=Tryz.isAgg280
  z145:=Tryz.sizeOf280
  v145:=Tryz.zeroValue280
  t167:=Tryz.underlying256
  a167:=Tryz.isAgg256
  z167:=Tryz.sizeOf256
  v167:=Tryz.zeroValue256
  t168:=Tryz.underlying259
  a168:=Tryz.isAgg259
  z168:=Tryz.sizeOf259
  v168:=Tryz.zeroValue259
  t171:=Tryz.underlying202
  a171:=Tryz.isAgg202
  z171:=Tryz.sizeOf202
  v171:=Tryz.zeroValue202
  t173:=Tryz.underlying205
  a173:=Tryz.isAgg205
  z173:=Tryz.sizeOf205
  v173:=Tryz.zeroValue205
  t175:=Tryz.underlying272
  a175:=Tryz.isAgg272
  z175:=Tryz.sizeOf272
  v175:=Tryz.zeroValue272
  t210:=Tryz.underlying275
  a210:=Tryz.isAgg275
  z210:=Tryz.sizeOf275
  v210:=Tryz.zeroValue275
  t212:=Tryz.underlying233
  a212:=Tryz.isAgg233
  z212:=Tryz.sizeOf233
  v212:=Tryz.zeroValue233
  t213:=Tryz.underlying234
  a213:=Tryz.isAgg234
  z213:=Tryz.sizeOf234
  t232:=Tryz.underlying262
  a232:=Tryz.isAgg262
  z232:=Tryz.sizeOf262
  v232:=Tryz.zeroValue262
  t233:=Tryz.underlying263
  a233:=Tryz.isAgg263
  z233:=Tryz.sizeOf263
  v233:=Tryz.zeroValue263
  g15:=by kernel_rfl
  g16:=by kernel_rfl
  g17:=by kernel_rfl
  g18:=by kernel_rfl
  g19:=by kernel_rfl }
open Go.RowKit in
theorem Tryz.strconv_Atoi (s : ByteArray) (n : Int) (hl : s.size ≤ 18) (h : Lib.atoi s.data.toList = some n) (w : World) :
    Calls Tryz.prog 224 #[.string s] w fun e w'=>e=.returned (.tuple #[.int .i64 n,.nilIface]) ∧ ∃ t,w'=Lib.bytesWorld w 5 t:=Any.strconv_Atoi Tryz.lays172 s n hl h w
end Go.Proofs
