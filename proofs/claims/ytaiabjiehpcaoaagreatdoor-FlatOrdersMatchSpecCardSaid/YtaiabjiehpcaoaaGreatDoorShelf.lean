
/- The library contracts that are wanted here, laid at this dump by the kit's tool. -/
import Derived.Shelf.Strings.SlTrimAscii
import Derived.Shelf.Strings.Builder1
import Derived.Shelf.Strings.Builder2
import Derived.Shelf.Strings.Trim
import Derived.Shelf.Small.Utf8
import Derived.Shelf.Small.Strs
import Derived.Shelf.Small.Wraps
import Derived.Shelf.Strings.BuilderF
import Derived.Shelf.Strings.BuilderK
import Derived.Shelf.Strconv.Atoi
import Derived.Shelf.Strconv.Itoa0
import Derived.Shelf.Strconv.Itoa1
import Derived.Shelf.LaysM
import Derived.Shelf.Strconv.Itoa2
import Derived.Shelf.Strconv.Itoa3
import Derived.Shelf.Strings.Search1
import Derived.Shelf.Strings.Search2
import Derived.Shelf.Strings.Search3
import Derived.Shelf.Strings.Cut
import Derived.Shelf.Strings.Count
import Derived.Shelf.Strings.Shaped
import Derived.Shelf.Strings.Prefix
import Derived.Shelf.Strings.Split
import Derived.Shelf.Strings.Replace
import Derived.Shelf.Strings.SplitShaped
import Derived.Shelf.Strings.Runes
import Derived.Shelf.Strings.AsciiSet
import Derived.Shelf.Bits.Mul64
import Derived.Shelf.Strings.Repeat
import Derived.Shelf.Unicode.DecodeSlow
import Derived.Shelf.Slices.Turned
import Derived.Test.YtaiabjiehpcaoaaGreatDoorProg
namespace Go.Proofs
open Go.Shelf
def Tryz.lays160_ren:Go.Shelf.Ren:=⟨fun | 160=>140 | 232=>196 | 231=>195 | 227=>197 | 234=>199 | 233=>198 | 236=>201 | 235=>200 | 228=>231 | 271=>234 | 151=>233 | 197=>232 | 120=>261 | 152=>260 | 260=>259 | 137=>90 | 119=>275 | 224=>257 | 225=>256 | 217=>156 | 266=>211 | n=>n,fun | 9=>9 | 4=>4 | 3=>3 | 5=>5 | 117=>215 | 116=>214 | 0=>0 | 124=>218 | 21=>21 | 105=>236 | 46=>153 | 119=>265 | 139=>268 | 138=>267 | n=>n,fun | 3=>5 | 4=>6 | n=>n⟩
theorem Tryz.lays160:Go.Proofs.Lays.n160 Tryz.prog Tryz.lays160_ren:={
  mixed:=by kernel_rfl
  f119:=Tryz.func275.trans (congrArg some (by kernel_rfl))
  f120:=Tryz.func261.trans (congrArg some (by kernel_rfl))
  f137:=Tryz.func90.trans (congrArg some (by kernel_rfl))
  f151:=Tryz.func233.trans (congrArg some (by kernel_rfl))
  f152:=Tryz.func260.trans (congrArg some (by kernel_rfl))
  f160:=Tryz.func140.trans (congrArg some (by kernel_rfl))
  f197:=Tryz.func232.trans (congrArg some (by kernel_rfl))
  f217:=Tryz.func156.trans (congrArg some (by kernel_rfl))
  f224:=Tryz.func257.trans (congrArg some (by kernel_rfl))
  f225:=Tryz.func256.trans (congrArg some (by kernel_rfl))
  f227:=Tryz.func197.trans (congrArg some (by kernel_rfl))
  f228:=Tryz.func231.trans (congrArg some (by kernel_rfl))
  f231:=Tryz.func195.trans (congrArg some (by kernel_rfl))
  f232:=Tryz.func196.trans (congrArg some (by kernel_rfl))
  f233:=Tryz.func198.trans (congrArg some (by kernel_rfl))
  f234:=Tryz.func199.trans (congrArg some (by kernel_rfl))
  f235:=Tryz.func200.trans (congrArg some (by kernel_rfl))
  f236:=Tryz.func201.trans (congrArg some (by kernel_rfl))
  f260:=Tryz.func259.trans (congrArg some (by kernel_rfl))
  f266:=Tryz.func211.trans (congrArg some (by kernel_rfl))
  f271:=Tryz.func234.trans (congrArg some (by kernel_rfl))
  t0:=Tryz.underlying0
  a0:=Tryz.isAgg0
  z0:=Tryz.sizeOf0
  v0:=Tryz.zeroValue0
  t3:=Tryz.underlying3
  a3:=Tryz.isAgg3
  z3:=Tryz.sizeOf3
  v3:=Tryz.zeroValue3
  t4:=Tryz.underlying4
  a4:=Tryz.isAgg4
  z4:=Tryz.sizeOf4
  v4:=Tryz.zeroValue4
  t5:=Tryz.underlying5
  a5:=Tryz.isAgg5
  z5:=Tryz.sizeOf5
  v5:=Tryz.zeroValue5
  t9:=Tryz.underlying9
  a9:=Tryz.isAgg9
  z9:=Tryz.sizeOf9
  v9:=Tryz.zeroValue9
  t21:=Tryz.underlying21
  a21:=Tryz.isAgg21
  z21:=Tryz.sizeOf21
  v21:=Tryz.zeroValue21
  t46:=Tryz.underlying153
  a46:=Tryz.isAgg153
  z46:=Tryz.sizeOf153
  v46:=Tryz.zeroValue153
  t105:=Tryz.underlying236
  a105:=Tryz.isAgg236
  z105:=Tryz.sizeOf236
  v105:=Tryz.zeroValue236
  t116:=Tryz.underlying214
  a116:=Tryz.isAgg214
  z116:=Tryz.sizeOf214
  t117:=Tryz.underlying215
  a117:=Tryz.isAgg215
  z117:=Tryz.sizeOf215
  v117:=Tryz.zeroValue215
  t119:=Tryz.underlying265
  a119:=Tryz.isAgg265
  z119:=Tryz.sizeOf265
  t124:=Tryz.underlying218
  a124:=Tryz.isAgg218
  z124:=Tryz.sizeOf218
  v124:=Tryz.zeroValue218
  t138:=Tryz.underlying267
  a138:=Tryz.isAgg267
  z138:=Tryz.sizeOf267
  v138:=Tryz.zeroValue267
  t139:=Tryz.underlying268
  a139:=Tryz.isAgg268
  z139:=Tryz.sizeOf268
  v139:=Tryz.zeroValue268
  g3:=by kernel_rfl
  g4:=by kernel_rfl }
open Go.RowKit in
theorem Tryz.strings_Trim_one (s : ByteArray) (c : UInt8) (hc : c.toNat < 128) (w : World) (hs : s.size ≤ 9223372036854775807) :
    Calls Tryz.prog 140 #[.string s,.string ⟨#[c]⟩] w fun e w'=>e=.returned (.string ⟨(Lib.trimB s.data.toList c).toArray⟩) ∧ (w'=w∨w'=w.drew):=Any.strings_Trim_one Tryz.lays160 s c hc w hs
open Go.RowKit in
theorem Tryz.strings_Trim_laid (s cutset:ByteArray) (w:World) (hs:s.size ≤ 9223372036854775807) (hcs:cutset.size<4294967281) (hascii:∀ (j:Nat) b,cutset.data.toList[j]?=some b → b.toNat<128):Calls Tryz.prog 140 #[.string s,.string cutset] w fun e w'=>e=.returned (.string ⟨(Lib.trimS s.data.toList cutset.data.toList).toArray⟩) ∧ Below w.heap.size w w' :=
  Any.strings_Trim_laid Tryz.lays160 (by kernel_rfl) s cutset w hs hcs hascii
def Tryz.lays137_ren:Go.Shelf.Ren:=⟨fun | 137=>90 | 217=>156 | 266=>211 | n=>n,fun | 9=>9 | 5=>5 | 3=>3 | n=>n,fun | n=>n⟩
theorem Tryz.lays137:Go.Proofs.Lays.n137 Tryz.prog Tryz.lays137_ren:={
  mixed:=by kernel_rfl
  f137:=Tryz.func90.trans (congrArg some (by kernel_rfl))
  f217:=Tryz.func156.trans (congrArg some (by kernel_rfl))
  f266:=Tryz.func211.trans (congrArg some (by kernel_rfl))
  t3:=Tryz.underlying3
  a3:=Tryz.isAgg3
  z3:=Tryz.sizeOf3
  v3:=Tryz.zeroValue3
  t5:=Tryz.underlying5
  a5:=Tryz.isAgg5
  z5:=Tryz.sizeOf5
  v5:=Tryz.zeroValue5
  t9:=Tryz.underlying9
  a9:=Tryz.isAgg9
  z9:=Tryz.sizeOf9
  v9:=Tryz.zeroValue9 }
open Go.RowKit in
theorem Tryz.strings_IndexByte (s : ByteArray) (c : Int) (w : World) :
    Calls Tryz.prog 90 #[.string s,.int .u8 c] w fun e w'=>e=.returned (.int .i64 (Lib.indexByte s.data.toList c.toNat.toUInt8)) ∧ w'=w:=Any.strings_IndexByte Tryz.lays137 s c w
def Tryz.laysM171_ren:Go.Shelf.Ren:=⟨fun | 171=>38 | 243=>69 | 246=>118 | 283=>182 | 284=>183 | 285=>184 | 286=>185 | 129=>226 | 317=>225 | 318=>227 | 319=>228 | 320=>229 | 337=>254 | 338=>255 | n=>n,fun | 3=>3 | 9=>9 | 2=>2 | 4=>4 | 171=>202 | 0=>0 | 53=>150 | 37=>190 | 5=>5 | 173=>205 | 212=>233 | 51=>152 | 20=>20 | 213=>234 | 46=>153 | 232=>262 | 233=>263 | n=>n,fun | 17=>0 | 18=>3 | 19=>4 | n=>n⟩
theorem Tryz.laysM171:Go.Proofs.LaysM.n171 Tryz.prog Tryz.laysM171_ren:={
  mixed:=by kernel_rfl
  f129:=Tryz.func226.trans (congrArg some (by kernel_rfl))
  f171:=Tryz.func38.trans (congrArg some (by kernel_rfl))
  f243:=Tryz.func69.trans (congrArg some (by kernel_rfl))
  f246:=Tryz.func118.trans (congrArg some (by kernel_rfl))
  f283:=Tryz.func182.trans (congrArg some (by kernel_rfl))
  f284:=Tryz.func183.trans (congrArg some (by kernel_rfl))
  f285:=Tryz.func184.trans (congrArg some (by kernel_rfl))
  f286:=Tryz.func185.trans (congrArg some (by kernel_rfl))
  f317:=Tryz.func225.trans (congrArg some (by kernel_rfl))
  f318:=Tryz.func227.trans (congrArg some (by kernel_rfl))
  f319:=Tryz.func228.trans (congrArg some (by kernel_rfl))
  f320:=Tryz.func229.trans (congrArg some (by kernel_rfl))
  f337:=Tryz.func254.trans (congrArg some (by kernel_rfl))
  f338:=Tryz.func255.trans (congrArg some (by kernel_rfl))
  t0:=Tryz.underlying0
  a0:=Tryz.isAgg0
  z0:=Tryz.sizeOf0
  v0:=Tryz.zeroValue0
  t2:=Tryz.underlying2
  a2:=Tryz.isAgg2
  z2:=Tryz.sizeOf2
  v2:=Tryz.zeroValue2
  t3:=Tryz.underlying3
  a3:=Tryz.isAgg3
  z3:=Tryz.sizeOf3
  v3:=Tryz.zeroValue3
  t4:=Tryz.underlying4
  a4:=Tryz.isAgg4
  z4:=Tryz.sizeOf4
  v4:=Tryz.zeroValue4
  t5:=Tryz.underlying5
  a5:=Tryz.isAgg5
  z5:=Tryz.sizeOf5
  v5:=Tryz.zeroValue5
  t9:=Tryz.underlying9
  a9:=Tryz.isAgg9
  z9:=Tryz.sizeOf9
  v9:=Tryz.zeroValue9
  t20:=Tryz.underlying20
  a20:=Tryz.isAgg20
  z20:=Tryz.sizeOf20
  v20:=Tryz.zeroValue20
  t37:=Tryz.underlying190
  a37:=Tryz.isAgg190
  z37:=Tryz.sizeOf190
  v37:=Tryz.zeroValue190
  t46:=Tryz.underlying153
  a46:=Tryz.isAgg153
  z46:=Tryz.sizeOf153
  v46:=Tryz.zeroValue153
  t51:=Tryz.underlying152
  a51:=Tryz.isAgg152
  z51:=Tryz.sizeOf152
  v51:=Tryz.zeroValue152
  t53:=Tryz.underlying150
  a53:=Tryz.isAgg150
  z53:=Tryz.sizeOf150
  v53:=Tryz.zeroValue150
  t171:=Tryz.underlying202
  a171:=Tryz.isAgg202
  z171:=Tryz.sizeOf202
  v171:=Tryz.zeroValue202
  t173:=Tryz.underlying205
  a173:=Tryz.isAgg205
  z173:=Tryz.sizeOf205
  v173:=Tryz.zeroValue205
  t212:=Tryz.underlying233
  a212:=Tryz.isAgg233
  z212:=Tryz.sizeOf233
  v212:=Tryz.zeroValue233
  t213:=Tryz.underlying234
  a213:=Tryz.isAgg234
  z213:=Tryz.sizeOf234
  t232:=Tryz.underlying262
  a232:=Tryz.isAgg262
  z232:=Tryz.sizeOf262
  v232:=Tryz.zeroValue262
  t233:=Tryz.underlying263
  a233:=Tryz.isAgg263
  z233:=Tryz.sizeOf263
  v233:=Tryz.zeroValue263
  g17:=by kernel_rfl
  g18:=by kernel_rfl
  g19:=by kernel_rfl
  i0:=by kernel_rfl
  i2:=by kernel_rfl
  i3:=by kernel_rfl
  i4:=by kernel_rfl
  i5:=by kernel_rfl
  i9:=by kernel_rfl
  i20:=by kernel_rfl
  i37:=by kernel_rfl
  i46:=by kernel_rfl
  i51:=by kernel_rfl
  i53:=by kernel_rfl
  i171:=by kernel_rfl
  i173:=by kernel_rfl
  i212:=by kernel_rfl
  i232:=by kernel_rfl
  i233:=by kernel_rfl
  m17:=by kernel_rfl
  m18:=by kernel_rfl
  m19:=by kernel_rfl }
open Go.RowKit Go.Sort Go.Lib in
theorem Tryz.strconv_Itoa (n : Int) (h0 : -9223372036854775808 ≤ n) (h1 : n ≤ 9223372036854775807) (w : World) (htab : Lib.TabIs Tryz.prog w "internal/strconv.uint64pow10" .u64 Lib.pow10Tab) :
    Calls Tryz.prog 38 #[.int .i64 n] w fun e w'=>e=.returned (.string ⟨(Lib.itoa n).toArray⟩) ∧ ∃ k os,w'=grow (w.drewN k) os:=Any.strconv_Itoa Tryz.laysM171 n h0 h1 w htab
def Tryz.lays99_ren:Go.Shelf.Ren:=⟨fun | 99=>171 | 206=>217 | n=>n,fun | 9=>9 | 4=>4 | 3=>3 | n=>n,fun | n=>n⟩
def Tryz.lays101_ren:Go.Shelf.Ren:=⟨fun | 101=>155 | 208=>210 | 206=>217 | n=>n,fun | 9=>9 | 4=>4 | 3=>3 | n=>n,fun | n=>n⟩
theorem Tryz.lays101:Go.Proofs.Lays.n101 Tryz.prog Tryz.lays101_ren:={
  mixed:=by kernel_rfl
  f101:=Tryz.func155.trans (congrArg some (by kernel_rfl))
  f206:=Tryz.func217.trans (congrArg some (by kernel_rfl))
  f208:=Tryz.func210.trans (congrArg some (by kernel_rfl))
  t3:=Tryz.underlying3
  a3:=Tryz.isAgg3
  z3:=Tryz.sizeOf3
  v3:=Tryz.zeroValue3
  t4:=Tryz.underlying4
  a4:=Tryz.isAgg4
  z4:=Tryz.sizeOf4
  v4:=Tryz.zeroValue4
  t9:=Tryz.underlying9
  a9:=Tryz.isAgg9
  z9:=Tryz.sizeOf9
  v9:=Tryz.zeroValue9 }
open Go.RowKit Go.Lib in
theorem Tryz.strings_TrimPrefix (s p : ByteArray) (w : World) :
    Calls Tryz.prog 155 #[.string s,.string p] w fun e w'=>e=.returned (.string ⟨(Lib.trimPrefix s.data.toList p.data.toList).toArray⟩) ∧ w'=w:=Any.strings_TrimPrefix Tryz.lays101 s p w
def Tryz.lays146_ren:Go.Shelf.Ren:=⟨fun | 146=>108 | 221=>178 | 268=>221 | 138=>222 | 143=>223 | 195=>250 | 197=>232 | 218=>251 | 219=>230 | 260=>259 | 217=>156 | 225=>256 | 224=>257 | 267=>258 | 266=>211 | 314=>274 | n=>n,fun | 9=>9 | 31=>47 | 3=>3 | 4=>4 | 0=>0 | 105=>236 | 21=>21 | 5=>5 | 46=>153 | 119=>265 | 139=>268 | 138=>267 | 146=>209 | 51=>152 | n=>n,fun | 1=>2 | 3=>5 | 4=>6 | n=>n⟩
theorem Tryz.lays146:Go.Proofs.Lays.n146 Tryz.prog Tryz.lays146_ren:={
  mixed:=by kernel_rfl
  f138:=Tryz.func222.trans (congrArg some (by kernel_rfl))
  f143:=Tryz.func223.trans (congrArg some (by kernel_rfl))
  f146:=Tryz.func108.trans (congrArg some (by kernel_rfl))
  f195:=Tryz.func250.trans (congrArg some (by kernel_rfl))
  f197:=Tryz.func232.trans (congrArg some (by kernel_rfl))
  f217:=Tryz.func156.trans (congrArg some (by kernel_rfl))
  f218:=Tryz.func251.trans (congrArg some (by kernel_rfl))
  f219:=Tryz.func230.trans (congrArg some (by kernel_rfl))
  f221:=Tryz.func178.trans (congrArg some (by kernel_rfl))
  f224:=Tryz.func257.trans (congrArg some (by kernel_rfl))
  f225:=Tryz.func256.trans (congrArg some (by kernel_rfl))
  f260:=Tryz.func259.trans (congrArg some (by kernel_rfl))
  f266:=Tryz.func211.trans (congrArg some (by kernel_rfl))
  f267:=Tryz.func258.trans (congrArg some (by kernel_rfl))
  f268:=Tryz.func221.trans (congrArg some (by kernel_rfl))
  f314:=Tryz.func274.trans (congrArg some (by kernel_rfl))
  t0:=Tryz.underlying0
  a0:=Tryz.isAgg0
  z0:=Tryz.sizeOf0
  v0:=Tryz.zeroValue0
  t3:=Tryz.underlying3
  a3:=Tryz.isAgg3
  z3:=Tryz.sizeOf3
  v3:=Tryz.zeroValue3
  t4:=Tryz.underlying4
  a4:=Tryz.isAgg4
  z4:=Tryz.sizeOf4
  v4:=Tryz.zeroValue4
  t5:=Tryz.underlying5
  a5:=Tryz.isAgg5
  z5:=Tryz.sizeOf5
  v5:=Tryz.zeroValue5
  t9:=Tryz.underlying9
  a9:=Tryz.isAgg9
  z9:=Tryz.sizeOf9
  v9:=Tryz.zeroValue9
  t21:=Tryz.underlying21
  a21:=Tryz.isAgg21
  z21:=Tryz.sizeOf21
  v21:=Tryz.zeroValue21
  t31:=Tryz.underlying47
  a31:=Tryz.isAgg47
  z31:=Tryz.sizeOf47
  v31:=Tryz.zeroValue47
  t46:=Tryz.underlying153
  a46:=Tryz.isAgg153
  z46:=Tryz.sizeOf153
  v46:=Tryz.zeroValue153
  t51:=Tryz.underlying152
  a51:=Tryz.isAgg152
  z51:=Tryz.sizeOf152
  v51:=Tryz.zeroValue152
  t105:=Tryz.underlying236
  a105:=Tryz.isAgg236
  z105:=Tryz.sizeOf236
  v105:=Tryz.zeroValue236
  t119:=Tryz.underlying265
  a119:=Tryz.isAgg265
  z119:=Tryz.sizeOf265
  t138:=Tryz.underlying267
  a138:=Tryz.isAgg267
  z138:=Tryz.sizeOf267
  v138:=Tryz.zeroValue267
  t139:=Tryz.underlying268
  a139:=Tryz.isAgg268
  z139:=Tryz.sizeOf268
  v139:=Tryz.zeroValue268
  t146:=Tryz.underlying209
  a146:=Tryz.isAgg209
  z146:=Tryz.sizeOf209
  v146:=Tryz.zeroValue209
  g1:=by kernel_rfl
  g3:=by kernel_rfl
  g4:=by kernel_rfl }
open Go.RowKit Go.Lib in
theorem Tryz.strings_Split (s sep : ByteArray) (m : Int) (w : World) (hs : s.size < 4294967281) (hm : w.cell? ⟨2, 0, none⟩ = some (.int .i64 m)) (h1 : 1 ≤ sep.size) :
    Calls Tryz.prog 108 #[.string s, .string sep] w fun e w' =>
      e=.returned (.slice (some ⟨w.heap.size,0,none⟩) (Lib.countB s sep+1) (Lib.countB s sep+1)) ∧ w'=w.alloc (.cells ((Lib.splitB sep 0 (Lib.countB s sep) s).map Value.string).toArray 9):=Any.strings_Split Tryz.lays146 (by kernel_rfl) s sep m w hs hm h1
def Tryz.laysM146_ren:Go.Shelf.Ren:=⟨fun | 146=>108 | 221=>178 | 268=>221 | 138=>222 | 143=>223 | 195=>250 | 197=>232 | 218=>251 | 219=>230 | 260=>259 | 217=>156 | 225=>256 | 224=>257 | 267=>258 | 266=>211 | 314=>274 | n=>n,fun | 9=>9 | 31=>47 | 3=>3 | 4=>4 | 0=>0 | 105=>236 | 21=>21 | 5=>5 | 46=>153 | 119=>265 | 139=>268 | 138=>267 | 146=>209 | 51=>152 | n=>n,fun | 1=>2 | 3=>5 | 4=>6 | n=>n⟩
theorem Tryz.laysM146:Go.Proofs.LaysM.n146 Tryz.prog Tryz.laysM146_ren:={
  mixed:=by kernel_rfl
  f138:=Tryz.func222.trans (congrArg some (by kernel_rfl))
  f143:=Tryz.func223.trans (congrArg some (by kernel_rfl))
  f146:=Tryz.func108.trans (congrArg some (by kernel_rfl))
  f195:=Tryz.func250.trans (congrArg some (by kernel_rfl))
  f197:=Tryz.func232.trans (congrArg some (by kernel_rfl))
  f217:=Tryz.func156.trans (congrArg some (by kernel_rfl))
  f218:=Tryz.func251.trans (congrArg some (by kernel_rfl))
  f219:=Tryz.func230.trans (congrArg some (by kernel_rfl))
  f221:=Tryz.func178.trans (congrArg some (by kernel_rfl))
  f224:=Tryz.func257.trans (congrArg some (by kernel_rfl))
  f225:=Tryz.func256.trans (congrArg some (by kernel_rfl))
  f260:=Tryz.func259.trans (congrArg some (by kernel_rfl))
  f266:=Tryz.func211.trans (congrArg some (by kernel_rfl))
  f267:=Tryz.func258.trans (congrArg some (by kernel_rfl))
  f268:=Tryz.func221.trans (congrArg some (by kernel_rfl))
  f314:=Tryz.func274.trans (congrArg some (by kernel_rfl))
  t0:=Tryz.underlying0
  a0:=Tryz.isAgg0
  z0:=Tryz.sizeOf0
  v0:=Tryz.zeroValue0
  t3:=Tryz.underlying3
  a3:=Tryz.isAgg3
  z3:=Tryz.sizeOf3
  v3:=Tryz.zeroValue3
  t4:=Tryz.underlying4
  a4:=Tryz.isAgg4
  z4:=Tryz.sizeOf4
  v4:=Tryz.zeroValue4
  t5:=Tryz.underlying5
  a5:=Tryz.isAgg5
  z5:=Tryz.sizeOf5
  v5:=Tryz.zeroValue5
  t9:=Tryz.underlying9
  a9:=Tryz.isAgg9
  z9:=Tryz.sizeOf9
  v9:=Tryz.zeroValue9
  t21:=Tryz.underlying21
  a21:=Tryz.isAgg21
  z21:=Tryz.sizeOf21
  v21:=Tryz.zeroValue21
  t31:=Tryz.underlying47
  a31:=Tryz.isAgg47
  z31:=Tryz.sizeOf47
  v31:=Tryz.zeroValue47
  t46:=Tryz.underlying153
  a46:=Tryz.isAgg153
  z46:=Tryz.sizeOf153
  v46:=Tryz.zeroValue153
  t51:=Tryz.underlying152
  a51:=Tryz.isAgg152
  z51:=Tryz.sizeOf152
  v51:=Tryz.zeroValue152
  t105:=Tryz.underlying236
  a105:=Tryz.isAgg236
  z105:=Tryz.sizeOf236
  v105:=Tryz.zeroValue236
  t119:=Tryz.underlying265
  a119:=Tryz.isAgg265
  z119:=Tryz.sizeOf265
  t138:=Tryz.underlying267
  a138:=Tryz.isAgg267
  z138:=Tryz.sizeOf267
  v138:=Tryz.zeroValue267
  t139:=Tryz.underlying268
  a139:=Tryz.isAgg268
  z139:=Tryz.sizeOf268
  v139:=Tryz.zeroValue268
  t146:=Tryz.underlying209
  a146:=Tryz.isAgg209
  z146:=Tryz.sizeOf209
  v146:=Tryz.zeroValue209
  g1:=by kernel_rfl
  g3:=by kernel_rfl
  g4:=by kernel_rfl
  i0:=by kernel_rfl
  i3:=by kernel_rfl
  i4:=by kernel_rfl
  i5:=by kernel_rfl
  i9:=by kernel_rfl
  i21:=by kernel_rfl
  i31:=by kernel_rfl
  i46:=by kernel_rfl
  i51:=by kernel_rfl
  i105:=by kernel_rfl
  i138:=by kernel_rfl
  i139:=by kernel_rfl
  i146:=by kernel_rfl
  m1:=by kernel_rfl
  s1_3:=fun w h=>Go.Proofs.cell_of_shapedOpen_int (zero:=#[.int .i64 0]) (t:=3) h (of_decide_eq_true (by kernel_rfl)) (by kernel_rfl) rfl (by kernel_rfl) (by kernel_rfl) Tryz.underlying3
  m3:=by kernel_rfl
  m4:=by kernel_rfl }
def Tryz.lays105_ren:Go.Shelf.Ren:=⟨fun | 105=>104 | 212=>170 | 99=>171 | 165=>172 | 166=>173 | 170=>174 | 169=>175 | 263=>215 | 264=>216 | 206=>217 | 240=>218 | 241=>219 | 276=>248 | 277=>249 | n=>n,fun | 9=>9 | 3=>3 | 4=>4 | 20=>20 | 0=>0 | 46=>153 | 109=>186 | 5=>5 | 72=>192 | 76=>196 | 51=>152 | 146=>209 | 53=>150 | 148=>227 | 70=>189 | 37=>190 | 75=>195 | 127=>229 | 164=>246 | 80=>141 | n=>n,fun | n=>n⟩
theorem Tryz.lays105:Go.Proofs.Lays.n105 Tryz.prog Tryz.lays105_ren:={
  mixed:=by kernel_rfl
  f99:=Tryz.func171.trans (congrArg some (by kernel_rfl))
  f105:=Tryz.func104.trans (congrArg some (by kernel_rfl))
  f165:=Tryz.func172.trans (congrArg some (by kernel_rfl))
  f166:=Tryz.func173.trans (congrArg some (by kernel_rfl))
  f169:=Tryz.func175.trans (congrArg some (by kernel_rfl))
  f170:=Tryz.func174.trans (congrArg some (by kernel_rfl))
  f206:=Tryz.func217.trans (congrArg some (by kernel_rfl))
  f212:=Tryz.func170.trans (congrArg some (by kernel_rfl))
  f240:=Tryz.func218.trans (congrArg some (by kernel_rfl))
  f241:=Tryz.func219.trans (congrArg some (by kernel_rfl))
  f263:=Tryz.func215.trans (congrArg some (by kernel_rfl))
  f264:=Tryz.func216.trans (congrArg some (by kernel_rfl))
  f276:=Tryz.func248.trans (congrArg some (by kernel_rfl))
  f277:=Tryz.func249.trans (congrArg some (by kernel_rfl))
  t0:=Tryz.underlying0
  a0:=Tryz.isAgg0
  z0:=Tryz.sizeOf0
  v0:=Tryz.zeroValue0
  t3:=Tryz.underlying3
  a3:=Tryz.isAgg3
  z3:=Tryz.sizeOf3
  v3:=Tryz.zeroValue3
  t4:=Tryz.underlying4
  a4:=Tryz.isAgg4
  z4:=Tryz.sizeOf4
  v4:=Tryz.zeroValue4
  t5:=Tryz.underlying5
  a5:=Tryz.isAgg5
  z5:=Tryz.sizeOf5
  v5:=Tryz.zeroValue5
  t9:=Tryz.underlying9
  a9:=Tryz.isAgg9
  z9:=Tryz.sizeOf9
  v9:=Tryz.zeroValue9
  t20:=Tryz.underlying20
  a20:=Tryz.isAgg20
  z20:=Tryz.sizeOf20
  v20:=Tryz.zeroValue20
  t37:=Tryz.underlying190
  a37:=Tryz.isAgg190
  z37:=Tryz.sizeOf190
  v37:=Tryz.zeroValue190
  t46:=Tryz.underlying153
  a46:=Tryz.isAgg153
  z46:=Tryz.sizeOf153
  v46:=Tryz.zeroValue153
  t51:=Tryz.underlying152
  a51:=Tryz.isAgg152
  z51:=Tryz.sizeOf152
  v51:=Tryz.zeroValue152
  t53:=Tryz.underlying150
  a53:=Tryz.isAgg150
  z53:=Tryz.sizeOf150
  v53:=Tryz.zeroValue150
  t70:=Tryz.underlying189
  a70:=Tryz.isAgg189
  z70:=Tryz.sizeOf189
  v70:=Tryz.zeroValue189
  t72:=Tryz.underlying192
  a72:=Tryz.isAgg192
  z72:=Tryz.sizeOf192
  v72:=Tryz.zeroValue192
  t75:=Tryz.underlying195
  a75:=Tryz.isAgg195
  z75:=Tryz.sizeOf195
  v75:=Tryz.zeroValue195
  t76:=Tryz.underlying196
  a76:=Tryz.isAgg196
  z76:=Tryz.sizeOf196
  v76:=Tryz.zeroValue196
  t109:=Tryz.underlying186
  a109:=Tryz.isAgg186
  z109:=Tryz.sizeOf186
  v109:=Tryz.zeroValue186
  t127:=Tryz.underlying229
  a127:=Tryz.isAgg229
  z127:=Tryz.sizeOf229
  v127:=Tryz.zeroValue229
  t146:=Tryz.underlying209
  a146:=Tryz.isAgg209
  z146:=Tryz.sizeOf209
  v146:=Tryz.zeroValue209
  t148:=Tryz.underlying227
  a148:=Tryz.isAgg227
  z148:=Tryz.sizeOf227
  v148:=Tryz.zeroValue227
  t164:=Tryz.underlying246
  a164:=Tryz.isAgg246
  z164:=Tryz.sizeOf246
  v164:=Tryz.zeroValue246 }
theorem Tryz.Builder_Extra_105:Builder.Extra Tryz.prog Tryz.lays105_ren:={
  sizeBuilder:=by kernel_rfl
  liesBuilder:=by kernel_rfl
  t5:=Tryz.underlying5
  a5:=Tryz.isAgg5
  z5:=Tryz.sizeOf5
  v5:=Tryz.zeroValue5
  infoByte:=by kernel_rfl
  cellsByte:=by kernel_rfl
  sizeByte:=by kernel_rfl
  neB5:=by decide }
open Go.RowKit Go.Lib in
theorem Tryz.strings_Repeat (s : ByteArray) (c : Nat) (w : World) (hc : c ≤ 9223372036854775807) (hlen : s.size * c ≤ 140737488355328) :
    Calls Tryz.prog 104 #[.string s,.int .i64 c] w fun e w'=>e=.returned (.string ⟨(Lib.repeatL s.data.toList c).toArray⟩) ∧ Below w.heap.size w w':=Any.strings_Repeat Tryz.lays105 Tryz.Builder_Extra_105 s c w hc hlen
def Tryz.lays109_ren:Go.Shelf.Ren:=⟨fun | 109=>114 | n=>n,fun | 31=>47 | 9=>9 | 3=>3 | 0=>0 | 4=>4 | n=>n,fun | n=>n⟩
theorem Tryz.lays109:Go.Proofs.Lays.n109 Tryz.prog Tryz.lays109_ren:={
  mixed:=by kernel_rfl
  f109:=Tryz.func114.trans (congrArg some (by kernel_rfl))
  t0:=Tryz.underlying0
  a0:=Tryz.isAgg0
  z0:=Tryz.sizeOf0
  v0:=Tryz.zeroValue0
  t3:=Tryz.underlying3
  a3:=Tryz.isAgg3
  z3:=Tryz.sizeOf3
  v3:=Tryz.zeroValue3
  t4:=Tryz.underlying4
  a4:=Tryz.isAgg4
  z4:=Tryz.sizeOf4
  v4:=Tryz.zeroValue4
  t9:=Tryz.underlying9
  a9:=Tryz.isAgg9
  z9:=Tryz.sizeOf9
  v9:=Tryz.zeroValue9
  t31:=Tryz.underlying47
  a31:=Tryz.isAgg47
  z31:=Tryz.sizeOf47
  v31:=Tryz.zeroValue47 }
open Go.Lib in
theorem Tryz.slices_Index_string (b off n c : Nat) (zs : List ByteArray) (x : ByteArray) (w : World) (hz : n ≤ zs.length) (hbig : n ≤ 9223372036854775807) (hc : ∀ j, j < zs.length → w.cell? ⟨b, off + j, none⟩ = some (.string (zs.getD j ByteArray.empty))) :
    Calls Tryz.prog 114 #[.slice (some ⟨b,off,none⟩) n c,.string x] w fun e w'=>e=.returned (.int .i64 (Lib.idxOfS (zs.take n) x)) ∧ w'=w:=Any.slices_Index_string Tryz.lays109 b off n c zs x w hz hbig hc
end Go.Proofs
