
/- The library contracts that are wanted here, laid at this dump by the kit's tool. -/
import Derived.Shelf.Strings.SlTrimAscii
import Derived.Shelf.Strings.Builder1
import Derived.Shelf.Strings.Builder2
import Derived.Shelf.Strings.Trim
import Derived.Shelf.Small.Utf8
import Derived.Shelf.Small.Strs
import Derived.Shelf.Small.Wraps
import Derived.Shelf.Strings.BuilderF
import Derived.Shelf.Strings.BuilderK
import Derived.Shelf.Utf8.RuneCount
import Derived.Shelf.Strconv.Atoi
import Derived.Shelf.Strconv.Itoa0
import Derived.Shelf.Strconv.Itoa1
import Derived.Shelf.LaysM
import Derived.Shelf.Strconv.Itoa2
import Derived.Shelf.Strconv.Itoa3
import Derived.Shelf.Strings.Search1
import Derived.Shelf.Strings.Search2
import Derived.Shelf.Strings.Search3
import Derived.Shelf.Strings.Cut
import Derived.Shelf.Strings.Count
import Derived.Shelf.Strings.Shaped
import Derived.Shelf.Strings.Prefix
import Derived.Shelf.Strings.Split
import Derived.Shelf.Strings.Replace
import Derived.Shelf.Strings.SplitShaped
import Derived.Shelf.Unicode.Decode
import Derived.Shelf.Strings.Runes
import Derived.Shelf.Strings.RuneCount
import Derived.Shelf.Strings.AsciiSet
import Derived.Shelf.Bits.Mul64
import Derived.Shelf.Strings.Repeat
import Derived.Shelf.Unicode.DecodeSlow
import Derived.Shelf.Unicode.DecodeAny
import Derived.Shelf.Unicode.DecodeLast
import Derived.Ground.Names2Prog
import Derived.Shelf.Slices.Clone
import Derived.Ground.SlgnProg
import Derived.Shelf.SlicesE.Clone
import Derived.Test.YtbfbgappinilmaaGreatDoorProg
namespace Go.Proofs
open Go.Shelf
def Tryz.lays161_ren:Go.Shelf.Ren:=⟨fun | 161=>160 | 231=>102 | 227=>104 | 233=>105 | 235=>107 | 228=>138 | 197=>139 | 151=>140 | 260=>167 | 152=>168 | 137=>126 | 119=>184 | 224=>157 | 225=>156 | 217=>154 | 266=>177 | n=>n,fun | 9=>9 | 4=>4 | 3=>3 | 5=>5 | 117=>156 | 116=>155 | 0=>0 | 124=>159 | 105=>187 | 21=>21 | 119=>216 | 46=>128 | 139=>219 | 138=>218 | n=>n,fun | 3=>3 | 4=>4 | n=>n⟩
theorem Tryz.lays161:Go.Proofs.Lays.n161 Tryz.prog Tryz.lays161_ren:={
  mixed:=by kernel_rfl
  f119:=Tryz.func184.trans (congrArg some (by kernel_rfl))
  f137:=Tryz.func126.trans (congrArg some (by kernel_rfl))
  f151:=Tryz.func140.trans (congrArg some (by kernel_rfl))
  f152:=Tryz.func168.trans (congrArg some (by kernel_rfl))
  f161:=Tryz.func160.trans (congrArg some (by kernel_rfl))
  f197:=Tryz.func139.trans (congrArg some (by kernel_rfl))
  f217:=Tryz.func154.trans (congrArg some (by kernel_rfl))
  f224:=Tryz.func157.trans (congrArg some (by kernel_rfl))
  f225:=Tryz.func156.trans (congrArg some (by kernel_rfl))
  f227:=Tryz.func104.trans (congrArg some (by kernel_rfl))
  f228:=Tryz.func138.trans (congrArg some (by kernel_rfl))
  f231:=Tryz.func102.trans (congrArg some (by kernel_rfl))
  f233:=Tryz.func105.trans (congrArg some (by kernel_rfl))
  f235:=Tryz.func107.trans (congrArg some (by kernel_rfl))
  f260:=Tryz.func167.trans (congrArg some (by kernel_rfl))
  f266:=Tryz.func177.trans (congrArg some (by kernel_rfl))
  t0:=Tryz.underlying0
  a0:=Tryz.isAgg0
  z0:=Tryz.sizeOf0
  v0:=Tryz.zeroValue0
  t3:=Tryz.underlying3
  a3:=Tryz.isAgg3
  z3:=Tryz.sizeOf3
  v3:=Tryz.zeroValue3
  t4:=Tryz.underlying4
  a4:=Tryz.isAgg4
  z4:=Tryz.sizeOf4
  v4:=Tryz.zeroValue4
  t5:=Tryz.underlying5
  a5:=Tryz.isAgg5
  z5:=Tryz.sizeOf5
  v5:=Tryz.zeroValue5
  t9:=Tryz.underlying9
  a9:=Tryz.isAgg9
  z9:=Tryz.sizeOf9
  v9:=Tryz.zeroValue9
  t21:=Tryz.underlying21
  a21:=Tryz.isAgg21
  z21:=Tryz.sizeOf21
  v21:=Tryz.zeroValue21
  t46:=Tryz.underlying128
  a46:=Tryz.isAgg128
  z46:=Tryz.sizeOf128
  v46:=Tryz.zeroValue128
  t105:=Tryz.underlying187
  a105:=Tryz.isAgg187
  z105:=Tryz.sizeOf187
  v105:=Tryz.zeroValue187
  t116:=Tryz.underlying155
  a116:=Tryz.isAgg155
  z116:=Tryz.sizeOf155
  t117:=Tryz.underlying156
  a117:=Tryz.isAgg156
  z117:=Tryz.sizeOf156
  v117:=Tryz.zeroValue156
  t119:=Tryz.underlying216
  a119:=Tryz.isAgg216
  z119:=Tryz.sizeOf216
  t124:=Tryz.underlying159
  a124:=Tryz.isAgg159
  z124:=Tryz.sizeOf159
  v124:=Tryz.zeroValue159
  t138:=Tryz.underlying218
  a138:=Tryz.isAgg218
  z138:=Tryz.sizeOf218
  v138:=Tryz.zeroValue218
  t139:=Tryz.underlying219
  a139:=Tryz.isAgg219
  z139:=Tryz.sizeOf219
  v139:=Tryz.zeroValue219
  g3:=by kernel_rfl
  g4:=by kernel_rfl }
open Go.RowKit in
theorem Tryz.strings_TrimLeft_one (s : ByteArray) (c : UInt8) (hc : c.toNat < 128) (w : World) :
    Calls Tryz.prog 160 #[.string s,.string ⟨#[c]⟩] w fun e w'=>e=.returned (.string ⟨(Lib.trimLeftB s.data.toList c).toArray⟩) ∧ w'=w:=Any.strings_TrimLeft_one Tryz.lays161 s c hc w
end Go.Proofs
