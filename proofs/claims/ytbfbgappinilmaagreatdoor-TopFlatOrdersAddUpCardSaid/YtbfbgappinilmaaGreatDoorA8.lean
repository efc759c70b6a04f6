/- The walks of days and dates: padded, and the text of a day, in the program. -/
import Derived.Test.YtbfbgappinilmaaGreatDoorE2
import Derived.Test.YtbfbgappinilmaaGreatDoorShelf
import Derived.Lib.AppendIntMem
import Derived.Lib.ItoaLen
import Derived.Deep.QuietTactic
import Derived.BigQuiet
import Derived.Lib.Repeat
import Derived.Test.YtbfbgappinilmaaGreatDoorU2
import Derived.Test.YtbfbgappinilmaaGreatDoorF1
import Derived.WalkSpells
-- merged: E4 V0 VF Z0 A8
namespace Go.Proofs.YtbfbgappinilmaaGreatDoor
open Go.RowKit Limb Work
set_option linter.unusedVariables false
set_option linter.unusedSimpArgs false
def padN (n k:Nat):List UInt8:=List.replicate (k-(Lib.decDigits n).length) 48++Lib.decDigits n
def padS (n:Int) (k:Nat):ByteArray:=⟨(padN n.toNat k).toArray⟩
theorem nd_le:∀ (k u:Nat),u<10 ^ (k+1)->Lib.nDigits u<=k+1
 | 0,u,h=>by rw [Lib.nDigits_small (by simpa using h)];exact Nat.le_refl _
 | k+1,u,h=>by
  by_cases h1:u<10
  ·rw [Lib.nDigits_small h1];omega
  ·rw [Lib.nDigits_big h1]
   have:=nd_le k (u/10) (by rw [Nat.pow_succ] at h;omega)
   omega
theorem dec_len {n k:Nat} (hk:1<=k) (h:n<10 ^ k):1<=(Lib.decDigits n).length/\(Lib.decDigits n).length<=k:=by
 rw [Lib.decDigits_length]
 refine ⟨Lib.nDigits_pos n,?_⟩
 have:=nd_le (k-1) n (by rw [show k-1+1=k by omega];exact h)
 omega
theorem padN_len {n k:Nat} (hk:1<=k) (h:n<10 ^ k):(padN n k).length=k:=by
 have:=dec_len hk h
 unfold padN
 simp
 omega
theorem padS_size {n:Int} {k:Nat} (hk:1<=k) (h:n.toNat<10 ^ k):(padS n k).size=k:=by
 have:=padN_len hk h
 unfold padS
 show (padN n.toNat k).toArray.size=k
 simpa using this
theorem padS_one {n:Int} (h:0<=n/\n<=9):padS n 1=(⟨(Lib.decDigits n.toNat).toArray⟩:ByteArray):=by
 have:=dec_len (n:=n.toNat) (k:=1) (by decide) (by omega)
 unfold padS padN
 rw [show 1-(Lib.decDigits n.toNat).length=0 by omega]
 rfl
def Tab (w:World):Prop:=Lib.TabIs Tryz.prog w "internal/strconv.uint64pow10" .u64 Lib.pow10Tab
theorem Tab.below {w w':World} (h:Tab w) (hb:Below w.heap.size w w'):Tab w':=Lib.tabBelow_of_tabIs h w' hb
theorem itoa_c (n:Int) (w:World) (h0:0<=n) (h1:n<=9223372036854775807) (ht:Tab w) :
  Calls Tryz.prog 19 #[.int .i64 n] w fun e w'=>e=.returned (.string ⟨(Lib.decDigits n.toNat).toArray⟩)/\Below w.heap.size w w':=by
 refine (Tryz.strconv_Itoa n (by omega) h1 w ht).mono ?_
 rintro e w' ⟨rfl,k,os,rfl⟩
 refine ⟨?_,Lib.below_grow _ w (Nat.le_refl _) k os⟩
 unfold Lib.itoa
 rw [if_neg (by omega)]
def RetS (s:ByteArray) (w:World) (e:Ending) (w':World):Prop:=e=.returned (.string s)/\Below w.heap.size w w'
theorem rep_one (c:UInt8):∀ n,Lib.repeatL [c] n=List.replicate n c
 | 0=>rfl
 | n+1=>by rw [Lib.repeatL,rep_one c n,List.replicate_succ];rfl
set_option maxHeartbeats 1000000 in
set_option maxRecDepth 100000 in
theorem padded_c (n:Int) (k:Nat) (K:Int) (w:World) (hK:K=(k:Int)) (h0:0<=n) (hk0:1<=k) (hk:k<=4) (hn:n.toNat<10 ^ k) (ht:Tab w) :
  Calls Tryz.prog 174 #[.int .i64 n,.int .i64 K] w (RetS (padS n k) w):=by
 have hnb:n<=9999:=by
  have:10 ^ k<=10 ^ 4:=Nat.pow_le_pow_right (by decide) hk
  omega
 have hl:=dec_len hk0 hn
 obtain ⟨s,hs⟩:∃ s:ByteArray,(⟨(Lib.decDigits n.toNat).toArray⟩:ByteArray)=s:=⟨_,rfl⟩
 have hsl:s.data.toList=Lib.decDigits n.toNat:=by rw [<- hs]
 have hss:s.size=(Lib.decDigits n.toNat).length:=by rw [<- hsl];simp
 rw [<- hss] at hl
 obtain ⟨c,hc⟩:∃ c:Nat,k-s.size=c:=⟨_,rfl⟩
 have HREP:=Lib.hid (Tryz.strings_Repeat ⟨#[48]⟩ c)
 have HP:=Lib.hid (show padS n k=(⟨(Lib.repeatL [48] c).toArray⟩:ByteArray)++s by
  unfold padS padN
  rw [<- hss,hc,<- hsl,rep_one]
  apply ByteArray.ext
  rw [ByteArray.data_append]
  simp)
 have hI:=Lib.hid (fun w=>itoa_c n w h0 (by omega));rw [hs] at hI
 have E1:=Lib.hid (show K-(s.size:Int)=((c:Nat):Int) by omega)
 obtain ⟨r,hr⟩:∃ r:ByteArray,(⟨(Lib.repeatL [48] c).toArray⟩:ByteArray)=r:=⟨_,rfl⟩
 have hrs:r.size=c:=by rw [<- hr,rep_one];show (List.replicate c (48:UInt8)).toArray.size=c;simp
 have HR:=Lib.hid hr
 have hcond:¬ 9223372036854775807<r.size+s.size:=by omega
 have hK4:1<=K/\K<=4:=by omega
 have hc4:c<=4:=by omega
 clear hc hss hsl hs hr hrs hK hn hk hk0
 go_enter Tryz.func174,Tryz.ntmps174
 go_wp2_with fail
 refine (hI.out _ ht).mono ?_
 rintro e w1 ⟨rfl,hb1⟩
 go_wp2_with fail
 rw [E1.out]
 refine (HREP.out _ (by omega) (by show 1*c<=_;omega)).mono ?_
 rintro e w2 ⟨rfl,hb2⟩
 rw [show (⟨(Lib.repeatL (⟨#[48]⟩:ByteArray).data.toList c).toArray⟩:ByteArray)=r from HR.out]
 go_wp2
 go_ret
 exact ⟨congrArg (fun x=>Ending.returned (.string x)) (show r++s=padS n k by rw [HP.out,HR.out]),below_then hb2 hb1 hb1.size⟩
def formB (f:Int):Bool:=decide (1<=f/\f<=5)
theorem isform_c (f:Int) (w:World):Calls Tryz.prog 171 #[.int .i64 f] w fun e w'=>w=w'/\e=.returned (.bool (formB f)):=by
 by_cases h:1<=f/\f<=5
 ·rw [show formB f=true from decide_eq_true h]
  go_enter Tryz.func171,Tryz.ntmps171
  go_wp2_with (go_at_call 22;refine (out_no _ _ _ _ h).mono ?_;rintro e w1 ⟨rfl,rfl⟩)
  go_ret
  exact ⟨rfl,rfl⟩
 ·rw [show formB f=false from decide_eq_false h]
  go_enter Tryz.func171,Tryz.ntmps171
  go_wp2_with (go_at_call 22;refine (out_yes _ _ _ _ h).mono ?_;rintro e w1 ⟨rfl,rfl⟩)
  go_ret
  exact ⟨rfl,rfl⟩
def dtS (form day y m d z:Int):ByteArray :=
 if form=1 then padS y 4++padS m 2++padS d 2
 else if form=2 then padS (y%100) 2++padS m 2++padS d 2
 else if form=3 then padS d 2++padS m 2++padS y 4
 else if form=4 then padS y 4++⟨#[45]⟩++padS m 2++⟨#[45]⟩++padS d 2
 else padS z 4++padS (wk day z) 2++padS ((day-1)%7+1) 1
def RetSF (s:ByteArray) (f:Int) (w:World) (e:Ending) (w':World):Prop:=e=.returned (.tuple #[.string s,.int .i64 f])/\Below w.heap.size w w'
theorem RetSF.eq {s t:ByteArray} {f:Int} {w:World} {e:Ending} {w':World} (h:RetSF s f w e w') (he:s=t):RetSF t f w e w':=he ▸ h
set_option maxHeartbeats 2000000 in
set_option maxRecDepth 100000 in
theorem DayText_ok (day form y m d z zm zd:Int) (w:World) (h:formB form=true) (h1:1<=day) (h2:day<=3652059) (hD:DateIs day y m d) (hZ:DateIs (thu day) z zm zd) (ht:Tab w) :
  Calls Tryz.prog 153 #[.int .i64 day,.int .i64 form] w (RetSF (dtS form day y m d z) 0 w):=by
 obtain ⟨⟨y1,y2⟩,⟨m1,m2⟩,⟨d1,d2⟩,-,-,-⟩:=hD.facts
 obtain ⟨⟨z1,z2⟩,-,-,-,b1,b2⟩:=hZ.facts
 have hw:=wk_bd b1 b2
 have H:=Lib.hid h;have HD:=Lib.hid (dayB_mk ⟨h1,h2⟩)
 have HDI:=Lib.hid hD;have HZ:=Lib.hid hZ
 have hform:=of_decide_eq_true h
 clear h hD hZ b1 b2
 have hf:form=1∨form=2∨form=3∨form=4∨form=5:=by omega
 clear hform
 rcases hf with rfl | rfl | rfl | rfl | rfl
 -- FORMS
 ·skip
  have s0:(padS y 4).size=4:=padS_size (by omega) (by omega)
  have s1:(padS m 2).size=2:=padS_size (by omega) (by omega)
  have s2:(padS d 2).size=2:=padS_size (by omega) (by omega)
  have k1:¬ 9223372036854775807<(padS y 4).size+(padS m 2).size:=by rw [s0,s1];decide
  have k2:¬ 9223372036854775807<(padS y 4++padS m 2).size+(padS d 2).size:=by rw [ByteArray.size_append,s0,s1,s2];decide
  clear s0 s1 s2
  go_enter Tryz.func153,Tryz.ntmps153
  go_wp2_with fail
  refine (isform_c _ _).mono ?_
  rw [H.out]
  rintro e w1 ⟨rfl,rfl⟩
  go_wp2_with fail
  refine (isday_c _ _).mono ?_
  rw [HD.out]
  rintro e w1 ⟨rfl,rfl⟩
  go_wp2_with fail
  refine (dateof_c day y m d _ h1 h2 HDI.out).mono ?_
  rintro e w1 ⟨rfl,hb1⟩
  go_wp2_with fail
  refine (padded_c y 4 _ _ rfl (by omega) (by decide) (by decide) (by omega) (ht.below hb1)).mono ?_
  rintro e w2 ⟨rfl,hc0⟩
  have hd0:=below_then hc0 hb1 hb1.size
  go_wp2_with fail
  refine (padded_c m 2 _ _ rfl (by omega) (by decide) (by decide) (by omega) (ht.below hd0)).mono ?_
  rintro e w3 ⟨rfl,hc1⟩
  have hd1:=below_then hc1 hd0 hd0.size
  go_wp2_with fail
  refine (padded_c d 2 _ _ rfl (by omega) (by decide) (by decide) (by omega) (ht.below hd1)).mono ?_
  rintro e w4 ⟨rfl,hc2⟩
  have hd2:=below_then hc2 hd1 hd1.size
  go_wp2
  go_ret2
  exact ⟨rfl,hd2⟩
 ·skip
  have s0:(padS (y%100) 2).size=2:=padS_size (by omega) (by omega)
  have s1:(padS m 2).size=2:=padS_size (by omega) (by omega)
  have s2:(padS d 2).size=2:=padS_size (by omega) (by omega)
  have k1:¬ 9223372036854775807<(padS (y%100) 2).size+(padS m 2).size:=by rw [s0,s1];decide
  have k2:¬ 9223372036854775807<(padS (y%100) 2++padS m 2).size+(padS d 2).size:=by rw [ByteArray.size_append,s0,s1,s2];decide
  clear s0 s1 s2
  go_enter Tryz.func153,Tryz.ntmps153
  go_wp2_with fail
  refine (isform_c _ _).mono ?_
  rw [H.out]
  rintro e w1 ⟨rfl,rfl⟩
  go_wp2_with fail
  refine (isday_c _ _).mono ?_
  rw [HD.out]
  rintro e w1 ⟨rfl,rfl⟩
  go_wp2_with fail
  refine (dateof_c day y m d _ h1 h2 HDI.out).mono ?_
  rintro e w1 ⟨rfl,hb1⟩
  go_wp2_with fail
  refine (padded_c (y%100) 2 _ _ rfl (by omega) (by decide) (by decide) (by omega) (ht.below hb1)).mono ?_
  rintro e w2 ⟨rfl,hc0⟩
  have hd0:=below_then hc0 hb1 hb1.size
  go_wp2_with fail
  refine (padded_c m 2 _ _ rfl (by omega) (by decide) (by decide) (by omega) (ht.below hd0)).mono ?_
  rintro e w3 ⟨rfl,hc1⟩
  have hd1:=below_then hc1 hd0 hd0.size
  go_wp2_with fail
  refine (padded_c d 2 _ _ rfl (by omega) (by decide) (by decide) (by omega) (ht.below hd1)).mono ?_
  rintro e w4 ⟨rfl,hc2⟩
  have hd2:=below_then hc2 hd1 hd1.size
  go_wp2
  go_ret2
  exact ⟨rfl,hd2⟩
 ·skip
  have s0:(padS d 2).size=2:=padS_size (by omega) (by omega)
  have s1:(padS m 2).size=2:=padS_size (by omega) (by omega)
  have s2:(padS y 4).size=4:=padS_size (by omega) (by omega)
  have k1:¬ 9223372036854775807<(padS d 2).size+(padS m 2).size:=by rw [s0,s1];decide
  have k2:¬ 9223372036854775807<(padS d 2++padS m 2).size+(padS y 4).size:=by rw [ByteArray.size_append,s0,s1,s2];decide
  clear s0 s1 s2
  go_enter Tryz.func153,Tryz.ntmps153
  go_wp2_with fail
  refine (isform_c _ _).mono ?_
  rw [H.out]
  rintro e w1 ⟨rfl,rfl⟩
  go_wp2_with fail
  refine (isday_c _ _).mono ?_
  rw [HD.out]
  rintro e w1 ⟨rfl,rfl⟩
  go_wp2_with fail
  refine (dateof_c day y m d _ h1 h2 HDI.out).mono ?_
  rintro e w1 ⟨rfl,hb1⟩
  go_wp2_with fail
  refine (padded_c d 2 _ _ rfl (by omega) (by decide) (by decide) (by omega) (ht.below hb1)).mono ?_
  rintro e w2 ⟨rfl,hc0⟩
  have hd0:=below_then hc0 hb1 hb1.size
  go_wp2_with fail
  refine (padded_c m 2 _ _ rfl (by omega) (by decide) (by decide) (by omega) (ht.below hd0)).mono ?_
  rintro e w3 ⟨rfl,hc1⟩
  have hd1:=below_then hc1 hd0 hd0.size
  go_wp2_with fail
  refine (padded_c y 4 _ _ rfl (by omega) (by decide) (by decide) (by omega) (ht.below hd1)).mono ?_
  rintro e w4 ⟨rfl,hc2⟩
  have hd2:=below_then hc2 hd1 hd1.size
  go_wp2
  go_ret2
  exact ⟨rfl,hd2⟩
 ·skip
  have s0:(padS y 4).size=4:=padS_size (by omega) (by omega)
  have s1:(padS m 2).size=2:=padS_size (by omega) (by omega)
  have s2:(padS d 2).size=2:=padS_size (by omega) (by omega)
  have k1:¬ 9223372036854775807<(padS y 4).size+(⟨#[45]⟩:ByteArray).size:=by rw [s0];decide
  have k2:¬ 9223372036854775807<(padS y 4++⟨#[45]⟩).size+(padS m 2).size:=by rw [ByteArray.size_append,s0,s1];decide
  have k3:¬ 9223372036854775807<(padS y 4++⟨#[45]⟩++padS m 2).size+(⟨#[45]⟩:ByteArray).size:=by rw [ByteArray.size_append,ByteArray.size_append,s0,s1];decide
  have k4:¬ 9223372036854775807<(padS y 4++⟨#[45]⟩++padS m 2++⟨#[45]⟩).size+(padS d 2).size:=by rw [ByteArray.size_append,ByteArray.size_append,ByteArray.size_append,s0,s1,s2];decide
  clear s0 s1 s2
  go_enter Tryz.func153,Tryz.ntmps153
  go_wp2_with fail
  refine (isform_c _ _).mono ?_
  rw [H.out]
  rintro e w1 ⟨rfl,rfl⟩
  go_wp2_with fail
  refine (isday_c _ _).mono ?_
  rw [HD.out]
  rintro e w1 ⟨rfl,rfl⟩
  go_wp2_with fail
  refine (dateof_c day y m d _ h1 h2 HDI.out).mono ?_
  rintro e w1 ⟨rfl,hb1⟩
  go_wp2_with fail
  refine (padded_c y 4 _ _ rfl (by omega) (by decide) (by decide) (by omega) (ht.below hb1)).mono ?_
  rintro e w2 ⟨rfl,hc0⟩
  have hd0:=below_then hc0 hb1 hb1.size
  go_wp2_with fail
  refine (padded_c m 2 _ _ rfl (by omega) (by decide) (by decide) (by omega) (ht.below hd0)).mono ?_
  rintro e w3 ⟨rfl,hc1⟩
  have hd1:=below_then hc1 hd0 hd0.size
  go_wp2_with fail
  refine (padded_c d 2 _ _ rfl (by omega) (by decide) (by decide) (by omega) (ht.below hd1)).mono ?_
  rintro e w4 ⟨rfl,hc2⟩
  have hd2:=below_then hc2 hd1 hd1.size
  go_wp2
  go_ret2
  exact ⟨rfl,hd2⟩
 ·skip
  have s0:(padS z 4).size=4:=padS_size (by omega) (by omega)
  have s1:(padS (wk day z) 2).size=2:=padS_size (by omega) (by omega)
  have s2:(padS ((day-1)%7+1) 1).size=1:=padS_size (by omega) (by omega)
  have k1:¬ 9223372036854775807<(padS z 4).size+(padS (wk day z) 2).size:=by rw [s0,s1];decide
  have k2:¬ 9223372036854775807<(padS z 4++padS (wk day z) 2).size+(padS ((day-1)%7+1) 1).size:=by rw [ByteArray.size_append,s0,s1,s2];decide
  clear s0 s1 s2
  go_enter Tryz.func153,Tryz.ntmps153
  go_wp2_with fail
  refine (isform_c _ _).mono ?_
  rw [H.out]
  rintro e w1 ⟨rfl,rfl⟩
  go_wp2_with fail
  refine (isday_c _ _).mono ?_
  rw [HD.out]
  rintro e w1 ⟨rfl,rfl⟩
  go_wp2_with fail
  refine (dateof_c day y m d _ h1 h2 HDI.out).mono ?_
  rintro e w1 ⟨rfl,hb1⟩
  go_wp2_with fail
  refine (weekof_c day z zm zd _ h1 h2 HZ.out).mono ?_
  rintro e w1b ⟨rfl,hb1b⟩
  have hb1:=below_then hb1b hb1 hb1.size
  go_wp2_with fail
  refine (padded_c z 4 _ _ rfl (by omega) (by decide) (by decide) (by omega) (ht.below hb1)).mono ?_
  rintro e w2 ⟨rfl,hc0⟩
  have hd0:=below_then hc0 hb1 hb1.size
  go_wp2_with fail
  refine (padded_c (wk day z) 2 _ _ rfl (by omega) (by decide) (by decide) (by omega) (ht.below hd0)).mono ?_
  rintro e w3 ⟨rfl,hc1⟩
  have hd1:=below_then hc1 hd0 hd0.size
  go_wp2_with fail
  refine (weekday_c _ _ ⟨h1,by omega⟩).mono ?_
  rintro e w5 ⟨rfl,rfl⟩
  go_wp2_with fail
  refine (itoa_c _ _ (by omega) (by omega) (ht.below hd1)).mono ?_
  rintro e w4 ⟨rfl,hc2⟩
  rw [show (⟨(Lib.decDigits ((day-1)%7+1).toNat).toArray⟩:ByteArray)=padS ((day-1)%7+1) 1 from (padS_one (by omega)).symm]
  have hd2:=below_then hc2 hd1 hd1.size
  go_wp2
  go_ret2
  exact ⟨rfl,hd2⟩
 -- END FORMS
end Go.Proofs.YtbfbgappinilmaaGreatDoor
namespace Go.Proofs.YtbfbgappinilmaaGreatDoor
open Limb Nmb Work
set_option linter.unusedVariables false
set_option linter.unusedSimpArgs false
def leastF (u:Int):Nat->Int×Int
 | 0=>(u,0)
 | p+1=>if u%10=0 then leastF (u/10) p else (u,((p+1:Nat):Int))
theorem least_step {u:Int} {p:Nat} (h:u%10=0):leastF u (p+1)=leastF (u/10) p:=if_pos h
theorem least_stop {u:Int} {p:Nat} (h:¬ u%10=0):leastF u (p+1)=(u,((p+1:Nat):Int)):=if_neg h
theorem tmod_ten {u:Int} : (u.tmod 10=0)↔(u%10=0):=by
 constructor<;>intro h<;>have:=Int.tmod_eq_emod (a:=u) (b:=10)<;>split at this<;>omega
theorem tdiv_ten {u:Int} (h:u%10=0):u.tdiv 10=u/10:=Int.tdiv_eq_ediv_of_dvd (Int.dvd_of_emod_eq_zero h)
theorem least_le (u:Int):∀ p:Nat,(leastF u p).1.natAbs<=u.natAbs/\0<=(leastF u p).2/\(leastF u p).2<=p:=by
 intro p
 induction p generalizing u with
 | zero=>exact ⟨Nat.le_refl _,Int.le_refl _,Int.le_refl _⟩
 | succ p ih=>
  by_cases h:u%10=0
  ·rw [least_step h]
   have:=ih (u/10)
   omega
  ·rw [least_stop h]
   exact ⟨Nat.le_refl _,by omega,Int.le_refl _⟩
theorem least_dec {u p:Int} (h:decB u p=true):decB (leastF u p.toNat).1 (leastF u p.toNat).2=true:=by
 have h1:=decB_out h
 have h2:=least_le u p.toNat
 exact decB_mk (by omega)
def lstB (u p:Int):Bool:=decide (leastF u p.toNat=(u,p))
def sdig (z:Int):List UInt8:=(if z<0 then [45] else [])++Lib.decDigits z.natAbs
theorem sdig_neg {z:Int} (h:z<0):sdig z=45 :: Lib.decDigits z.natAbs:=by unfold sdig;rw [if_pos h];rfl
theorem sdig_pos {z:Int} (h:¬ z<0):sdig z=Lib.decDigits z.natAbs:=by unfold sdig;rw [if_neg h];rfl
noncomputable def dateC (day:Int):Int×Int×Int:=if h:1<=day/\day<=3652059 then (⟨(date_ex h.1 h.2).choose,(date_ex h.1 h.2).choose_spec.choose,(date_ex h.1 h.2).choose_spec.choose_spec.choose⟩) else (0,0,0)
theorem dateC_is {day:Int} (h:1<=day/\day<=3652059):DateIs day (dateC day).1 (dateC day).2.1 (dateC day).2.2:=by
 unfold dateC
 rw [dif_pos h]
 exact (date_ex h.1 h.2).choose_spec.choose_spec.choose_spec
noncomputable def dayS (form day:Int):ByteArray:=dtS form day (dateC day).1 (dateC day).2.1 (dateC day).2.2 (dateC (thu day)).1
theorem num_rng {y m d:Int} (h:dateB y m d=true):1<=num y m d/\num y m d<=3652059:=num_day h
theorem readO_day {form pv:Int} {l:List UInt8} {v:Int} (h:readO form pv l=some v):1<=v/\v<=3652059:=by
 have hd:∀ y m d:Int,dayO y m d=some v->1<=v/\v<=3652059:=fun y m d hh=>by
  unfold dayO at hh
  split at hh
  ·injection hh with hh;rw [<- hh];exact num_rng (by assumption)
  ·cases hh
 have hw:∀ y m d:Int,weekO y m d=some v->1<=v/\v<=3652059:=fun y m d hh=>by
  unfold weekO at hh
  split at hh
  ·rename_i hb
   injection hh with hh
   rw [<- hh]
   exact (of_decide_eq_true hb).2.2.1
  ·cases hh
 unfold readO at h
 repeat' split at h
 all_goals first | (exact hd _ _ _ h) | (exact hw _ _ _ h) | (cases h)
theorem made_dec {z:Int} {p:Int} (hp:0<=p/\p<=9) (h:(made z p).2.2=0):decB (made z p).1 (made z p).2.1=true:=by
 unfold made at h ⊢
 by_cases hz:z.natAbs<=1000000000000000
 ·rw [if_pos hz]
  exact decB_mk ⟨by show -1000000000000000<=z;omega,by show z<=1000000000000000;omega,hp.1,hp.2⟩
 ·rw [if_neg hz] at h
  cases h
theorem readR_dec {neg:Bool} {l:List UInt8} {nb:Nat} (hn:nb<=9) (h:(readR neg l nb).2.2=0):decB (readR neg l nb).1 (readR neg l nb).2.1=true:=by
 unfold readR at h ⊢
 cases neg with
 | true=>
  simp only [if_true] at h ⊢
  by_cases hz:numL l=0
  ·rw [if_pos hz] at h;cases h
  ·rw [if_neg hz] at h ⊢;exact made_dec (by omega) h
 | false=>
  simp only [Bool.false_eq_true,if_false] at h ⊢
  exact made_dec (by omega) h
theorem readText_dec {l:List UInt8} (h:(readText l).2.2=0):decB (readText l).1 (readText l).2.1=true:=by
 unfold readText at h ⊢
 simp only at h ⊢
 generalize hC:cutL (if (l.head? == some 45)=true then l.tail else l) 46=C at h ⊢
 by_cases hb:(decide (40<l.length)||!wholeB C.1||(C.2.2&&(!digB C.2.1||decide (9<C.2.1.length))))=true
 ·rw [if_pos hb] at h;cases h
 ·rw [if_neg hb] at h ⊢
  refine readR_dec ?_ h
  have h1:=(cutL_len (if (l.head? == some 45)=true then l.tail else l) 46).2
  rw [hC] at h1
  cases hc:C.2.2 with
  | false=>rw [h1 hc];simp
  | true=>
   rw [hc] at hb
   simp at hb
   omega
def decOk (places:Int) (l:List UInt8):Bool:=decide ((readText l).2.2=0)&&decide ((readText l).2.1<=places)&&lstB (readText l).1 (readText l).2.1
def dayOk (l:List UInt8):Bool:=(readO 1 1 l).isSome
def txtOk (l:List UInt8):Bool:=inL l 32 126&&decide (Lib.trimS l [32]=l)
def valOk (c:Col) (l:List UInt8):Bool:=if c.kind=2 then decOk c.places l else if c.kind=3 then dayOk l else txtOk l
def dayN (form:Int) (l:List UInt8):Int:=(readO form 1 l).getD 0
noncomputable def wrS (mark:Int) (c:Col) (s:ByteArray):ByteArray :=
 if s=⟨#[]⟩ then ⟨#[]⟩
 else if c.kind=2/\mark=0 then bs (sdig (scaled (readText s.data.toList).1 (readText s.data.toList).2.1 c.places.toNat))
 else if c.kind=3 then dayS c.form (dayN 1 s.data.toList)
 else s
noncomputable def valF (mark quote:Int) (c:Col) (s:ByteArray):Int :=
 if s=⟨#[]⟩ then (if c.need=true then 13 else 0)
 else if valOk c s.data.toList=false then 6
 else if c.width<(wrS mark c s).size then 16
 else if mark≠0/\quote=0/\0<=Lib.indexByte s.data.toList (UInt8.ofNat mark.toNat) then 12
 else 0
def frF (g:Nat->Int):Nat->Int×Int
 | 0=>(0,0)
 | n+1=>if (frF g n).2=0 then (if g n=0 then (0,0) else ((n:Int),g n)) else frF g n
theorem frF_no {g:Nat->Int} : ∀ {n:Nat},(∀ j,j<n->g j=0)->frF g n=(0,0)
 | 0,_=>rfl
 | n+1,h=>by
  unfold frF
  rw [frF_no (fun j hj=>h j (by omega)),if_pos rfl,if_pos (h n (by omega))]
theorem frF_hit {g:Nat->Int} {j:Nat} (h:∀ t,t<j->g t=0) (hj:g j≠0):∀ {n:Nat},j<n->frF g n=((j:Int),g j)
 | n+1,hn=>by
  unfold frF
  rcases Nat.lt_or_ge j n with hlt | hge
  ·rw [frF_hit h hj hlt,if_neg hj]
  ·obtain rfl:j=n:=by omega
   rw [frF_no h,if_pos rfl,if_neg hj]
structure RowP where
 tag:ByteArray
 vals:List ByteArray
 deriving DecidableEq
noncomputable def rowF (f:Fmt) (r:RowP):Int×Int :=
 if katI f r.tag<0 then (0,9)
 else if r.vals.length≠(katK f r.tag).fields.length then (0,3)
 else frF (fun j=>valF f.mark f.quote (cA (katK f r.tag).fields j) (wd r.vals j)) (katK f r.tag).fields.length
theorem dec_cases (pl:Int) (l:List UInt8):((readText l).2.2≠0/\decOk pl l=false)∨((readText l).2.2=0/\∃ p:Nat,(readText l).2.1=(p:Int)/\decB (readText l).1 (p:Int)=true/\decOk pl l=(decide ((p:Int)<=pl)&&decide (leastF (readText l).1 p=((readText l).1,(p:Int))))):=by
 by_cases h:(readText l).2.2=0
 ·refine .inr ⟨h,(readText l).2.1.toNat,?_⟩
  have hd:=readText_dec h
  have h1:=decB_out hd
  have e:(readText l).2.1=((readText l).2.1.toNat:Int):=by omega
  refine ⟨e,by rw [<- e];exact hd,?_⟩
  unfold decOk lstB
  rw [<- e,decide_eq_true h]
  rfl
 ·exact .inl ⟨h,by unfold decOk;rw [decide_eq_false h];rfl⟩
theorem dw_id (p:UInt8->Bool) (l:List UInt8):l.dropWhile p=l↔∀ a,l.head?=some a->p a=false:=by
 cases l with
 | nil=>simp
 | cons a t=>
  cases h:p a with
  | true=>
   rw [List.dropWhile_cons_of_pos h]
   constructor
   ·intro e
    exfalso
    have h1:=(List.dropWhile_suffix p (l:=t)).length_le
    rw [e,List.length_cons] at h1
    omega
   ·intro hh
    rw [hh a rfl] at h
    cases h
  | false=>
   rw [List.dropWhile_cons_of_neg (by rw [h];simp)]
   exact ⟨fun _ x hx=>by injection hx with hx;rw [<- hx];exact h,fun _=>rfl⟩
theorem trim_id (l:List UInt8):Lib.trimS l [32]=l↔l.head? ≠ some 32/\l.getLast? ≠ some 32:=by
 have e:Lib.trimS l [32]=(l.reverse.dropWhile ([32].contains ·)).reverse.dropWhile ([32].contains ·):=rfl
 have hp:∀ a:UInt8,([32].contains a=false)↔a≠32:=fun a=>by simp
 have h1:=dw_id ([32].contains ·) l
 have h2:=dw_id ([32].contains ·) l.reverse
 rw [List.head?_reverse] at h2
 rw [e]
 constructor
 ·intro h
  have h3:=(List.dropWhile_suffix ([32].contains ·) (l:=l.reverse)).length_le
  have h4:=(List.dropWhile_suffix ([32].contains ·) (l:=(l.reverse.dropWhile ([32].contains ·)).reverse)).length_le
  rw [h] at h4
  have h5:l.reverse.dropWhile ([32].contains ·)=l.reverse:=(List.dropWhile_suffix _).eq_of_length (by simp at h3 h4 ⊢;omega)
  rw [h5,List.reverse_reverse] at h
  exact ⟨fun hh=>(hp _).1 (h1.1 h 32 hh) rfl,fun hh=>(hp _).1 (h2.1 h5 32 hh) rfl⟩
 ·intro ⟨ha,hb⟩
  rw [h2.2 (fun a hh=>(hp a).2 (fun e=>hb (by rw [hh,e]))),List.reverse_reverse]
  exact h1.2 (fun a hh=>(hp a).2 (fun e=>ha (by rw [hh,e])))
structure ColK (mark:Int) (c:Col):Prop where
 kind:1<=c.kind/\c.kind<=3
 width:1<=c.width/\c.width<=100
 places:c.kind=2->0<=c.places/\c.places<=9
 form:c.kind=3->formW c.form≠0
 fixed:mark=0->c.kind≠3->c.fill=32∨(c.kind=2/\c.fill=48/\c.right=true)
 day:mark=0->c.kind=3->c.width=formW c.form
 left:c.kind=3->c.right=false
theorem colF_ok {mark:Int} {c:Col} {b:List Col} (h:colF mark c b=0):ColK mark c:=by
 unfold colF at h
 split at h;· cases h
 split at h;· cases h
 split at h;· cases h
 rename_i h3
 split at h;· cases h
 rename_i h4
 split at h;· cases h
 rename_i h5
 split at h;· cases h
 rename_i h6
 split at h;· cases h
 rename_i h7
 have hi:idleB mark c=true:=by
  cases hq:idleB mark c with
  | true=>rfl
  | false=>exact absurd hq h7
 have hl:c.kind=3->c.right=false:=fun hk=>by
  unfold idleB at hi
  rw [hk] at hi
  cases hr:c.right with
  | false=>rfl
  | true=>rw [hr] at hi;simp at hi
 have hw:1<=c.width/\c.width<=100:=Classical.byContradiction h4
 have hk:1<=c.kind/\c.kind<=3:=Classical.byContradiction h3
 refine ⟨hk,hw,fun e=>Classical.byContradiction fun k=>h5 ⟨e,k⟩,fun e k=>h6 ⟨e,k⟩,fun hm hk=>?_,fun hm hk=>?_,hl⟩
 ·split at h
  ·rename_i h8;exact absurd hm h8
  split at h;· cases h
  rename_i h9
  by_cases hf:c.fill=32
  ·exact .inl hf
  ·exact .inr (Classical.byContradiction fun k=>h9 ⟨hk,hf,k⟩)
 ·split at h
  ·rename_i h8;exact absurd hm h8
  split at h;· cases h
  split at h;· cases h
  rename_i h10
  exact Classical.byContradiction fun k=>h10 ⟨hk,k⟩
theorem formB_of {n:Int} (h:formW n≠0):formB n=true/\n≠2:=by
 unfold formW at h
 have:n=1∨n=3∨n=4∨n=5:=by
  split at h
  ·omega
  ·split at h
   ·omega
   ·split at h
    ·omega
    ·exact absurd rfl h
 rcases this with rfl | rfl | rfl | rfl<;>exact ⟨by decide,by decide⟩
structure KndK (mark:Int) (ks:List RKd) (i:Nat):Prop where
 tag:1<=(kA ks i).tag.size/\(kA ks i).tag.size<=6
 letters:tagL (kA ks i).tag.data.toList=true
 even:mark=0->(kA ks i).tag.size=(kA ks 0).tag.size
 many:(kA ks i).fields.length<=50
 cols:∀ j,j<(kA ks i).fields.length->ColK mark (cA (kA ks i).fields j)
 once:∀ j j',j<(kA ks i).fields.length->j'<j->(cA (kA ks i).fields j').name≠(cA (kA ks i).fields j).name
 first:∀ j,j<i->(kA ks j).tag≠(kA ks i).tag
 most:0<=(kA ks i).most/\(kA ks i).most<=2000
theorem colF_once {mark:Int} {c:Col} {b:List Col} (h:colF mark c b=0):b.any (nameIs c.name)=false:=by
 unfold colF at h
 split at h;· cases h
 split at h;· cases h
 rename_i h2
 cases hq:b.any (nameIs c.name) with
 | true=>exact absurd hq h2
 | false=>rfl
theorem kindF_ok {m:Int} {ks:List RKd} {i:Nat} (hi:i<ks.length) (h:kindF m ks i=0):KndK m ks i:=by
 unfold kindF at h
 split at h;· cases h
 rename_i h1
 split at h;· cases h
 rename_i h2
 split at h;· cases h
 rename_i h3
 split at h;· cases h
 rename_i h4
 split at h
 ·rename_i h5;exact absurd h h5
 rename_i h5
 split at h;· cases h
 rename_i h6
 have h5:colsF m (kA ks i).fields=0:=Classical.byContradiction h5
 unfold colsF at h5
 have h7:=fstF_zero h5
 refine ⟨Classical.byContradiction fun e=>h1 (.inl e),?_,fun hm=>Classical.byContradiction fun e=>h3 ⟨hm,e⟩,by omega,fun j hj=>colF_ok (h7 j hj),fun j j' hj hj' e=>?_,fun j hj e=>?_,by omega⟩
 ·cases hq:tagL (kA ks i).tag.data.toList with
  | true=>rfl
  | false=>exact absurd (.inr hq) h1
 ·have h8:=colF_once (h7 j hj)
  have:((kA ks i).fields.take j).any (nameIs (cA (kA ks i).fields j).name)=true:=List.any_eq_true.2 ⟨cA (kA ks i).fields j',by rw [List.mem_iff_getElem];exact ⟨j',by rw [List.length_take];omega,by rw [List.getElem_take,cA_get]⟩,decide_eq_true e⟩
  rw [this] at h8
  cases h8
 ·exact h2 (List.any_eq_true.2 ⟨kA ks j,by rw [List.mem_iff_getElem];exact ⟨j,by rw [List.length_take];omega,by rw [List.getElem_take,kA_get]⟩,decide_eq_true e⟩)
structure FmtK (f:Fmt):Prop where
 marks:f.mark≠0->markF f.mark=false/\(f.quote≠0->markF f.quote=false)/\f.mark≠f.quote
 none:f.mark=0->f.quote=0
 some:1<=f.kinds.length/\f.kinds.length<=30
 kinds:∀ i,i<f.kinds.length->KndK f.mark f.kinds i
theorem checkF_ok {f:Fmt} (h:checkF f=0):FmtK f:=by
 unfold checkF at h
 split at h
 ·rename_i h1;exact absurd h h1
 rename_i h1
 split at h;· cases h
 rename_i h2
 split at h;· cases h
 rename_i h3
 split at h
 ·rename_i h4;exact absurd h h4
 rename_i h4
 have h1:marksF f.mark f.quote=0:=Classical.byContradiction h1
 have h4:fstF (kindF f.mark f.kinds) f.kinds.length=0:=Classical.byContradiction h4
 unfold marksF at h1
 split at h1;· cases h1
 rename_i e1
 split at h1;· cases h1
 rename_i e2
 refine ⟨fun hm=>⟨?_,fun hq=>?_,fun e=>e1 ⟨hm,.inr (.inr e)⟩⟩,fun hm=>Classical.byContradiction fun e=>e2 ⟨hm,e⟩,by omega,fun i hi=>kindF_ok hi (fstF_zero h4 i hi)⟩
 ·cases hq:markF f.mark with
  | false=>rfl
  | true=>exact absurd ⟨hm,.inl hq⟩ e1
 ·cases hq2:markF f.quote with
  | false=>rfl
  | true=>exact absurd ⟨hm,.inr (.inl ⟨hq,hq2⟩)⟩ e1
theorem markF_rng {b:Int} (h:markF b=false):32<=b/\b<=126/\b≠45/\b≠46/\¬ (48<=b/\b<=57)/\¬ (65<=b/\b<=90)/\¬ (97<=b/\b<=122):=by
 unfold markF at h
 simp only [Bool.or_eq_false_iff,decide_eq_false_iff_not] at h
 obtain ⟨⟨⟨⟨⟨h1,h2⟩,h3⟩,h4⟩,h5⟩,h6⟩:=h
 have h7:¬ (48<=b/\b<=57)/\¬ (65<=b/\b<=90):=by
  unfold tagC at h3
  simp only [Bool.or_eq_false_iff,decide_eq_false_iff_not] at h3
  omega
 omega
end Go.Proofs.YtbfbgappinilmaaGreatDoor
namespace Go.Proofs.YtbfbgappinilmaaGreatDoor
open Go.RowKit Limb
end Go.Proofs.YtbfbgappinilmaaGreatDoor
