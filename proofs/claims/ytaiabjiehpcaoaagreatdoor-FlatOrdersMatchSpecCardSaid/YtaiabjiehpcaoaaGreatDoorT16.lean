/- The walks of days and dates: padded, the text of a day, and months later, in the reference. The walk of amount.ReadImplied. -/
import Derived.Test.YtaiabjiehpcaoaaGreatDoorK5
import Derived.Test.YtaiabjiehpcaoaaGreatDoorA8
import Derived.Test.YtaiabjiehpcaoaaGreatDoorA7
import Derived.Deep.RegionHeld3
import Derived.Test.YtaiabjiehpcaoaaGreatDoorU2
import Derived.Test.YtaiabjiehpcaoaaGreatDoorE1
-- merged: E5 T12 T16
set_option maxHeartbeats 2000000
set_option maxRecDepth 100000
namespace Go.Proofs.YtaiabjiehpcaoaaGreatDoor
open Go.RowKit Limb Work
set_option linter.unusedVariables false
set_option linter.unusedSimpArgs false
theorem QaG (n:Int) (k:Nat) (K:Int) (w:World) (hK:K=(k:Int)) (h0:0<=n) (hk0:1<=k) (hk:k<=4) (hn:n.toNat<10 ^ k) (ht:Tab w) :
  Calls Tryz.prog 247 #[.int .i64 n,.int .i64 K] w (RetS (padS n k) w):=by
 have hnb:n<=9999:=by
  have:10 ^ k<=10 ^ 4:=Nat.pow_le_pow_right (by decide) hk
  omega
 have hl:=dec_len hk0 hn
 obtain ⟨s,hs⟩:∃ s:ByteArray,(⟨(Lib.decDigits n.toNat).toArray⟩:ByteArray)=s:=⟨_,rfl⟩
 have hsl:s.data.toList=Lib.decDigits n.toNat:=by rw [<- hs]
 have hss:s.size=(Lib.decDigits n.toNat).length:=by rw [<- hsl];simp
 rw [<- hss] at hl
 obtain ⟨c,hc⟩:∃ c:Nat,k-s.size=c:=⟨_,rfl⟩
 have HREP:=Hd (Tryz.strings_Repeat ⟨#[48]⟩ c)
 have HP:=Hd (show padS n k=(⟨(Lib.repeatL [48] c).toArray⟩:ByteArray)++s by
  unfold padS padN
  rw [<- hss,hc,<- hsl,rep_one]
  apply ByteArray.ext
  rw [ByteArray.data_append]
  simp)
 have hI:=Hd (fun w=>itoa_c n w h0 (by omega));rw [hs] at hI
 have E1:=Hd (show max (0:Int) (K-(s.size:Int))=((c:Nat):Int) by omega)
 obtain ⟨r,hr⟩:∃ r:ByteArray,(⟨(Lib.repeatL [48] c).toArray⟩:ByteArray)=r:=⟨_,rfl⟩
 have hrs:r.size=c:=by rw [<- hr,rep_one];show (List.replicate c (48:UInt8)).toArray.size=c;simp
 have HR:=Hd hr
 have hcond:¬ 9223372036854775807<r.size+s.size:=by omega
 have hK4:1<=K/\K<=4:=by omega
 have hc4:c<=4:=by omega
 clear hc hss hsl hs hr hrs hK hn hk hk0
 go_enter Tryz.func247,Tryz.ntmps247
 go_wp2_with fail
 refine (hI.out _ ht).mono ?_
 rintro e w1 ⟨rfl,hb1⟩
 go_wp2_with fail
 rw [E1.out]
 refine (HREP.out _ (by omega) (by show 1*c<=_;omega)).mono ?_
 rintro e w2 ⟨rfl,hb2⟩
 rw [show (⟨(Lib.repeatL (⟨#[48]⟩:ByteArray).data.toList c).toArray⟩:ByteArray)=r from HR.out]
 go_wp2
 go_ret
 exact ⟨congrArg (fun x=>Ending.returned (.string x)) (show r++s=padS n k by rw [HP.out,HR.out]),Qab hb2 hb1 hb1.size⟩
theorem rdaytext_c (day form y m d z zm zd:Int) (w:World) (hform:1<=form/\form<=5) (h1:1<=day) (h2:day<=3652059) (hD:DateIs day y m d) (hZ:DateIs (thu day) z zm zd) (ht:Tab w) :
  Calls Tryz.prog 209 #[.int .i64 day,.int .i64 form] w (RetS (dtS form day y m d z) w):=by
 obtain ⟨⟨y1,y2⟩,⟨m1,m2⟩,⟨d1,d2⟩,-,-,-⟩:=hD.facts
 obtain ⟨⟨z1,z2⟩,-,-,-,b1,b2⟩:=hZ.facts
 have hw:=wk_bd b1 b2
 have HDI:=Hd hD;have HZ:=Hd hZ
 clear hD hZ b1 b2
 have hf:form=1∨form=2∨form=3∨form=4∨form=5:=by omega
 clear hform
 rcases hf with rfl | rfl | rfl | rfl | rfl
 -- FORMS
 ·skip
  have s0:(padS y 4).size=4:=Qar (by omega) (by omega)
  have s1:(padS m 2).size=2:=Qar (by omega) (by omega)
  have s2:(padS d 2).size=2:=Qar (by omega) (by omega)
  have k1:¬ 9223372036854775807<(padS y 4).size+(padS m 2).size:=by rw [s0,s1];decide
  have k2:¬ 9223372036854775807<(padS y 4++padS m 2).size+(padS d 2).size:=by rw [ByteArray.size_append,s0,s1,s2];decide
  clear s0 s1 s2
  go_enter Tryz.func209,Tryz.ntmps209
  go_wp2_with fail
  refine (rdateof_c day y m d _ h1 h2 HDI.out).mono ?_
  rintro e w1 ⟨rfl,rfl⟩
  have hb1:=Below.refl w.heap.size w
  go_wp2_with fail
  refine (QaG y 4 _ _ rfl (by omega) (by decide) (by decide) (by omega) (ht.below hb1)).mono ?_
  rintro e w2 ⟨rfl,hc0⟩
  have hd0:=Qab hc0 hb1 hb1.size
  go_wp2_with fail
  refine (QaG m 2 _ _ rfl (by omega) (by decide) (by decide) (by omega) (ht.below hd0)).mono ?_
  rintro e w3 ⟨rfl,hc1⟩
  have hd1:=Qab hc1 hd0 hd0.size
  go_wp2_with fail
  refine (QaG d 2 _ _ rfl (by omega) (by decide) (by decide) (by omega) (ht.below hd1)).mono ?_
  rintro e w4 ⟨rfl,hc2⟩
  have hd2:=Qab hc2 hd1 hd1.size
  go_wp2
  go_ret
  exact ⟨rfl,hd2⟩
 ·skip
  have s0:(padS (y%100) 2).size=2:=Qar (by omega) (by omega)
  have s1:(padS m 2).size=2:=Qar (by omega) (by omega)
  have s2:(padS d 2).size=2:=Qar (by omega) (by omega)
  have k1:¬ 9223372036854775807<(padS (y%100) 2).size+(padS m 2).size:=by rw [s0,s1];decide
  have k2:¬ 9223372036854775807<(padS (y%100) 2++padS m 2).size+(padS d 2).size:=by rw [ByteArray.size_append,s0,s1,s2];decide
  clear s0 s1 s2
  go_enter Tryz.func209,Tryz.ntmps209
  go_wp2_with fail
  refine (rdateof_c day y m d _ h1 h2 HDI.out).mono ?_
  rintro e w1 ⟨rfl,rfl⟩
  have hb1:=Below.refl w.heap.size w
  go_wp2_with fail
  refine (QaG (y%100) 2 _ _ rfl (by omega) (by decide) (by decide) (by omega) (ht.below hb1)).mono ?_
  rintro e w2 ⟨rfl,hc0⟩
  have hd0:=Qab hc0 hb1 hb1.size
  go_wp2_with fail
  refine (QaG m 2 _ _ rfl (by omega) (by decide) (by decide) (by omega) (ht.below hd0)).mono ?_
  rintro e w3 ⟨rfl,hc1⟩
  have hd1:=Qab hc1 hd0 hd0.size
  go_wp2_with fail
  refine (QaG d 2 _ _ rfl (by omega) (by decide) (by decide) (by omega) (ht.below hd1)).mono ?_
  rintro e w4 ⟨rfl,hc2⟩
  have hd2:=Qab hc2 hd1 hd1.size
  go_wp2
  go_ret
  exact ⟨rfl,hd2⟩
 ·skip
  have s0:(padS d 2).size=2:=Qar (by omega) (by omega)
  have s1:(padS m 2).size=2:=Qar (by omega) (by omega)
  have s2:(padS y 4).size=4:=Qar (by omega) (by omega)
  have k1:¬ 9223372036854775807<(padS d 2).size+(padS m 2).size:=by rw [s0,s1];decide
  have k2:¬ 9223372036854775807<(padS d 2++padS m 2).size+(padS y 4).size:=by rw [ByteArray.size_append,s0,s1,s2];decide
  clear s0 s1 s2
  go_enter Tryz.func209,Tryz.ntmps209
  go_wp2_with fail
  refine (rdateof_c day y m d _ h1 h2 HDI.out).mono ?_
  rintro e w1 ⟨rfl,rfl⟩
  have hb1:=Below.refl w.heap.size w
  go_wp2_with fail
  refine (QaG d 2 _ _ rfl (by omega) (by decide) (by decide) (by omega) (ht.below hb1)).mono ?_
  rintro e w2 ⟨rfl,hc0⟩
  have hd0:=Qab hc0 hb1 hb1.size
  go_wp2_with fail
  refine (QaG m 2 _ _ rfl (by omega) (by decide) (by decide) (by omega) (ht.below hd0)).mono ?_
  rintro e w3 ⟨rfl,hc1⟩
  have hd1:=Qab hc1 hd0 hd0.size
  go_wp2_with fail
  refine (QaG y 4 _ _ rfl (by omega) (by decide) (by decide) (by omega) (ht.below hd1)).mono ?_
  rintro e w4 ⟨rfl,hc2⟩
  have hd2:=Qab hc2 hd1 hd1.size
  go_wp2
  go_ret
  exact ⟨rfl,hd2⟩
 ·skip
  have s0:(padS y 4).size=4:=Qar (by omega) (by omega)
  have s1:(padS m 2).size=2:=Qar (by omega) (by omega)
  have s2:(padS d 2).size=2:=Qar (by omega) (by omega)
  have k1:¬ 9223372036854775807<(padS y 4).size+(⟨#[45]⟩:ByteArray).size:=by rw [s0];decide
  have k2:¬ 9223372036854775807<(padS y 4++⟨#[45]⟩).size+(padS m 2).size:=by rw [ByteArray.size_append,s0,s1];decide
  have k3:¬ 9223372036854775807<(padS y 4++⟨#[45]⟩++padS m 2).size+(⟨#[45]⟩:ByteArray).size:=by rw [ByteArray.size_append,ByteArray.size_append,s0,s1];decide
  have k4:¬ 9223372036854775807<(padS y 4++⟨#[45]⟩++padS m 2++⟨#[45]⟩).size+(padS d 2).size:=by rw [ByteArray.size_append,ByteArray.size_append,ByteArray.size_append,s0,s1,s2];decide
  clear s0 s1 s2
  go_enter Tryz.func209,Tryz.ntmps209
  go_wp2_with fail
  refine (rdateof_c day y m d _ h1 h2 HDI.out).mono ?_
  rintro e w1 ⟨rfl,rfl⟩
  have hb1:=Below.refl w.heap.size w
  go_wp2_with fail
  refine (QaG y 4 _ _ rfl (by omega) (by decide) (by decide) (by omega) (ht.below hb1)).mono ?_
  rintro e w2 ⟨rfl,hc0⟩
  have hd0:=Qab hc0 hb1 hb1.size
  go_wp2_with fail
  refine (QaG m 2 _ _ rfl (by omega) (by decide) (by decide) (by omega) (ht.below hd0)).mono ?_
  rintro e w3 ⟨rfl,hc1⟩
  have hd1:=Qab hc1 hd0 hd0.size
  go_wp2_with fail
  refine (QaG d 2 _ _ rfl (by omega) (by decide) (by decide) (by omega) (ht.below hd1)).mono ?_
  rintro e w4 ⟨rfl,hc2⟩
  have hd2:=Qab hc2 hd1 hd1.size
  go_wp2
  go_ret
  exact ⟨rfl,hd2⟩
 ·skip
  have s0:(padS z 4).size=4:=Qar (by omega) (by omega)
  have s1:(padS (wk day z) 2).size=2:=Qar (by omega) (by omega)
  have s2:(padS ((day-1)%7+1) 1).size=1:=Qar (by omega) (by omega)
  have k1:¬ 9223372036854775807<(padS z 4).size+(padS (wk day z) 2).size:=by rw [s0,s1];decide
  have k2:¬ 9223372036854775807<(padS z 4++padS (wk day z) 2).size+(padS ((day-1)%7+1) 1).size:=by rw [ByteArray.size_append,s0,s1,s2];decide
  clear s0 s1 s2
  go_enter Tryz.func209,Tryz.ntmps209
  go_wp2_with fail
  refine (rdateof_c day y m d _ h1 h2 HDI.out).mono ?_
  rintro e w1 ⟨rfl,rfl⟩
  have hb1:=Below.refl w.heap.size w
  go_wp2_with fail
  refine (rweekof_c day z zm zd _ h1 h2 HZ.out).mono ?_
  rintro e w2 ⟨rfl,rfl⟩
  go_wp2_with fail
  refine (QaG z 4 _ _ rfl (by omega) (by decide) (by decide) (by omega) (ht.below hb1)).mono ?_
  rintro e w2 ⟨rfl,hc0⟩
  have hd0:=Qab hc0 hb1 hb1.size
  go_wp2_with fail
  refine (QaG (wk day z) 2 _ _ rfl (by omega) (by decide) (by decide) (by omega) (ht.below hd0)).mono ?_
  rintro e w3 ⟨rfl,hc1⟩
  have hd1:=Qab hc1 hd0 hd0.size
  go_wp2_with fail
  refine (QaG ((day-1)%7+1) 1 _ _ rfl (by omega) (by decide) (by decide) (by omega) (ht.below hd1)).mono ?_
  rintro e w4 ⟨rfl,hc2⟩
  have hd2:=Qab hc2 hd1 hd1.size
  go_wp2
  go_ret
  exact ⟨rfl,hd2⟩
 -- END FORMS
theorem rDayText_ok (day form y m d z zm zd:Int) (w:World) (h:formB form=true) (h1:1<=day) (h2:day<=3652059) (hD:DateIs day y m d) (hZ:DateIs (thu day) z zm zd) (ht:Tab w) :
  Calls Tryz.prog 154 #[.int .i64 day,.int .i64 form] w (RetSF (dtS form day y m d z) 0 w):=by
 have H:=Hd h;have HD:=Hd (dayB_mk ⟨h1,h2⟩)
 have hform:=of_decide_eq_true h
 clear h
 go_enter Tryz.func154,Tryz.ntmps154
 go_wp2_with fail
 refine (QaK _ _ _ _).mono ?_
 rw [show decide (1<=form/\form<=5)=formB form from rfl,H.out]
 rintro e w1 ⟨rfl,rfl⟩
 go_wp2_with fail
 refine (rday_c _ _).mono ?_
 rw [HD.out]
 rintro e w1 ⟨rfl,rfl⟩
 go_wp2_with fail
 refine (rdaytext_c day form y m d z zm zd _ hform h1 h2 hD hZ ht).mono ?_
 rintro e w1 ⟨rfl,hb1⟩
 go_wp2
 go_ret2
 exact ⟨rfl,hb1⟩
end Go.Proofs.YtaiabjiehpcaoaaGreatDoor
namespace Go.Proofs.YtaiabjiehpcaoaaGreatDoor
open Go.RowKit Limb
set_option linter.unusedVariables false
set_option linter.unusedSimpArgs false
theorem RetD.of {r r':Int×Int×Int} {w w':World} {e:Ending} (h:RetD r w e w') (hr:r=r'):RetD r' w e w':=by subst hr;exact h
end Go.Proofs.YtaiabjiehpcaoaaGreatDoor
namespace Go.Proofs.YtaiabjiehpcaoaaGreatDoor
open Go.RowKit Limb Work Nmb
set_option linter.unusedVariables false
set_option linter.unusedSimpArgs false
theorem tdv_mono_take {l:List UInt8} : ∀ {j k:Nat},k<=j->j<=l.length->dv (l.take k)<=dv (l.take j):=by
 intro j
 induction j with
 | zero=>
  intro k h _
  obtain rfl:k=0:=by omega
  exact Nat.le_refl _
 | succ j ih=>
  intro k h hj
  rcases Nat.lt_or_ge j k with h1 | h1
  ·obtain rfl:k=j+1:=by omega
   exact Nat.le_refl _
  ·have:=ih h1 (by omega)
   rw [dv_take (by omega)]
   omega
def tmaxU (n:Nat):Bool:=decide (n<=1000000000000000)
def RetTod (l:List UInt8) (w:World) (e:Ending) (w':World):Prop:=w=w'/\e=.returned (.tuple #[.int .i64 (if tmaxU (dv l)=true then (dv l:Int) else 0),.bool (tmaxU (dv l))])
theorem tofd_c (s:ByteArray) (w:World) (hs:s.size<=9223372036854775807) (hd:∀ c∈s.data.toList,48<=c.toNat/\c.toNat<=57) :
  Calls Tryz.prog 141 #[.string s] w (RetTod s.data.toList w):=by
 have hl:=szL s
 have HD:=Hd (show ∀ k,(h:k<s.size)->48<=(s[k].toNat:Int)/\(s[k].toNat:Int)<=57 from fun k h=>by have:=hd s[k] (by have:=List.getElem_mem (l:=s.data.toList) (n:=k) (by simpa using h);exact this);omega)
 have HT:=Hd (show ∀ k,(h:k<s.size)->(dv (s.data.toList.take (k+1)):Int)=10*(dv (s.data.toList.take k):Int)+((s[k].toNat:Int)-48) from fun k h=>by
  have e:=dv_take (l:=s.data.toList) (k:=k) (by omega)
  have h2:=hd s[k] (by have:=List.getElem_mem (l:=s.data.toList) (n:=k) (by simpa using h);exact this)
  rw [e]
  show ((10*dv (s.data.toList.take k)+(s[k].toNat-48):Nat):Int)=_
  omega)
 have HE:=Hd (show s.data.toList.take s.size=s.data.toList by rw [<- hl,List.take_length])
 have HM:=Hd (fun k (h:k<=s.size)=>tdv_mono_take (l:=s.data.toList) (j:=s.size) (k:=k) h (by omega))
 clear hd hl
 go_enter Tryz.func141,Tryz.ntmps141
 go_wp2
 go_loop [4,8] (fun x i=>∃ k n:Nat,k<=s.size/\i=.int .i64 k/\x=.int .i64 n/\n<=1000000000000000/\Hid (dv (s.data.toList.take k)=n)) (fun _ i=>s.size-(intOf i).toNat)
 case atStart=>exact ⟨0,0,Nat.zero_le _,rfl,rfl,by omega,Hd rfl⟩
 case round=>
  obtain ⟨k,n,hk,rfl,rfl,hn,HN⟩:=hrel
  rcases Nat.lt_or_ge k s.size with hlt | hge
  ·obtain ⟨d1,d2⟩:=HD.out k hlt
   have hT:=HT.out k hlt
   rw [HN.out] at hT
   obtain ⟨m,hm⟩:=ex_ (dv (s.data.toList.take (k+1)))
   rw [hm] at hT
   have HT2:=Hd hT
   have HM2:=Hd hm
   have hb1:0<=(s[k].toNat:Int)-48/\(s[k].toNat:Int)-48<=9:=by omega
   by_cases hbig:1000000000000000<10*(n:Int)+((s[k].toNat:Int)-48)
   ·have hno:=Hd (show tmaxU (dv s.data.toList)=false by
     have:=HM.out (k+1) (by omega)
     rw [HE.out,hm] at this
     exact decide_eq_false (by omega))
    clear hT hm hb1
    go_wp2
    go_ret2
    refine ⟨rfl,?_⟩
    rw [hno.out];rfl
   ·clear hT hm hb1
    go_wp2
    go_round
    case rel=>exact ⟨k+1,m,by omega,by go_num,by rw [HT2.out],by have:=HT2.out;omega,HM2⟩
    case measure=>simp [intOf];omega
  ·obtain rfl:k=s.size:=by omega
   have hyes:=Hd (show tmaxU (dv s.data.toList)=true/\(dv s.data.toList:Int)=n by
    have h1:=HN.out
    rw [HE.out] at h1
    rw [h1]
    exact ⟨decide_eq_true hn,rfl⟩)
   go_wp2
   go_ret2
   refine ⟨rfl,?_⟩
   rw [hyes.out.1,hyes.out.2];rfl
theorem num_dvF:∀ (l:List UInt8) (a:Nat),l.foldl (fun a c=>a*10+(c.toNat-48)) a=dvF l a
 | [],a=>rfl
 | c :: l,a=>by rw [List.foldl_cons,num_dvF l,dvF_cons,Nat.mul_comm]
theorem num_dv (l:List UInt8):numL l=dv l:=num_dvF l 0
theorem digs_digB (l:List UInt8):digs l=digB l:=by
 unfold digs digB inL inB
 rw [Bool.and_comm]
 congr 1
 have hb:∀ i (h:i<l.length),byA l i=(l[i].toNat:Int):=by
  intro i h
  unfold byA
  rw [List.getD_eq_getElem?_getD,List.getElem?_eq_getElem h]
  rfl
 rw [Bool.eq_iff_iff,decide_eq_true_iff,List.all_eq_true]
 constructor
 ·intro h c hc
  obtain ⟨i,hi,rfl⟩:=List.getElem_of_mem hc
  have:=h i hi
  rw [hb i hi] at this
  exact decide_eq_true (by omega)
 ·intro h i hi
  have:=of_decide_eq_true (h l[i] (List.getElem_mem hi))
  rw [hb i hi]
  omega
theorem digB_all {l:List UInt8} (h:digB l=true):∀ c∈l,48<=c.toNat/\c.toNat<=57:=by
 unfold digB at h
 rw [Bool.and_eq_true] at h
 intro c hc
 exact of_decide_eq_true (List.all_eq_true.1 h.2 c hc)
theorem tisdig_c (s:ByteArray) (w:World) (hs:s.size<=9223372036854775807) :
  Calls Tryz.prog 139 #[.string s] w fun e w'=>w=w'/\e=.returned (.bool (digB s.data.toList)):=by
 rw [<- digs_digB];exact rdigs_c s w hs
theorem tof_c (s:ByteArray) (w:World) (hs:s.size<=9223372036854775807) (hd:digB s.data.toList=true) :
  Calls Tryz.prog 141 #[.string s] w fun e w'=>w=w'/\e=.returned (.tuple #[.int .i64 (if numL s.data.toList<=1000000000000000 then (numL s.data.toList:Int) else 0),.bool (decide (numL s.data.toList<=1000000000000000))]):=by
 refine (tofd_c s w hs (digB_all hd)).mono ?_
 rintro e w' ⟨rfl,rfl⟩
 rw [num_dv]
 refine ⟨rfl,?_⟩
 unfold tmaxU
 by_cases h:dv s.data.toList<=1000000000000000
 ·simp [h]
 ·simp [h]
end Go.Proofs.YtaiabjiehpcaoaaGreatDoor
