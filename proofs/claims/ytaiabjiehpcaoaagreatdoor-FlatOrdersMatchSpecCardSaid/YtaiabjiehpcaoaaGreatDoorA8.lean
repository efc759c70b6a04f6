/- The walks of days and dates: the program's dayOf, DayOf, dateOf, DateOf, weekOf. The walks of days and dates: padded, and the text of a day, in the program. -/
import Derived.Test.YtaiabjiehpcaoaaGreatDoorU2
import Derived.Test.YtaiabjiehpcaoaaGreatDoorE1
import Derived.Deep.QuietTactic
import Derived.BigQuiet
import Derived.IntWalk
import Derived.Test.YtaiabjiehpcaoaaGreatDoorShelf
import Derived.Lib.AppendIntMem
import Derived.Lib.ItoaLen
import Derived.Lib.Repeat
import Derived.Test.YtaiabjiehpcaoaaGreatDoorA7
import Derived.WalkSpells
-- merged: E2 E4 V0 A8
set_option maxHeartbeats 2000000
set_option maxRecDepth 100000
namespace Go.Proofs.YtaiabjiehpcaoaaGreatDoor
open Go.RowKit Limb Work
set_option linter.unusedVariables false
set_option linter.unusedSimpArgs false
def dayR (y m d:Int):Int:=if Qa7 y m d=true then num y m d else 0
theorem dayR_yes {y m d:Int} (h:Qa7 y m d=true):dayR y m d=num y m d:=if_pos h
theorem QaY {y m d:Int} (h:Qa7 y m d=false):dayR y m d=0:=if_neg (by rw [h];simp)
theorem num_cum {y d:Int} {k:Nat} : num y ((k:Int)+1) d=bef y+cum y k+d:=by
 unfold num;rw [show ((k:Int)+1-1).toNat=k by omega]
theorem Qbo (y:Int) {k:Nat} (h:k<=12):0<=cum y k/\cum y k<=366:=by
 have a:=cum_le y (i:=0) (j:=k) (by omega)
 have b:=cum_le y (i:=k) (j:=12) h
 have c:=cum_12_bd y
 rw [cum] at a
 omega
theorem ival {a b:Int} (h:a=b):Value.int .i64 a=.int .i64 b:=by rw [h]
def RetI2 (n:Int) (b:Bool) (w:World) (e:Ending) (w':World):Prop:=e=.returned (.tuple #[.int .i64 n,.bool b])/\Below w.heap.size w w'
def Qbk (n f:Int) (w:World) (e:Ending) (w':World):Prop:=e=.returned (.tuple #[.int .i64 n,.int .i64 f])/\Below w.heap.size w w'
theorem dayof_c (y m d:Int) (w:World) (hy : -9223372036854775808<=y/\y<=9223372036854775807) :
  Calls Tryz.prog 263 #[.int .i64 y,.int .i64 m,.int .i64 d] w (RetI2 (dayR y m d) (Qa7 y m d) w):=by
 by_cases h1:1<=y/\y<=9999
 case neg=>
  have hb:Qa7 y m d=false:=QbK (fun h=>h1 h.1)
  rw [QaY hb,hb]
  clear hb
  go_enter Tryz.func263,Tryz.ntmps263
  go_wp2_with (go_at_call 96;refine (out_yes _ _ _ _ h1).mono ?_;rintro e w1 ⟨rfl,rfl⟩)
  go_ret2
  exact ⟨rfl,by go_grown⟩
 by_cases h2:1<=m/\m<=12
 case neg=>
  have hb:Qa7 y m d=false:=QbK (fun h=>h2 h.2.1)
  rw [QaY hb,hb]
  clear hb
  go_enter Tryz.func263,Tryz.ntmps263
  go_wp2_with fail
  refine (out_no _ _ _ _ h1).mono ?_
  rintro e w1 ⟨rfl,rfl⟩
  go_wp2_with fail
  refine (out_yes _ _ _ _ h2).mono ?_
  rintro e w1 ⟨rfl,rfl⟩
  go_wp2
  go_ret2
  exact ⟨rfl,by go_grown⟩
 by_cases h3:1<=d/\d<=dim y m
 case neg=>
  have hb:Qa7 y m d=false:=QbK (fun h=>h3 h.2.2)
  rw [QaY hb,hb]
  clear hb
  go_enter Tryz.func263,Tryz.ntmps263
  go_wp2_with fail
  refine (out_no _ _ _ _ h1).mono ?_
  rintro e w1 ⟨rfl,rfl⟩
  go_wp2_with fail
  refine (out_no _ _ _ _ h2).mono ?_
  rintro e w1 ⟨rfl,rfl⟩
  go_wp2_with fail
  refine (daysof_c _ _ _ (by omega) h2).mono ?_
  rintro e w1 ⟨hb1,rfl⟩
  go_wp2_with fail
  refine (out_yes _ _ _ _ h3).mono ?_
  rintro e w2 ⟨rfl,rfl⟩
  go_wp2
  go_ret2
  exact ⟨rfl,by go_grown⟩
 have hb:Qa7 y m d=true:=dateB_mk ⟨h1,h2,h3⟩
 rw [dayR_yes hb,hb]
 have hd31:=dim_bd y m
 obtain ⟨K,hK,rfl⟩:∃ K:Nat,K<=11/\m=(K:Int)+1:=⟨(m-1).toNat,by omega,by omega⟩
 have HN:=Hd (num_cum (y:=y) (d:=d) (k:=K))
 have HB:=bef_bd (y:=y) (by omega) (by omega)
 clear hb hy
 go_enter Tryz.func263,Tryz.ntmps263
 go_wp2_with fail
 refine (out_no _ _ _ _ h1).mono ?_
 rintro e w1 ⟨rfl,rfl⟩
 go_wp2_with fail
 refine (out_no _ _ _ _ h2).mono ?_
 rintro e w1 ⟨rfl,rfl⟩
 go_wp2_with fail
 refine (daysof_c _ _ _ (by omega) h2).mono ?_
 rintro e w1 ⟨hb1,rfl⟩
 go_wp2_with fail
 refine (out_no _ _ _ _ h3).mono ?_
 rintro e w2 ⟨rfl,rfl⟩
 go_wp2_with fail
 refine (before_c _ _ (by omega)).mono ?_
 rintro e w2 ⟨rfl,rfl⟩
 go_wp2
 go_loopw [8,9] (fun s i wr=>∃ k:Nat,k<=K/\i=.int .i64 ((k:Int)+1)/\s=.int .i64 (bef y+d+cum y k)/\Below w.heap.size w wr) (fun _ i _=>(K+1-(intOf i).toNat))
 case atStart=>exact ⟨0,Nat.zero_le _,by go_num,ival (by rw [cum];omega),hb1⟩
 case round=>
  obtain ⟨k,hk,rfl,rfl,hbel⟩:=hrel
  have hcb:=Qbo y (k:=k) (by omega)
  have hz:=hbel.size
  rcases Nat.lt_or_ge k K with hlt | hge
  ·have hs:=Qbo y (k:=k+1) (by omega)
   have hS:=Hd (show cum y (k+1)=cum y k+dim y ((k:Int)+1) from rfl)
   have hdk:=dim_bd y ((k:Int)+1)
   have hlt':(k:Int)+1<(K:Int)+1:=by omega
   go_wp2_with fail
   refine (daysof_c _ _ _ (by omega) (by omega)).mono ?_
   rintro e w2 ⟨hb2,rfl⟩
   go_wp2
   go_roundw
   case rel=>exact ⟨k+1,by omega,ival (by omega),ival (by rw [hS.out];omega),Qab hb2 hbel hz⟩
   case measure=>simp [intOf];omega
  ·obtain rfl:k=K:=by omega
   have hlt':¬ (k:Int)+1<(k:Int)+1:=by omega
   go_wp2
   go_ret2
   exact ⟨congrArg (fun x=>Ending.returned (.tuple #[.int .i64 x,.bool true])) (show bef y+d+cum y k=num y ((k:Int)+1) d by rw [HN.out];omega),hbel⟩
def RetD3 (y m d:Int) (w:World) (e:Ending) (w':World):Prop:=e=.returned (.tuple #[.int .i64 y,.int .i64 m,.int .i64 d])/\Below w.heap.size w w'
theorem Work.DateIs.year_le {day y m d v:Int} (h:DateIs day y m d) (hv:bef v<day):v<=y:=by
 have f:=h.facts
 rcases Int.lt_or_le y v with k | k
 ·have:=bef_mono (a:=y+1) (b:=v) (by omega);omega
 ·exact k
theorem dateof_c (day y m d:Int) (w:World) (h1:1<=day) (h2:day<=3652059) (h:DateIs day y m d) :
  Calls Tryz.prog 238 #[.int .i64 day] w (RetD3 y m d w):=by
 have HD:=Hd h
 obtain ⟨⟨y1,y2⟩,⟨m1,m2⟩,⟨d1,d2⟩,d3,b1,b2⟩:=h.facts
 have hn:=h.2
 have hg:=h.year_le (bef_guess h1)
 obtain ⟨K,hK,rfl⟩:∃ K:Nat,K<=11/\m=(K:Int)+1:=⟨(m-1).toNat,by omega,by omega⟩
 rw [num_cum] at hn
 have HN:=Hd hn
 have HB:=bef_bd (y:=y) (by omega) (by omega)
 have hK12:=Qbo y (k:=K) (by omega)
 clear h hn
 go_enter Tryz.func238,Tryz.ntmps238
 go_wp2
 go_loop [2] (fun s=>∃ v:Int,1<=v/\v<=y/\s=.int .i64 v) (fun s=>(y-intOf s).toNat)
 case atStart=>exact ⟨day/366+1,by omega,hg,rfl⟩
 case round=>
  obtain ⟨v,v1,v2,rfl⟩:=hrel
  rcases Int.lt_or_le v y with hlt | hge
  ·have hm:=bef_mono (a:=v+1) (b:=y) (by omega)
   have hb3:bef (v+1)<day:=by omega
   have hv9:v<9999:=by omega
   clear hm
   go_wp2_with fail
   refine (before_c _ _ (by omega)).mono ?_
   rintro e w2 ⟨rfl,rfl⟩
   go_wp2
   go_round
   case rel=>exact ⟨v+1,by omega,by omega,rfl⟩
   case measure=>simp [intOf];omega
  ·obtain rfl:v=y:=by omega
   have hb3:¬ bef (v+1)<day:=by omega
   have hc:=Qbo v (k:=0) (by omega)
   by_cases hv9:v<9999
   all_goals
    go_wp2_with (go_at_call 266;refine (before_c _ _ (by omega)).mono ?_;rintro e w2 ⟨rfl,rfl⟩)
    go_loopw [3,4] (fun i s wr=>∃ k:Nat,k<=K/\i=.int .i64 ((k:Int)+1)/\s=.int .i64 (d+cum v K-cum v k)/\Below w.heap.size w wr) (fun i _ _=>(K+1-(intOf i).toNat))
    case atStart=>exact ⟨0,Nat.zero_le _,by go_num,ival (by have:=HN.out;have:cum v 0=0:=rfl;omega),Below.refl _ _⟩
    case round=>
     obtain ⟨k,hk,rfl,rfl,hbel⟩:=hrel
     have hcb:=Qbo v (k:=k) (by omega)
     have hz:=hbel.size
     have hdk:=dim_bd v ((k:Int)+1)
     rcases Nat.lt_or_ge k K with hlt | hge
     ·have hs:=cum_le v (i:=k+1) (j:=K) (by omega)
      rw [cum] at hs
      have hS:=Hd (show cum v (k+1)=cum v k+dim v ((k:Int)+1) from rfl)
      have ht:dim v ((k:Int)+1)<d+cum v K-cum v k:=by omega
      have ht2:dim v ((k:Int)+1)+cum v k<d+cum v K:=by omega
      go_wp2_with fail
      refine (daysof_c _ _ _ (by omega) (by omega)).mono ?_
      rintro e w2 ⟨hb2,rfl⟩
      have hbel2:=Qab hb2 hbel hz
      have hz2:=hbel2.size
      go_wp2_with fail
      refine (daysof_c _ _ _ (by omega) (by omega)).mono ?_
      rintro e w3 ⟨hb3,rfl⟩
      go_wp2
      go_roundw
      case rel=>exact ⟨k+1,by omega,ival (by omega),ival (by rw [hS.out];omega),Qab hb3 hbel2 hz2⟩
      case measure=>simp [intOf];omega
     ·obtain rfl:k=K:=by omega
      have ht:¬ dim v ((k:Int)+1)<d+cum v k-cum v k:=by omega
      go_wp2_with fail
      refine (daysof_c _ _ _ (by omega) (by omega)).mono ?_
      rintro e w2 ⟨hb2,rfl⟩
      go_wp2
      refine bodyPost_ret (v:=.tuple #[.int .i64 v,.int .i64 ((k:Int)+1),.int .i64 d]) (by simp [results,Tryz.results238,go_sem];try omega) rfl ⟨rfl,Qab hb2 hbel hz⟩
theorem weekof_c (day y m d:Int) (w:World) (h1:1<=day) (h2:day<=3652059) (h:DateIs (thu day) y m d) :
  Calls Tryz.prog 240 #[.int .i64 day] w fun e w'=>e=.returned (.tuple #[.int .i64 y,.int .i64 (wk day y)])/\Below w.heap.size w w':=by
 have ht:=thu_bd h1 h2
 obtain ⟨⟨y1,y2⟩,-,-,-,b1,b2⟩:=h.facts
 have HD:=Hd h;clear h
 have hw:=wk_bd b1 b2
 have HB:=bef_bd (y:=y) (by omega) (by omega)
 have e0:day-(day-1)%7+3=thu day:=rfl
 have e7:(thu day-bef y-1)/7+1=wk day y:=rfl
 have hm:0<=(day-1)%7/\(day-1)%7<=6:=by omega
 have E0:=Hd e0;have E7:=Hd e7;clear e0 e7
 go_enter Tryz.func240,Tryz.ntmps240
 go_wp2_with fail
 refine (weekday_c _ _ ⟨h1,by omega⟩).mono ?_
 rintro e w1 ⟨rfl,rfl⟩
 go_wp2_with fail
 rw [E0.out]
 refine (dateof_c (thu day) y m d _ ht.1 ht.2 HD.out).mono ?_
 rintro e w1 ⟨rfl,hb1⟩
 go_wp2_with fail
 refine (before_c _ _ (by omega)).mono ?_
 rintro e w2 ⟨rfl,rfl⟩
 go_wp2
 go_ret2
 exact ⟨congrArg (fun x=>Ending.returned (.tuple #[.int .i64 y,.int .i64 x])) E7.out,hb1⟩
def padN (n k:Nat):List UInt8:=List.replicate (k-(Lib.decDigits n).length) 48++Lib.decDigits n
def padS (n:Int) (k:Nat):ByteArray:=⟨(padN n.toNat k).toArray⟩
theorem nd_le:∀ (k u:Nat),u<10 ^ (k+1)->Lib.nDigits u<=k+1
 | 0,u,h=>by rw [Lib.nDigits_small (by simpa using h)];exact Nat.le_refl _
 | k+1,u,h=>by
  by_cases h1:u<10
  ·rw [Lib.nDigits_small h1];omega
  ·rw [Lib.nDigits_big h1]
   have:=nd_le k (u/10) (by rw [Nat.pow_succ] at h;omega)
   omega
theorem dec_len {n k:Nat} (hk:1<=k) (h:n<10 ^ k):1<=(Lib.decDigits n).length/\(Lib.decDigits n).length<=k:=by
 rw [Lib.decDigits_length]
 refine ⟨Lib.nDigits_pos n,?_⟩
 have:=nd_le (k-1) n (by rw [show k-1+1=k by omega];exact h)
 omega
theorem padN_len {n k:Nat} (hk:1<=k) (h:n<10 ^ k):(padN n k).length=k:=by
 have:=dec_len hk h
 unfold padN
 simp
 omega
theorem Qar {n:Int} {k:Nat} (hk:1<=k) (h:n.toNat<10 ^ k):(padS n k).size=k:=by
 have:=padN_len hk h
 unfold padS
 show (padN n.toNat k).toArray.size=k
 simpa using this
theorem padS_one {n:Int} (h:0<=n/\n<=9):padS n 1=(⟨(Lib.decDigits n.toNat).toArray⟩:ByteArray):=by
 have:=dec_len (n:=n.toNat) (k:=1) (by decide) (by omega)
 unfold padS padN
 rw [show 1-(Lib.decDigits n.toNat).length=0 by omega]
 rfl
def Tab (w:World):Prop:=Lib.TabIs Tryz.prog w "internal/strconv.uint64pow10" .u64 Lib.pow10Tab
theorem Tab.below {w w':World} (h:Tab w) (hb:Below w.heap.size w w'):Tab w':=Lib.tabBelow_of_tabIs h w' hb
theorem itoa_c (n:Int) (w:World) (h0:0<=n) (h1:n<=9223372036854775807) (ht:Tab w) :
  Calls Tryz.prog 38 #[.int .i64 n] w fun e w'=>e=.returned (.string ⟨(Lib.decDigits n.toNat).toArray⟩)/\Below w.heap.size w w':=by
 refine (Tryz.strconv_Itoa n (by omega) h1 w ht).mono ?_
 rintro e w' ⟨rfl,k,os,rfl⟩
 refine ⟨?_,Lib.below_grow _ w (Nat.le_refl _) k os⟩
 unfold Lib.itoa
 rw [if_neg (by omega)]
def RetS (s:ByteArray) (w:World) (e:Ending) (w':World):Prop:=e=.returned (.string s)/\Below w.heap.size w w'
theorem rep_one (c:UInt8):∀ n,Lib.repeatL [c] n=List.replicate n c
 | 0=>rfl
 | n+1=>by rw [Lib.repeatL,rep_one c n,List.replicate_succ];rfl
theorem QaZ (n:Int) (k:Nat) (K:Int) (w:World) (hK:K=(k:Int)) (h0:0<=n) (hk0:1<=k) (hk:k<=4) (hn:n.toNat<10 ^ k) (ht:Tab w) :
  Calls Tryz.prog 239 #[.int .i64 n,.int .i64 K] w (RetS (padS n k) w):=by
 have hnb:n<=9999:=by
  have:10 ^ k<=10 ^ 4:=Nat.pow_le_pow_right (by decide) hk
  omega
 have hl:=dec_len hk0 hn
 obtain ⟨s,hs⟩:∃ s:ByteArray,(⟨(Lib.decDigits n.toNat).toArray⟩:ByteArray)=s:=⟨_,rfl⟩
 have hsl:s.data.toList=Lib.decDigits n.toNat:=by rw [<- hs]
 have hss:s.size=(Lib.decDigits n.toNat).length:=by rw [<- hsl];simp
 rw [<- hss] at hl
 obtain ⟨c,hc⟩:∃ c:Nat,k-s.size=c:=⟨_,rfl⟩
 have HREP:=Hd (Tryz.strings_Repeat ⟨#[48]⟩ c)
 have HP:=Hd (show padS n k=(⟨(Lib.repeatL [48] c).toArray⟩:ByteArray)++s by
  unfold padS padN
  rw [<- hss,hc,<- hsl,rep_one]
  apply ByteArray.ext
  rw [ByteArray.data_append]
  simp)
 have hI:=Hd (fun w=>itoa_c n w h0 (by omega));rw [hs] at hI
 have E1:=Hd (show K-(s.size:Int)=((c:Nat):Int) by omega)
 obtain ⟨r,hr⟩:∃ r:ByteArray,(⟨(Lib.repeatL [48] c).toArray⟩:ByteArray)=r:=⟨_,rfl⟩
 have hrs:r.size=c:=by rw [<- hr,rep_one];show (List.replicate c (48:UInt8)).toArray.size=c;simp
 have HR:=Hd hr
 have hcond:¬ 9223372036854775807<r.size+s.size:=by omega
 have hK4:1<=K/\K<=4:=by omega
 have hc4:c<=4:=by omega
 clear hc hss hsl hs hr hrs hK hn hk hk0
 go_enter Tryz.func239,Tryz.ntmps239
 go_wp2_with fail
 refine (hI.out _ ht).mono ?_
 rintro e w1 ⟨rfl,hb1⟩
 go_wp2_with fail
 rw [E1.out]
 refine (HREP.out _ (by omega) (by show 1*c<=_;omega)).mono ?_
 rintro e w2 ⟨rfl,hb2⟩
 rw [show (⟨(Lib.repeatL (⟨#[48]⟩:ByteArray).data.toList c).toArray⟩:ByteArray)=r from HR.out]
 go_wp2
 go_ret
 exact ⟨congrArg (fun x=>Ending.returned (.string x)) (show r++s=padS n k by rw [HP.out,HR.out]),Qab hb2 hb1 hb1.size⟩
def formB (f:Int):Bool:=decide (1<=f/\f<=5)
theorem isform_c (f:Int) (w:World):Calls Tryz.prog 235 #[.int .i64 f] w fun e w'=>w=w'/\e=.returned (.bool (formB f)):=by
 by_cases h:1<=f/\f<=5
 ·rw [show formB f=true from decide_eq_true h]
  go_enter Tryz.func235,Tryz.ntmps235
  go_wp2_with (go_at_call 96;refine (out_no _ _ _ _ h).mono ?_;rintro e w1 ⟨rfl,rfl⟩)
  go_ret
  exact ⟨rfl,rfl⟩
 ·rw [show formB f=false from decide_eq_false h]
  go_enter Tryz.func235,Tryz.ntmps235
  go_wp2_with (go_at_call 96;refine (out_yes _ _ _ _ h).mono ?_;rintro e w1 ⟨rfl,rfl⟩)
  go_ret
  exact ⟨rfl,rfl⟩
def dtS (form day y m d z:Int):ByteArray :=
 if form=1 then padS y 4++padS m 2++padS d 2
 else if form=2 then padS (y%100) 2++padS m 2++padS d 2
 else if form=3 then padS d 2++padS m 2++padS y 4
 else if form=4 then padS y 4++⟨#[45]⟩++padS m 2++⟨#[45]⟩++padS d 2
 else padS z 4++padS (wk day z) 2++padS ((day-1)%7+1) 1
def RetSF (s:ByteArray) (f:Int) (w:World) (e:Ending) (w':World):Prop:=e=.returned (.tuple #[.string s,.int .i64 f])/\Below w.heap.size w w'
theorem RetSF.eq {s t:ByteArray} {f:Int} {w:World} {e:Ending} {w':World} (h:RetSF s f w e w') (he:s=t):RetSF t f w e w':=he ▸ h
theorem DayText_ok (day form y m d z zm zd:Int) (w:World) (h:formB form=true) (h1:1<=day) (h2:day<=3652059) (hD:DateIs day y m d) (hZ:DateIs (thu day) z zm zd) (ht:Tab w) :
  Calls Tryz.prog 204 #[.int .i64 day,.int .i64 form] w (RetSF (dtS form day y m d z) 0 w):=by
 obtain ⟨⟨y1,y2⟩,⟨m1,m2⟩,⟨d1,d2⟩,-,-,-⟩:=hD.facts
 obtain ⟨⟨z1,z2⟩,-,-,-,b1,b2⟩:=hZ.facts
 have hw:=wk_bd b1 b2
 have H:=Hd h;have HD:=Hd (dayB_mk ⟨h1,h2⟩)
 have HDI:=Hd hD;have HZ:=Hd hZ
 have hform:=of_decide_eq_true h
 clear h hD hZ b1 b2
 have hf:form=1∨form=2∨form=3∨form=4∨form=5:=by omega
 clear hform
 rcases hf with rfl | rfl | rfl | rfl | rfl
 -- FORMS
 ·skip
  have s0:(padS y 4).size=4:=Qar (by omega) (by omega)
  have s1:(padS m 2).size=2:=Qar (by omega) (by omega)
  have s2:(padS d 2).size=2:=Qar (by omega) (by omega)
  have k1:¬ 9223372036854775807<(padS y 4).size+(padS m 2).size:=by rw [s0,s1];decide
  have k2:¬ 9223372036854775807<(padS y 4++padS m 2).size+(padS d 2).size:=by rw [ByteArray.size_append,s0,s1,s2];decide
  clear s0 s1 s2
  go_enter Tryz.func204,Tryz.ntmps204
  go_wp2_with fail
  refine (isform_c _ _).mono ?_
  rw [H.out]
  rintro e w1 ⟨rfl,rfl⟩
  go_wp2_with fail
  refine (isday_c _ _).mono ?_
  rw [HD.out]
  rintro e w1 ⟨rfl,rfl⟩
  go_wp2_with fail
  refine (dateof_c day y m d _ h1 h2 HDI.out).mono ?_
  rintro e w1 ⟨rfl,hb1⟩
  go_wp2_with fail
  refine (QaZ y 4 _ _ rfl (by omega) (by decide) (by decide) (by omega) (ht.below hb1)).mono ?_
  rintro e w2 ⟨rfl,hc0⟩
  have hd0:=Qab hc0 hb1 hb1.size
  go_wp2_with fail
  refine (QaZ m 2 _ _ rfl (by omega) (by decide) (by decide) (by omega) (ht.below hd0)).mono ?_
  rintro e w3 ⟨rfl,hc1⟩
  have hd1:=Qab hc1 hd0 hd0.size
  go_wp2_with fail
  refine (QaZ d 2 _ _ rfl (by omega) (by decide) (by decide) (by omega) (ht.below hd1)).mono ?_
  rintro e w4 ⟨rfl,hc2⟩
  have hd2:=Qab hc2 hd1 hd1.size
  go_wp2
  go_ret2
  exact ⟨rfl,hd2⟩
 ·skip
  have s0:(padS (y%100) 2).size=2:=Qar (by omega) (by omega)
  have s1:(padS m 2).size=2:=Qar (by omega) (by omega)
  have s2:(padS d 2).size=2:=Qar (by omega) (by omega)
  have k1:¬ 9223372036854775807<(padS (y%100) 2).size+(padS m 2).size:=by rw [s0,s1];decide
  have k2:¬ 9223372036854775807<(padS (y%100) 2++padS m 2).size+(padS d 2).size:=by rw [ByteArray.size_append,s0,s1,s2];decide
  clear s0 s1 s2
  go_enter Tryz.func204,Tryz.ntmps204
  go_wp2_with fail
  refine (isform_c _ _).mono ?_
  rw [H.out]
  rintro e w1 ⟨rfl,rfl⟩
  go_wp2_with fail
  refine (isday_c _ _).mono ?_
  rw [HD.out]
  rintro e w1 ⟨rfl,rfl⟩
  go_wp2_with fail
  refine (dateof_c day y m d _ h1 h2 HDI.out).mono ?_
  rintro e w1 ⟨rfl,hb1⟩
  go_wp2_with fail
  refine (QaZ (y%100) 2 _ _ rfl (by omega) (by decide) (by decide) (by omega) (ht.below hb1)).mono ?_
  rintro e w2 ⟨rfl,hc0⟩
  have hd0:=Qab hc0 hb1 hb1.size
  go_wp2_with fail
  refine (QaZ m 2 _ _ rfl (by omega) (by decide) (by decide) (by omega) (ht.below hd0)).mono ?_
  rintro e w3 ⟨rfl,hc1⟩
  have hd1:=Qab hc1 hd0 hd0.size
  go_wp2_with fail
  refine (QaZ d 2 _ _ rfl (by omega) (by decide) (by decide) (by omega) (ht.below hd1)).mono ?_
  rintro e w4 ⟨rfl,hc2⟩
  have hd2:=Qab hc2 hd1 hd1.size
  go_wp2
  go_ret2
  exact ⟨rfl,hd2⟩
 ·skip
  have s0:(padS d 2).size=2:=Qar (by omega) (by omega)
  have s1:(padS m 2).size=2:=Qar (by omega) (by omega)
  have s2:(padS y 4).size=4:=Qar (by omega) (by omega)
  have k1:¬ 9223372036854775807<(padS d 2).size+(padS m 2).size:=by rw [s0,s1];decide
  have k2:¬ 9223372036854775807<(padS d 2++padS m 2).size+(padS y 4).size:=by rw [ByteArray.size_append,s0,s1,s2];decide
  clear s0 s1 s2
  go_enter Tryz.func204,Tryz.ntmps204
  go_wp2_with fail
  refine (isform_c _ _).mono ?_
  rw [H.out]
  rintro e w1 ⟨rfl,rfl⟩
  go_wp2_with fail
  refine (isday_c _ _).mono ?_
  rw [HD.out]
  rintro e w1 ⟨rfl,rfl⟩
  go_wp2_with fail
  refine (dateof_c day y m d _ h1 h2 HDI.out).mono ?_
  rintro e w1 ⟨rfl,hb1⟩
  go_wp2_with fail
  refine (QaZ d 2 _ _ rfl (by omega) (by decide) (by decide) (by omega) (ht.below hb1)).mono ?_
  rintro e w2 ⟨rfl,hc0⟩
  have hd0:=Qab hc0 hb1 hb1.size
  go_wp2_with fail
  refine (QaZ m 2 _ _ rfl (by omega) (by decide) (by decide) (by omega) (ht.below hd0)).mono ?_
  rintro e w3 ⟨rfl,hc1⟩
  have hd1:=Qab hc1 hd0 hd0.size
  go_wp2_with fail
  refine (QaZ y 4 _ _ rfl (by omega) (by decide) (by decide) (by omega) (ht.below hd1)).mono ?_
  rintro e w4 ⟨rfl,hc2⟩
  have hd2:=Qab hc2 hd1 hd1.size
  go_wp2
  go_ret2
  exact ⟨rfl,hd2⟩
 ·skip
  have s0:(padS y 4).size=4:=Qar (by omega) (by omega)
  have s1:(padS m 2).size=2:=Qar (by omega) (by omega)
  have s2:(padS d 2).size=2:=Qar (by omega) (by omega)
  have k1:¬ 9223372036854775807<(padS y 4).size+(⟨#[45]⟩:ByteArray).size:=by rw [s0];decide
  have k2:¬ 9223372036854775807<(padS y 4++⟨#[45]⟩).size+(padS m 2).size:=by rw [ByteArray.size_append,s0,s1];decide
  have k3:¬ 9223372036854775807<(padS y 4++⟨#[45]⟩++padS m 2).size+(⟨#[45]⟩:ByteArray).size:=by rw [ByteArray.size_append,ByteArray.size_append,s0,s1];decide
  have k4:¬ 9223372036854775807<(padS y 4++⟨#[45]⟩++padS m 2++⟨#[45]⟩).size+(padS d 2).size:=by rw [ByteArray.size_append,ByteArray.size_append,ByteArray.size_append,s0,s1,s2];decide
  clear s0 s1 s2
  go_enter Tryz.func204,Tryz.ntmps204
  go_wp2_with fail
  refine (isform_c _ _).mono ?_
  rw [H.out]
  rintro e w1 ⟨rfl,rfl⟩
  go_wp2_with fail
  refine (isday_c _ _).mono ?_
  rw [HD.out]
  rintro e w1 ⟨rfl,rfl⟩
  go_wp2_with fail
  refine (dateof_c day y m d _ h1 h2 HDI.out).mono ?_
  rintro e w1 ⟨rfl,hb1⟩
  go_wp2_with fail
  refine (QaZ y 4 _ _ rfl (by omega) (by decide) (by decide) (by omega) (ht.below hb1)).mono ?_
  rintro e w2 ⟨rfl,hc0⟩
  have hd0:=Qab hc0 hb1 hb1.size
  go_wp2_with fail
  refine (QaZ m 2 _ _ rfl (by omega) (by decide) (by decide) (by omega) (ht.below hd0)).mono ?_
  rintro e w3 ⟨rfl,hc1⟩
  have hd1:=Qab hc1 hd0 hd0.size
  go_wp2_with fail
  refine (QaZ d 2 _ _ rfl (by omega) (by decide) (by decide) (by omega) (ht.below hd1)).mono ?_
  rintro e w4 ⟨rfl,hc2⟩
  have hd2:=Qab hc2 hd1 hd1.size
  go_wp2
  go_ret2
  exact ⟨rfl,hd2⟩
 ·skip
  have s0:(padS z 4).size=4:=Qar (by omega) (by omega)
  have s1:(padS (wk day z) 2).size=2:=Qar (by omega) (by omega)
  have s2:(padS ((day-1)%7+1) 1).size=1:=Qar (by omega) (by omega)
  have k1:¬ 9223372036854775807<(padS z 4).size+(padS (wk day z) 2).size:=by rw [s0,s1];decide
  have k2:¬ 9223372036854775807<(padS z 4++padS (wk day z) 2).size+(padS ((day-1)%7+1) 1).size:=by rw [ByteArray.size_append,s0,s1,s2];decide
  clear s0 s1 s2
  go_enter Tryz.func204,Tryz.ntmps204
  go_wp2_with fail
  refine (isform_c _ _).mono ?_
  rw [H.out]
  rintro e w1 ⟨rfl,rfl⟩
  go_wp2_with fail
  refine (isday_c _ _).mono ?_
  rw [HD.out]
  rintro e w1 ⟨rfl,rfl⟩
  go_wp2_with fail
  refine (dateof_c day y m d _ h1 h2 HDI.out).mono ?_
  rintro e w1 ⟨rfl,hb1⟩
  go_wp2_with fail
  refine (weekof_c day z zm zd _ h1 h2 HZ.out).mono ?_
  rintro e w1b ⟨rfl,hb1b⟩
  have hb1:=Qab hb1b hb1 hb1.size
  go_wp2_with fail
  refine (QaZ z 4 _ _ rfl (by omega) (by decide) (by decide) (by omega) (ht.below hb1)).mono ?_
  rintro e w2 ⟨rfl,hc0⟩
  have hd0:=Qab hc0 hb1 hb1.size
  go_wp2_with fail
  refine (QaZ (wk day z) 2 _ _ rfl (by omega) (by decide) (by decide) (by omega) (ht.below hd0)).mono ?_
  rintro e w3 ⟨rfl,hc1⟩
  have hd1:=Qab hc1 hd0 hd0.size
  go_wp2_with fail
  refine (weekday_c _ _ ⟨h1,by omega⟩).mono ?_
  rintro e w5 ⟨rfl,rfl⟩
  go_wp2_with fail
  refine (itoa_c _ _ (by omega) (by omega) (ht.below hd1)).mono ?_
  rintro e w4 ⟨rfl,hc2⟩
  rw [show (⟨(Lib.decDigits ((day-1)%7+1).toNat).toArray⟩:ByteArray)=padS ((day-1)%7+1) 1 from (padS_one (by omega)).symm]
  have hd2:=Qab hc2 hd1 hd1.size
  go_wp2
  go_ret2
  exact ⟨rfl,hd2⟩
 -- END FORMS
end Go.Proofs.YtaiabjiehpcaoaaGreatDoor
namespace Go.Proofs.YtaiabjiehpcaoaaGreatDoor
open Limb Nmb Work
set_option linter.unusedVariables false
set_option linter.unusedSimpArgs false
def Qa5 (u:Int):Nat->Int×Int
 | 0=>(u,0)
 | p+1=>if u%10=0 then Qa5 (u/10) p else (u,((p+1:Nat):Int))
theorem least_step {u:Int} {p:Nat} (h:u%10=0):Qa5 u (p+1)=Qa5 (u/10) p:=if_pos h
theorem least_stop {u:Int} {p:Nat} (h:¬ u%10=0):Qa5 u (p+1)=(u,((p+1:Nat):Int)):=if_neg h
theorem tmod_ten {u:Int} : (u.tmod 10=0)↔(u%10=0):=by
 constructor<;>intro h<;>have:=Int.tmod_eq_emod (a:=u) (b:=10)<;>split at this<;>omega
theorem tdiv_ten {u:Int} (h:u%10=0):u.tdiv 10=u/10:=Int.tdiv_eq_ediv_of_dvd (Int.dvd_of_emod_eq_zero h)
def lstB (u p:Int):Bool:=decide (Qa5 u p.toNat=(u,p))
def sdig (z:Int):List UInt8:=(if z<0 then [45] else [])++Lib.decDigits z.natAbs
theorem sdig_neg {z:Int} (h:z<0):sdig z=45 :: Lib.decDigits z.natAbs:=by unfold sdig;rw [if_pos h];rfl
theorem sdig_pos {z:Int} (h:¬ z<0):sdig z=Lib.decDigits z.natAbs:=by unfold sdig;rw [if_neg h];rfl
noncomputable def dateC (day:Int):Int×Int×Int:=if h:1<=day/\day<=3652059 then (⟨(date_ex h.1 h.2).choose,(date_ex h.1 h.2).choose_spec.choose,(date_ex h.1 h.2).choose_spec.choose_spec.choose⟩) else (0,0,0)
theorem dateC_is {day:Int} (h:1<=day/\day<=3652059):DateIs day (dateC day).1 (dateC day).2.1 (dateC day).2.2:=by
 unfold dateC
 rw [dif_pos h]
 exact (date_ex h.1 h.2).choose_spec.choose_spec.choose_spec
noncomputable def dayS (form day:Int):ByteArray:=dtS form day (dateC day).1 (dateC day).2.1 (dateC day).2.2 (dateC (thu day)).1
theorem num_rng {y m d:Int} (h:Qa7 y m d=true):1<=num y m d/\num y m d<=3652059:=num_day h
theorem readO_day {form pv:Int} {l:List UInt8} {v:Int} (h:Qa1 form pv l=some v):1<=v/\v<=3652059:=by
 have hd:∀ y m d:Int,dayO y m d=some v->1<=v/\v<=3652059:=fun y m d hh=>by
  unfold dayO at hh
  split at hh
  ·injection hh with hh;rw [<- hh];exact num_rng (by assumption)
  ·cases hh
 have hw:∀ y m d:Int,weekO y m d=some v->1<=v/\v<=3652059:=fun y m d hh=>by
  unfold weekO at hh
  split at hh
  ·rename_i hb
   injection hh with hh
   rw [<- hh]
   exact (of_decide_eq_true hb).2.2.1
  ·cases hh
 unfold Qa1 at h
 repeat' split at h
 all_goals first | (exact hd _ _ _ h) | (exact hw _ _ _ h) | (cases h)
theorem made_dec {z:Int} {p:Int} (hp:0<=p/\p<=9) (h:(made z p).2.2=0):decB (made z p).1 (made z p).2.1=true:=by
 unfold made at h ⊢
 by_cases hz:z.natAbs<=1000000000000000
 ·rw [if_pos hz]
  exact decB_mk ⟨by show -1000000000000000<=z;omega,by show z<=1000000000000000;omega,hp.1,hp.2⟩
 ·rw [if_neg hz] at h
  cases h
theorem readR_dec {neg:Bool} {l:List UInt8} {nb:Nat} (hn:nb<=9) (h:(Qa6 neg l nb).2.2=0):decB (Qa6 neg l nb).1 (Qa6 neg l nb).2.1=true:=by
 unfold Qa6 at h ⊢
 cases neg with
 | true=>
  simp only [if_true] at h ⊢
  by_cases hz:numL l=0
  ·rw [if_pos hz] at h;cases h
  ·rw [if_neg hz] at h ⊢;exact made_dec (by omega) h
 | false=>
  simp only [Bool.false_eq_true,if_false] at h ⊢
  exact made_dec (by omega) h
theorem readText_dec {l:List UInt8} (h:(Qag l).2.2=0):decB (Qag l).1 (Qag l).2.1=true:=by
 unfold Qag at h ⊢
 simp only at h ⊢
 generalize hC:cutL (if (l.head? == some 45)=true then l.tail else l) 46=C at h ⊢
 by_cases hb:(decide (40<l.length)||!Qbd C.1||(C.2.2&&(!digB C.2.1||decide (9<C.2.1.length))))=true
 ·rw [if_pos hb] at h;cases h
 ·rw [if_neg hb] at h ⊢
  refine readR_dec ?_ h
  have h1:=(cutL_len (if (l.head? == some 45)=true then l.tail else l) 46).2
  rw [hC] at h1
  cases hc:C.2.2 with
  | false=>rw [h1 hc];simp
  | true=>
   rw [hc] at hb
   simp at hb
   omega
def decOk (places:Int) (l:List UInt8):Bool:=decide ((Qag l).2.2=0)&&decide ((Qag l).2.1<=places)&&lstB (Qag l).1 (Qag l).2.1
def dayOk (l:List UInt8):Bool:=(Qa1 1 1 l).isSome
def txtOk (l:List UInt8):Bool:=inL l 32 126&&decide (Lib.trimS l [32]=l)
def valOk (c:Col) (l:List UInt8):Bool:=if c.kind=2 then decOk c.places l else if c.kind=3 then dayOk l else txtOk l
def dayN (form:Int) (l:List UInt8):Int:=(Qa1 form 1 l).getD 0
noncomputable def wrS (mark:Int) (c:Col) (s:ByteArray):ByteArray :=
 if s=⟨#[]⟩ then ⟨#[]⟩
 else if c.kind=2/\mark=0 then bs (sdig (Qaz (Qag s.data.toList).1 (Qag s.data.toList).2.1 c.places.toNat))
 else if c.kind=3 then dayS c.form (dayN 1 s.data.toList)
 else s
noncomputable def valF (mark quote:Int) (c:Col) (s:ByteArray):Int :=
 if s=⟨#[]⟩ then (if c.need=true then 13 else 0)
 else if valOk c s.data.toList=false then 6
 else if c.width<(wrS mark c s).size then 16
 else if mark≠0/\quote=0/\0<=Lib.indexByte s.data.toList (UInt8.ofNat mark.toNat) then 12
 else 0
def frF (g:Nat->Int):Nat->Int×Int
 | 0=>(0,0)
 | n+1=>if (frF g n).2=0 then (if g n=0 then (0,0) else ((n:Int),g n)) else frF g n
theorem frF_no {g:Nat->Int} : ∀ {n:Nat},(∀ j,j<n->g j=0)->frF g n=(0,0)
 | 0,_=>rfl
 | n+1,h=>by
  unfold frF
  rw [frF_no (fun j hj=>h j (by omega)),if_pos rfl,if_pos (h n (by omega))]
theorem Qb2 {g:Nat->Int} {j:Nat} (h:∀ t,t<j->g t=0) (hj:g j≠0):∀ {n:Nat},j<n->frF g n=((j:Int),g j)
 | n+1,hn=>by
  unfold frF
  rcases Nat.lt_or_ge j n with hlt | hge
  ·rw [Qb2 h hj hlt,if_neg hj]
  ·obtain rfl:j=n:=by omega
   rw [frF_no h,if_pos rfl,if_neg hj]
structure RowP where
 tag:ByteArray
 vals:List ByteArray
 deriving DecidableEq
noncomputable def rowF (f:Fmt) (r:RowP):Int×Int :=
 if katI f r.tag<0 then (0,9)
 else if r.vals.length≠(katK f r.tag).fields.length then (0,3)
 else frF (fun j=>valF f.mark f.quote (cA (katK f r.tag).fields j) (wd r.vals j)) (katK f r.tag).fields.length
theorem dec_cases (pl:Int) (l:List UInt8):((Qag l).2.2≠0/\decOk pl l=false)∨((Qag l).2.2=0/\∃ p:Nat,(Qag l).2.1=(p:Int)/\decB (Qag l).1 (p:Int)=true/\decOk pl l=(decide ((p:Int)<=pl)&&decide (Qa5 (Qag l).1 p=((Qag l).1,(p:Int))))):=by
 by_cases h:(Qag l).2.2=0
 ·refine .inr ⟨h,(Qag l).2.1.toNat,?_⟩
  have hd:=readText_dec h
  have h1:=QaV hd
  have e:(Qag l).2.1=((Qag l).2.1.toNat:Int):=by omega
  refine ⟨e,by rw [<- e];exact hd,?_⟩
  unfold decOk lstB
  rw [<- e,decide_eq_true h]
  rfl
 ·exact .inl ⟨h,by unfold decOk;rw [decide_eq_false h];rfl⟩
theorem dw_id (p:UInt8->Bool) (l:List UInt8):l.dropWhile p=l↔∀ a,l.head?=some a->p a=false:=by
 cases l with
 | nil=>simp
 | cons a t=>
  cases h:p a with
  | true=>
   rw [List.dropWhile_cons_of_pos h]
   constructor
   ·intro e
    exfalso
    have h1:=(List.dropWhile_suffix p (l:=t)).length_le
    rw [e,List.length_cons] at h1
    omega
   ·intro hh
    rw [hh a rfl] at h
    cases h
  | false=>
   rw [List.dropWhile_cons_of_neg (by rw [h];simp)]
   exact ⟨fun _ x hx=>by injection hx with hx;rw [<- hx];exact h,fun _=>rfl⟩
theorem trim_id (l:List UInt8):Lib.trimS l [32]=l↔l.head? ≠ some 32/\l.getLast? ≠ some 32:=by
 have e:Lib.trimS l [32]=(l.reverse.dropWhile ([32].contains ·)).reverse.dropWhile ([32].contains ·):=rfl
 have hp:∀ a:UInt8,([32].contains a=false)↔a≠32:=fun a=>by simp
 have h1:=dw_id ([32].contains ·) l
 have h2:=dw_id ([32].contains ·) l.reverse
 rw [List.head?_reverse] at h2
 rw [e]
 constructor
 ·intro h
  have h3:=(List.dropWhile_suffix ([32].contains ·) (l:=l.reverse)).length_le
  have h4:=(List.dropWhile_suffix ([32].contains ·) (l:=(l.reverse.dropWhile ([32].contains ·)).reverse)).length_le
  rw [h] at h4
  have h5:l.reverse.dropWhile ([32].contains ·)=l.reverse:=(List.dropWhile_suffix _).eq_of_length (by simp at h3 h4 ⊢;omega)
  rw [h5,List.reverse_reverse] at h
  exact ⟨fun hh=>(hp _).1 (h1.1 h 32 hh) rfl,fun hh=>(hp _).1 (h2.1 h5 32 hh) rfl⟩
 ·intro ⟨ha,hb⟩
  rw [h2.2 (fun a hh=>(hp a).2 (fun e=>hb (by rw [hh,e]))),List.reverse_reverse]
  exact h1.2 (fun a hh=>(hp a).2 (fun e=>ha (by rw [hh,e])))
end Go.Proofs.YtaiabjiehpcaoaaGreatDoor
namespace Go.Proofs.YtaiabjiehpcaoaaGreatDoor
open Go.RowKit Limb
end Go.Proofs.YtaiabjiehpcaoaaGreatDoor
