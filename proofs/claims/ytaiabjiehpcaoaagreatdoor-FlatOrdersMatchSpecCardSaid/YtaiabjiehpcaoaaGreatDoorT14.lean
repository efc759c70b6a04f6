/- The walks of package amount: marksFault, sign, pointed, grouped. The walks of amount.grouped and amount.Text. The walk of amount.Implied. -/
import Derived.Test.YtaiabjiehpcaoaaGreatDoorA7
import Derived.Test.YtaiabjiehpcaoaaGreatDoorShelf
import Derived.Deep.QuietTactic
import Derived.BigQuiet
import Derived.IntWalk
import Derived.Lib.Repeat
import Derived.Test.YtaiabjiehpcaoaaGreatDoorT3
import Derived.Deep.RegionHeld3
import Derived.Test.YtaiabjiehpcaoaaGreatDoorA8
import Derived.Test.YtaiabjiehpcaoaaGreatDoorE1
import Derived.Lib.Hide
import Derived.Test.YtaiabjiehpcaoaaGreatDoorT16
import Derived.Test.YtaiabjiehpcaoaaGreatDoorM2
-- merged: T1 T4 T5 T6 T7 T8 T9 T10 T13 T14
set_option maxHeartbeats 2000000
set_option maxRecDepth 100000
namespace Go.Proofs.YtaiabjiehpcaoaaGreatDoor
open Go.RowKit Limb
set_option linter.unusedVariables false
set_option linter.unusedSimpArgs false
def signS (u:Int):ByteArray:=if u<0 then ⟨#[45]⟩ else ⟨#[]⟩
theorem sgn_c (u p:Int) (w:World):Calls Tryz.prog 138 #[.agg #[.int .i64 u,.int .i64 p]] w fun e w'=>e=.returned (.string (signS u))/\Below w.heap.size w w':=by
 by_cases h:u<0
 ·rw [show signS u=⟨#[45]⟩ from if_pos h]
  go_enter Tryz.func138,Tryz.ntmps138
  go_wp2
  go_ret
  exact ⟨rfl,by go_grown⟩
 ·rw [show signS u=⟨#[]⟩ from if_neg h]
  go_enter Tryz.func138,Tryz.ntmps138
  go_wp2
  go_ret
  exact ⟨rfl,by go_grown⟩
theorem QbC (c:UInt8):∀ n,Lib.repeatL [c] n=List.replicate n c
 | 0=>rfl
 | n+1=>by rw [Lib.repeatL,QbC c n,List.replicate_succ];rfl
def padL (l:List UInt8) (p:Nat):List UInt8:=List.replicate (p+1-l.length) 48++l
theorem padL_len (l:List UInt8) (p:Nat):(padL l p).length=max (p+1) l.length:=by unfold padL;simp;omega
def Pointed (l:List UInt8) (p:Nat) (w:World) (e:Ending) (w':World):Prop :=
 Below w.heap.size w w'/\∃ a b:ByteArray,e=.returned (.tuple #[.string a,.string b])/\a.data.toList=(padL l p).take ((padL l p).length-p)/\b.data.toList=(padL l p).drop ((padL l p).length-p)
theorem pointed_c (s:ByteArray) (p:Nat) (w:World) (hp:p<=9) (hs:s.size<=1000) :
  Calls Tryz.prog 135 #[.string s,.int .i64 (p:Int)] w (Pointed s.data.toList p w):=by
 have hl:s.data.toList.length=s.size:=by simp
 obtain ⟨c,hc⟩:∃ c:Nat,p+1-s.size=c:=⟨_,rfl⟩
 have hrep:=Tryz.strings_Repeat ⟨#[48]⟩ c
 have HREP:=Hd hrep;clear hrep
 have HPL:=Hd (show padL s.data.toList p=List.replicate c 48++s.data.toList by unfold padL;rw [hl,hc])
 have hcb:c<=10:=by omega
 have fin:∀ (r:ByteArray) (W:World),r=(⟨(Lib.repeatL [48] c).toArray⟩:ByteArray)->Below w.heap.size w W->p+1<=c+s.size ->
   ∃ t:ByteArray,r++s=t/\t.size=c+s.size/\t.data.toList=padL s.data.toList p:=by
  intro r W hr _ _
  refine ⟨r++s,rfl,?_,?_⟩
  ·rw [hr,ByteArray.size_append,QbC];congr 1;show (List.replicate c (48:UInt8)).toArray.size=c;simp
  ·rw [HPL.out,hr];simp [QbC]
 have FIN:=Hd fin;clear fin
 have e1:max (0:Int) ((p:Int)+1-(s.size:Int))=((c:Nat):Int):=by omega
 have HH:=Hd (show p+1<=c+s.size by omega)
 have E1:=Hd e1;clear e1 hc
 go_enter Tryz.func135,Tryz.ntmps135
 go_wp2_with fail
 rw [E1.out]
 refine (HREP.out _ (by omega) (by show 1*c<=_;omega)).mono ?_
 rintro e w1 ⟨rfl,hb1⟩
 obtain ⟨r,hr⟩:∃ r:ByteArray,(⟨(Lib.repeatL [48] c).toArray⟩:ByteArray)=r:=⟨_,rfl⟩
 obtain ⟨t,ht,hts,htd⟩:=FIN.out r w1 hr.symm hb1 HH.out
 have hrs:r.size=c:=by rw [<- hr,QbC];show (List.replicate c (48:UInt8)).toArray.size=c;simp
 have hr2:(⟨(Lib.repeatL (⟨#[48]⟩:ByteArray).data.toList c).toArray⟩:ByteArray)=r:=hr
 rw [hr2]
 clear hr hr2
 have hcond:¬ 9223372036854775807<r.size+s.size:=by omega
 have HT:=Hd ht;have HTD:=Hd htd
 clear ht htd
 go_upto_region 2 with fail
 rw [HT.out]
 have hts2:t.size<=1010:=by omega
 have hpt:p<=t.size:=by have:=HH.out;omega
 clear hts hrs hcond
 have e1:IntKind.i64.wrap ((t.size:Int)-(p:Int))=(t.size:Int)-(p:Int):=IntWalk.i64_in _ (by omega)
 have e2:(p:Int)<=(t.size:Int):=by omega
 have e2':(0:Int)<=(t.size:Int)-(p:Int):=by omega
 have e3:((t.size:Int)-(p:Int)).toNat=t.size-p:=by omega
 have e4:(t.size:Int)-(p:Int)<=(t.size:Int):=by omega
 go_quiet (fail)
 have E4:=Hd e3
 clear e1 e2 e2' e3 e4
 go_wp2
 go_ret2
 refine ⟨below_drewN hb1 _,t.extract 0 (t.size-p),t.extract (t.size-p) t.size,rfl,?_,?_⟩
 ·have hts3:t.data.toList.length=t.size:=by simp
  rw [<- HTD.out,hts3,Lib.extract_data];simp
 ·have hts3:t.data.toList.length=t.size:=by simp
  rw [<- HTD.out,hts3,Lib.extract_to_end]
def sgL (u:Int):List UInt8:=if u<0 then [45] else []
def digL (u:Int):List UInt8:=Lib.decDigits u.natAbs
def befL (u:Int) (p:Nat):List UInt8:=(padL (digL u) p).take ((padL (digL u) p).length-p)
def behL (u:Int) (p:Nat):List UInt8:=(padL (digL u) p).drop ((padL (digL u) p).length-p)
def textL (u:Int) (p:Nat):List UInt8:=sgL u++befL u p++(if p=0 then [] else 46 :: behL u p)
theorem digL_len {u:Int} (h:u.natAbs<10 ^ 30):1<=(digL u).length/\(digL u).length<=30:=by
 unfold digL
 rcases Nat.eq_zero_or_pos u.natAbs with h0 | h0
 ·rw [h0,Lib.decDigits_one (by decide)];simp
 ·rw [<- tail_pos h0]
  refine ⟨?_,tail_len 30 _ h⟩
  rw [QbF h0];simp
def RetST (l:List UInt8) (f:Int) (w:World) (e:Ending) (w':World):Prop:=∃ s:ByteArray,e=.returned (.tuple #[.string s,.int .i64 f])/\s.data.toList=l/\Below w.heap.size w w'
def QbV (u p:Int):List UInt8:=if decB u p=true then textL u p.toNat else []
def decF (u p:Int):Int:=if decB u p=true then 0 else 1
theorem bef_len {u:Int} {p:Nat} (hp:p<=9) (hu:u.natAbs<10 ^ 30):(befL u p).length<=40/\(behL u p).length<=40:=by
 have h1:=padL_len (digL u) p
 have h2:=digL_len hu
 unfold befL behL
 rw [List.length_take,List.length_drop]
 omega
theorem big_pos {K:IntKind} {E:TypeId} {b:Nat} {w:World} {s:Bool} {A:Option Addr} {n c m:Nat} (h:Big K E b w s A n c (m:Int)) (hb:0<b):s=false:=by
 obtain ⟨l,hd,hnc,hcm,gl,nl,sl,hz⟩:=h
 cases s with
 | false=>rfl
 | true=>
  have:=QbU hb nl (sl rfl)
  unfold sg at hz
  simp at hz
  omega
theorem nat_pow200 {u:Int} (h : -1000000000000000<=u/\u<=1000000000000000):u.natAbs<10 ^ 200/\u.natAbs<10 ^ 30:=by
 have h1:u.natAbs<=1000000000000000:=by omega
 exact ⟨Nat.lt_of_le_of_lt h1 (by decide),Nat.lt_of_le_of_lt h1 (by decide)⟩
theorem signS_data (u:Int):(signS u).data.toList=sgL u:=by unfold signS sgL;split<;>rfl
theorem signS_size (u:Int):(signS u).size<=1:=by unfold signS;split<;>decide
theorem wtext_c (u p:Int) (w:World) :
  Calls Tryz.prog 77 #[.agg #[.int .i64 u,.int .i64 p]] w (RetST (QbV u p) (decF u p) w):=by
 cases hd:decB u p with
 | false=>
  have HC:=Hd (fun w=>chk_bad u p w hd)
  rw [show QbV u p=[] from if_neg (by rw [hd];decide),show decF u p=1 from if_neg (by rw [hd];decide)]
  clear hd
  go_enter Tryz.func77,Tryz.ntmps77
  go_wp2_with fail
  refine (HC.out _).mono ?_
  rintro e w1 ⟨rfl,hb⟩
  go_wp2
  go_ret2
  refine ⟨_,rfl,rfl,?_⟩
  go_grown
  exact Qab hb (by go_grown) (by simp only [World.size_alloc];omega)
 | true=>
  have hdb:=QaV hd
  have HC:=Hd (fun w=>chk_ok u p w hd)
  rw [show QbV u p=textL u p.toNat from if_pos hd,show decF u p=0 from if_pos hd]
  obtain ⟨q,rfl⟩:∃ q:Nat,p=(q:Int):=⟨p.toNat,by omega⟩
  clear hd
  go_enter Tryz.func77,Tryz.ntmps77
  go_wp2_with fail
  refine (HC.out _).mono ?_
  rintro e w1 ⟨rfl,hb⟩
  have hX:=Qaa (Qac w (.cells #[.int .i64 u,.int .i64 (q:Int)] 70) rfl) hb
  have hB:=Qab hb (by go_grown:Below w.heap.size w _) (by simp only [World.size_alloc];omega)
  clear hb
  obtain ⟨a0,a1,-,-,a4⟩:=box2 hX
  have hz:=hB.size
  obtain ⟨D,hD⟩:∃ D:ByteArray,(⟨(Lib.decDigits u.natAbs).toArray⟩:ByteArray)=D:=⟨_,rfl⟩
  have hDl:D.data.toList=digL u:=by rw [<- hD];rfl
  have hm200:=nat_pow200 (u:=u) (by omega)
  have hDs:D.size<=1000:=by
   have h1:=digL_len hm200.2
   rw [<- hDl] at h1
   have:D.data.toList.length=D.size:=by simp
   omega
  have HD:=Hd hD;have HDL:=Hd hDl;have H200:=Hd hm200.1;have HQ:=Hd (show q<=9 by omega);have HU:=Hd hdb
  clear hD hDl hm200 hdb
  go_wp2_with fail
  go_region_held3 (fun w'=>w'.cell? ⟨w.heap.size,0,none⟩=some (.int .i64 u)/\w'.cell? ⟨w.heap.size,1,none⟩=some (.int .i64 (q:Int)))
   (first | (with_reducible exact ⟨r20,r21⟩) | (with_reducible exact ⟨r30,r31⟩) | (with_reducible exact ⟨r40,r41⟩) | (with_reducible exact ⟨r50,r51⟩) | (exact ⟨a0,a1⟩) | (go_keep;done))
   (first
    | (go_at_call 72;refine (of_c u _ (by have:=HU.out;omega) (by have:=HU.out;omega)).mono ?_;rintro e w2 ⟨s2,A2,n2,c2,rfl,hv2,hb2⟩;(have hX2:=Qaa (w:=w1.drew) hX hb2);(have hB2:=Qab hb2 hB.drew hz);obtain ⟨r20,r21,-,-,-⟩:=box2 hX2)
    | (go_at_call 136;refine (abs_c _ hv2).mono ?_;rintro e w3 ⟨s3,A3,n3,c3,rfl,hv3,hb3⟩;(have hX3:=Qaa hX2 hb3);(have hB3:=Qab hb3 hB2 hB2.size);obtain ⟨r30,r31,-,-,-⟩:=box2 hX3;(have hs3:=big_pos hv3 (by decide));subst hs3)
    | (go_at_call 137;refine (text_c _ hv3 H200.out).mono ?_;rintro e w4 ⟨rfl,hb4⟩;rw [HD.out];(have hX4:=Qaa hX3 hb4);(have hB4:=Qab hb4 hB3 hB3.size);obtain ⟨r40,r41,-,-,-⟩:=box2 hX4)
    | (go_at_call 135;refine (pointed_c D q _ HQ.out hDs).mono ?_;rintro e w5 ⟨hb5,ba,bb,rfl,hba,hbb⟩;(have hX5:=Qaa hX4 hb5);(have hB5:=Qab hb5 hB4 hB4.size);obtain ⟨r50,r51,-,-,-⟩:=box2 hX5))
  clear hX hX2 hX3 hX4 hb2 hb3 hb4 hb5 hB hB2 hB3 hB4 r20 r21 r30 r31 r40 r41 hv2 hv3 a0 a1
  rw [HDL.out] at hba hbb
  have hle:=bef_len (u:=u) HQ.out (nat_pow200 (u:=u) (by have:=HU.out;omega)).2
  have hbas : ba.size <= 40 := by have h1 : ba.data.toList.length = ba.size := by simp
                                  rw [<- h1,hba];exact hle.1
  have hbbs : bb.size <= 40 := by have h1 : bb.data.toList.length = bb.size := by simp
                                  rw [<- h1,hbb];exact hle.2
  have HBA:=Hd hba;have HBB:=Hd hbb
  clear hba hbb hle
  have hSs:=signS_size u
  have HSD:=Hd (signS_data u)
  have HSG:=Hd (fun w=>sgn_c u (q:Int) w)
  obtain ⟨S,hS⟩:=ex_ (signS u)
  rw [hS] at hSs HSD HSG
  clear hS
  have hz5:=hB5.size
  rcases Nat.eq_zero_or_pos q with h0 | h0
  ·subst h0
   have hcat:¬ 9223372036854775807<S.size+ba.size:=by omega
   go_wp2_with fail
   refine (HSG.out _).mono ?_
   rintro e w6 ⟨rfl,hb6⟩
   have hB6:=Qab hb6 hB5 hz5
   go_wp2
   go_ret2
   refine ⟨_,rfl,?_,hB6⟩
   rw [ByteArray.data_append,Array.toList_append,HSD.out,HBA.out]
   unfold textL befL
   simp
  ·have hcat:¬ 9223372036854775807<S.size+ba.size:=by omega
   have hcat2:¬ 9223372036854775807<S.size+ba.size+1:=by omega
   have hcat3:¬ 9223372036854775807<S.size+ba.size+1+bb.size:=by omega
   have hq0:((q:Int)==0)=false:=beq_eq_false_iff_ne.2 (by omega)
   go_wp2_with fail
   refine (HSG.out _).mono ?_
   rintro e w6 ⟨rfl,hb6⟩
   have hB6:=Qab hb6 hB5 hz5
   go_wp2
   go_ret2
   refine ⟨_,rfl,?_,hB6⟩
   simp only [ByteArray.data_append,Array.toList_append,HSD.out,HBA.out,HBB.out]
   rw [Int.toNat_natCast]
   unfold textL befL behL
   rw [if_neg (by omega)]
   simp
theorem RetST.of {l l':List UInt8} {f f':Int} {w w':World} {e:Ending} (h:RetST l f w e w') (hl:l=l') (hf:f=f'):RetST l' f' w e w':=by subst hl;subst hf;exact h
theorem tdec_w {u p:Int} (h:decB u p=true):decide (-1000000000000000<=u/\u<=1000000000000000)=true/\decide (0<=p/\p<=9)=true:=by
 have:=QaV h
 exact ⟨decide_eq_true (by omega),decide_eq_true (by omega)⟩
theorem trchk_ok (u p:Int) (w:World) (h:decB u p=true):Calls Tryz.prog 105 #[.agg #[.int .i64 u,.int .i64 p]] w fun e w'=>e=.returned (.int .i64 0)/\Below w.heap.size w w':=by
 obtain ⟨h1,h2⟩:=tdec_w h
 have H1:=Hd h1;have H2:=Hd h2
 clear h h1 h2
 go_enter Tryz.func105,Tryz.ntmps105
 go_wp2_with (first | (go_at_call_of 176 (Value.int .i64 9);refine (QaK _ _ _ _).mono ?_;rintro e w1 ⟨rfl,rfl⟩;rw [H2.out]) | (go_at_call 176;refine (QaK _ _ _ _).mono ?_;rintro e w1 ⟨rfl,rfl⟩;rw [H1.out]))
 go_ret
 exact ⟨rfl,by go_grown⟩
theorem trchk_bad (u p:Int) (w:World) (h:decB u p=false):Calls Tryz.prog 105 #[.agg #[.int .i64 u,.int .i64 p]] w fun e w'=>e=.returned (.int .i64 1)/\Below w.heap.size w w':=by
 have h:=decB_not h
 by_cases h1 : -1000000000000000<=u/\u<=1000000000000000
 ·have H1:=Hd (decide_eq_true h1)
  have H2:=Hd (decide_eq_false (p:=0<=p/\p<=9) (by omega))
  clear h h1
  go_enter Tryz.func105,Tryz.ntmps105
  go_wp2_with (first | (go_at_call_of 176 (Value.int .i64 9);refine (QaK _ _ _ _).mono ?_;rintro e w1 ⟨rfl,rfl⟩;rw [H2.out]) | (go_at_call 176;refine (QaK _ _ _ _).mono ?_;rintro e w1 ⟨rfl,rfl⟩;rw [H1.out]))
  go_ret
  exact ⟨rfl,by go_grown⟩
 ·have H1:=Hd (decide_eq_false h1)
  clear h h1
  go_enter Tryz.func105,Tryz.ntmps105
  go_wp2_with (go_at_call 176;refine (QaK _ _ _ _).mono ?_;rintro e w1 ⟨rfl,rfl⟩;rw [H1.out])
  go_ret
  exact ⟨rfl,by go_grown⟩
theorem tdec_c (u p:Int) (w:World):Calls Tryz.prog 105 #[.agg #[.int .i64 u,.int .i64 p]] w fun e w'=>e=.returned (.int .i64 (decF u p))/\Below w.heap.size w w':=by
 unfold decF
 cases hd:decB u p with
 | true=>exact trchk_ok u p w hd
 | false=>exact trchk_bad u p w hd
theorem rtext_c (u p:Int) (w:World) (ht:Tab w) :
  Calls Tryz.prog 86 #[.agg #[.int .i64 u,.int .i64 p]] w (RetST (QbV u p) (decF u p) w):=by
 have HC:=Hd (fun w=>tdec_c u p w)
 cases hd:decB u p with
 | false=>
  rw [show decF u p=1 from if_neg (by rw [hd];decide)] at HC
  rw [show QbV u p=[] from if_neg (by rw [hd];decide),show decF u p=1 from if_neg (by rw [hd];decide)]
  clear hd
  go_enter Tryz.func86,Tryz.ntmps86
  go_wp2_with fail
  refine (HC.out _).mono ?_
  rintro e w1 ⟨rfl,hb⟩
  go_wp2
  go_ret2
  refine ⟨_,rfl,rfl,?_⟩
  go_grown
  exact Qab hb (by go_grown) (by simp only [World.size_alloc];omega)
 | true=>
  have hdb:=QaV hd
  rw [show decF u p=0 from if_pos hd] at HC
  rw [show QbV u p=textL u p.toNat from if_pos hd,show decF u p=0 from if_pos hd]
  obtain ⟨q,rfl⟩:∃ q:Nat,p=(q:Int):=⟨p.toNat,by omega⟩
  rw [Int.toNat_natCast]
  clear hd
  have HQ:=Hd (show q<=9 by omega)
  have hm:max u (-u)=(u.natAbs:Int):=by omega
  have HI:=Hd (fun (w:World) (ht:Tab w)=>itoa_c (u.natAbs:Int) w (by omega) (by omega) ht)
  have hu30:=(nat_pow200 (u:=u) (by omega)).2
  have hdl:=digL_len hu30
  obtain ⟨D,hD⟩:∃ D:ByteArray,(⟨(Lib.decDigits u.natAbs).toArray⟩:ByteArray)=D:=⟨_,rfl⟩
  rw [Int.toNat_natCast,hD] at HI
  have hDl:D.data.toList=digL u:=by rw [<- hD];rfl
  have hDs:D.size=(digL u).length:=by rw [<- hDl];simp
  rw [<- hDs] at hdl
  have hwn:IntKind.i64.wrap (-u)=-u:=IntWalk.i64_in _ (by omega)
  have HU:=Hd hdb;have HDL:=Hd hDl;have HDS:=Hd hDs;have HM:=Hd hm
  have u1 : -1000000000000000<=u:=hdb.1
  have u2:u<=1000000000000000:=hdb.2.1
  have HT:=Hd ht
  clear hdb hD hDl hDs hu30 hm ht hwn
  go_enter Tryz.func86,Tryz.ntmps86
  go_wp2_with fail
  refine (HC.out _).mono ?_
  rintro e w1 ⟨rfl,hb⟩
  have hX:=Qaa (Qac w (.cells #[.int .i64 u,.int .i64 (q:Int)] 70) rfl) hb
  have hB:=Qab hb (by go_grown:Below w.heap.size w _) (by simp only [World.size_alloc];omega)
  clear hb
  obtain ⟨a0,a1,-,-,a4⟩:=box2 hX
  have hz:=hB.size
  have HTA:=Hd (HT.out.below (by exact hB))
  go_wp2_with fail
  rw [HM.out]
  refine (HI.out _ HTA.out).mono ?_
  rintro e w2 ⟨rfl,hb2⟩
  have hX2:=Qaa hX hb2
  have hB2:=Qab hb2 hB hz
  have hz2:=hB2.size
  clear hX hB hb2 a0 a1 a4
  obtain ⟨a0,a1,-,-,a4⟩:=box2 hX2
  obtain ⟨c,hc⟩:∃ c:Nat,q+1-D.size=c:=⟨_,rfl⟩
  have HREP:=Hd (Tryz.strings_Repeat ⟨#[48]⟩ c)
  have E1:=Hd (show max (0:Int) ((q:Int)+1-(D.size:Int))=((c:Nat):Int) by omega)
  have hc10:c<=10:=by have:=HQ.out;omega
  have HPD:=Hd (show padL (digL u) q=List.replicate c 48++D.data.toList by unfold padL;rw [<- HDS.out,hc,HDL.out])
  have hq9:q<=9:=HQ.out
  have hqc:q+1<=c+D.size:=by omega
  clear hc
  go_wp2_with fail
  rw [E1.out]
  refine (HREP.out _ (by omega) (by show 1*c<=_;omega)).mono ?_
  rintro e w3 ⟨rfl,hb3⟩
  obtain ⟨R,hR⟩:∃ R:ByteArray,(⟨(Lib.repeatL [48] c).toArray⟩:ByteArray)=R:=⟨_,rfl⟩
  have hRs:R.size=c:=by rw [<- hR,QbC];show (List.replicate c (48:UInt8)).toArray.size=c;simp
  have hRl:R.data.toList=List.replicate c 48:=by rw [<- hR,QbC]
  have hR2:(⟨(Lib.repeatL (⟨#[48]⟩:ByteArray).data.toList c).toArray⟩:ByteArray)=R:=hR
  rw [hR2]
  have hX3:=Qaa hX2 hb3
  have hB3:=Qab hb3 hB2 hz2
  have hz3:=hB3.size
  obtain ⟨t,ht⟩:∃ t:ByteArray,R++D=t:=⟨_,rfl⟩
  have htl:t.data.toList=padL (digL u) q:=by rw [HPD.out,<- ht,ByteArray.data_append,Array.toList_append,hRl]
  have hts:t.size=c+D.size:=by rw [<- ht,ByteArray.size_append,hRs]
  have HTT:=Hd ht;have HTL:=Hd htl
  have hcond:¬ 9223372036854775807<R.size+D.size:=by omega
  clear hR hR2 hRl htl hX2 hB2 hb3 a0 a1 a4
  obtain ⟨a0,a1,-,-,a4⟩:=box2 hX3
  have htl':t.data.toList.length=t.size:=by simp
  rcases Nat.eq_zero_or_pos q with h0 | h0
  ·subst h0
   have hfin:∀ X:ByteArray,X.data.toList=sgL u->(X++t).data.toList=textL u 0:=by
    intro X hX
    rw [ByteArray.data_append,Array.toList_append,hX,HTL.out]
    unfold textL befL
    simp
   have HFIN:=Hd hfin
   clear hfin
   by_cases hn:u<0
   ·have hcat:¬ 9223372036854775807<1+t.size:=by omega
    have HG:=Hd (show sgL u=[45] from if_pos hn)
    go_wp2
    go_ret2
    exact ⟨_,rfl,HFIN.out _ HG.out.symm,hB3⟩
   ·have HG:=Hd (show sgL u=[] from if_neg hn)
    go_wp2
    go_ret2
    exact ⟨_,rfl,by have:=HFIN.out ⟨#[]⟩ HG.out.symm;simpa using this,hB3⟩
  ·have hq0:(0:Int)<(q:Int):=by omega
   have hqt:q<=t.size:=by omega
   have hts2:t.size<=50:=by omega
   clear hts
   obtain ⟨A,hA⟩:=ex_ (t.extract 0 (t.size-q))
   obtain ⟨B,hB⟩:=ex_ (t.extract (t.size-q) t.size)
   have hAs:A.size=t.size-q:=by rw [<- hA,ByteArray.size_extract];omega
   have hBs:B.size=q:=by rw [<- hB,ByteArray.size_extract];omega
   have hAl:A.data.toList=befL u q:=by unfold befL;rw [<- HTL.out,<- hA,htl',Lib.extract_data];simp
   have hBl:B.data.toList=behL u q:=by unfold behL;rw [<- HTL.out,<- hB,htl',Lib.extract_to_end]
   have hfin:∀ X:ByteArray,X.data.toList=sgL u->(X++(A++⟨#[46]⟩++B)).data.toList=textL u q:=by
    intro X hX
    simp only [ByteArray.data_append,Array.toList_append,hX,hAl,hBl]
    unfold textL
    rw [if_neg (by omega)]
    simp
   have HFIN:=Hd hfin
   have k1:¬ 9223372036854775807<A.size+1:=by omega
   have k2:¬ 9223372036854775807<A.size+1+B.size:=by omega
   have k3:¬ 9223372036854775807<1+(A.size+1+B.size):=by omega
   clear hfin hAl hBl
   have e1:IntKind.i64.wrap ((t.size:Int)-(q:Int))=(t.size:Int)-(q:Int):=IntWalk.i64_in _ (by omega)
   have e2:(q:Int)<=(t.size:Int):=by omega
   have e2':(0:Int)<=(t.size:Int)-(q:Int):=by omega
   have e3:((t.size:Int)-(q:Int)).toNat=t.size-q:=by omega
   have e4:(t.size:Int)-(q:Int)<=(t.size:Int):=by omega
   go_wp2_with fail
   go_quiet (fail)
   clear e1 e2 e2' e3 e4
   by_cases hn:u<0
   ·have HG:=Hd (show sgL u=[45] from if_pos hn)
    go_wp2
    go_ret2
    exact ⟨_,rfl,HFIN.out _ HG.out.symm,below_drewN hB3 _⟩
   ·have HG:=Hd (show sgL u=[] from if_neg hn)
    go_wp2
    go_ret2
    exact ⟨_,rfl,by have:=HFIN.out ⟨#[]⟩ HG.out.symm;simpa using this,below_drewN hB3 _⟩
end Go.Proofs.YtaiabjiehpcaoaaGreatDoor
namespace Go.Proofs.YtaiabjiehpcaoaaGreatDoor
open Go.RowKit Limb
set_option linter.unusedVariables false
set_option linter.unusedSimpArgs false
set_option linter.unnecessarySimpa false
theorem dec_ne (n:Nat):1<=(Lib.decDigits n).length:=by
 rw [Lib.decDigits];split<;>simp
end Go.Proofs.YtaiabjiehpcaoaaGreatDoor
