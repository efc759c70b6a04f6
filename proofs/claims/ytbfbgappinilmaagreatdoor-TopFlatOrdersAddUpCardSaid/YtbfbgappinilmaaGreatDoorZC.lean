/- The walk of the program's SumOf. (Printed by genY7.py.) Plain: the sum of a column's values is the sum of its rows. -/
import Derived.Test.YtbfbgappinilmaaGreatDoorY6
import Derived.Test.YtbfbgappinilmaaGreatDoorF1
import Derived.Test.YtbfbgappinilmaaGreatDoorShelf
import Derived.Deep.QuietTactic
import Derived.BigQuiet
import Derived.IntWalk
import Derived.Lib.Repeat
import Derived.Test.YtbfbgappinilmaaGreatDoorT3
import Derived.Deep.RegionHeld3
import Derived.Test.YtbfbgappinilmaaGreatDoorA8
import Derived.Test.YtbfbgappinilmaaGreatDoorE2
import Derived.Lib.Hide
import Derived.Test.YtbfbgappinilmaaGreatDoorA5
import Derived.Test.YtbfbgappinilmaaGreatDoorG1
import Derived.Test.YtbfbgappinilmaaGreatDoorM2
-- merged: Y7 YQ T1 T4 T5 T6 T7 T8 T9 T10 T13 T14 ZC
namespace Go.Proofs.YtbfbgappinilmaaGreatDoor
open Go.RowKit Limb Nmb Work
set_option linter.unusedVariables false
set_option linter.unusedSimpArgs false
noncomputable def sumOfR (f:Fmt) (rs:List RowP) (tag name:ByteArray):Int×Int×Int :=
 if (colAtF f rs tag name).2.2≠0 then (0,0,(colAtF f rs tag name).2.2)
 else if (colAtF f rs tag name).2.1.kind≠2 then (0,0,6)
 else fewF (sumZr f tag name rs rs.length) 9
theorem colAt_ask {f:Fmt} {rs:List RowP} {tag name:ByteArray} (h:(colAtF f rs tag name).2.2=0):askF f rs=0:=by
 unfold colAtF at h
 split at h
 ·rename_i h2;exact absurd h h2
 ·rename_i h2;exact Classical.byContradiction h2
set_option maxHeartbeats 4000000 in
set_option maxRecDepth 100000 in
theorem SumOf_c (f:Fmt) (A:Option Addr) (cp:Nat) (FA:Nat->Option Addr) (FC:Nat->Nat) (L:Option Addr) (LC:Nat) (rs:List RowP) (RA:Nat->Option Addr) (RC:Nat->Nat) (tag name:ByteArray) (w:World) (ho:Kinds w A f.kinds FA FC) (hl:RowsM w L rs RA RC) (hcp:f.kinds.length<=cp) (hm:0<=f.mark/\f.mark<=255) (hq:0<=f.quote/\f.quote<=255) (ht:Tab w) :
  Calls Tryz.prog 14 #[fmtG f A cp,.slice L rs.length LC,.string tag,.string name] w (RetD (sumOfR f rs tag name) w):=by
 have HCO:=Lib.hid (fun w h h2 ht=>columnof_c f A cp FA FC L LC rs RA RC tag name w h h2 hcp hm hq ht)
 have HSU:=Lib.hid (fun h0 w h h2=>sumof_c f A cp FA FC L LC rs RA RC tag name w h h2 (askF_ok h0).2.2 (askF_ok h0).2.1)
 have HAS:=Lib.hid (fun h=>colAt_ask (f:=f) (rs:=rs) (tag:=tag) (name:=name) h)
 have HKI:=Lib.hid ho;have HLM:=Lib.hid hl;have HTB:=Lib.hid ht
 obtain ⟨⟨i,co,x⟩,hX⟩:∃ y,colAtF f rs tag name=y:=⟨_,rfl⟩
 rw [hX] at HCO HAS
 obtain ⟨FW,hFW⟩:∃ x,fewF (sumZr f tag name rs rs.length) 9=x:=⟨_,rfl⟩
 rw [hFW] at HSU
 obtain ⟨R,hR⟩:∃ x,sumOfR f rs tag name=x:=⟨_,rfl⟩
 have HR:=Lib.hid (show (if x≠0 then (0,0,x) else if co.kind≠2 then (0,0,6) else FW)=R by rw [<- hR];unfold sumOfR;rw [hX,hFW])
 rw [hR]
 unfold RetCO at HCO
 unfold RetD at HSU
 simp only at HCO HAS
 clear ho hl ht hX hR hFW
 obtain ⟨AK,hAK⟩:∃ x,askF f rs=x:=⟨_,rfl⟩
 rw [hAK] at HSU HAS
 clear hAK
 obtain ⟨m,q,ks,hd,tl,ct,sm⟩:=f
 unfold fmtG at HCO HSU ⊢
 unfold colG at HCO
 simp only at HCO HSU HKI hcp ⊢
 obtain ⟨n,hn⟩:∃ x,ks.length=x:=⟨_,rfl⟩
 rw [hn] at HCO HSU hcp ⊢
 clear hn
 obtain ⟨nr,hnr⟩:∃ x,rs.length=x:=⟨_,rfl⟩
 rw [hnr] at HCO HSU ⊢
 clear hnr
 obtain ⟨nm,kd,wi,pl,fm,crt,fl,nd⟩:=co
 simp only at HCO HR
 have hF0:=heap_old (heap_new w (.cells #[.int .u8 m,.int .u8 q,.slice A n cp,.string hd,.string tl,.string ct,.string sm] 44) rfl) (.cells #[.int .i64 0,.int .i64 0] 31)
 have hZ0:=heap_new (w.alloc (.cells #[.int .u8 m,.int .u8 q,.slice A n cp,.string hd,.string tl,.string ct,.string sm] 44)) (.cells #[.int .i64 0,.int .i64 0] 31) (g:=w.heap.size+1) (by simp)
 have hB0:Below w.heap.size w ((w.alloc (.cells #[.int .u8 m,.int .u8 q,.slice A n cp,.string hd,.string tl,.string ct,.string sm] 44)).alloc (.cells #[.int .i64 0,.int .i64 0] 31)):=by go_grown
 go_enter Tryz.func14,Tryz.ntmps14
 obtain ⟨⟨f0,f1,f2,f3,f4,f5,f6⟩,f7⟩:=obox7 hF0
 go_wp2_with fail
 refine (HCO.out _ (HKI.out.below hB0) (HLM.out.below hB0) (HTB.out.below hB0)).mono ?_
 rintro _ w2 ⟨rfl,hb2⟩
 have HB2:=Lib.hid (below_then hb2 hB0 hB0.size)
 have HF1:=Lib.hid (heap_old (heap_below hF0 hb2) (.cells #[.string nm,.int .i64 kd,.int .i64 wi,.int .i64 pl,.int .i64 fm,.bool crt,.int .u8 fl,.bool nd] 91))
 have HZ1:=Lib.hid (heap_old (heap_below hZ0 hb2) (.cells #[.string nm,.int .i64 kd,.int .i64 wi,.int .i64 pl,.int .i64 fm,.bool crt,.int .u8 fl,.bool nd] 91))
 have HC1:=Lib.hid (heap_new w2 (.cells #[.string nm,.int .i64 kd,.int .i64 wi,.int .i64 pl,.int .i64 fm,.bool crt,.int .u8 fl,.bool nd] 91) rfl)
 have HB1:Hid (Below w.heap.size w (w2.alloc (.cells #[.string nm,.int .i64 kd,.int .i64 wi,.int .i64 pl,.int .i64 fm,.bool crt,.int .u8 fl,.bool nd] 91))):=Lib.hid (HB2.out.alloc HB2.out.size _)
 clear hF0 hZ0 hb2 f0 f1 f2 f3 f4 f5 f6 f7 hB0
 go_upto_region 2 with fail
 obtain ⟨CB,hCB⟩:∃ x,w2.heap.size=x:=⟨_,rfl⟩
 rw [hCB] at HC1
 try rw [hCB]
 generalize w2.alloc (.cells #[.string nm,.int .i64 kd,.int .i64 wi,.int .i64 pl,.int .i64 fm,.bool crt,.int .u8 fl,.bool nd] 91)=w1 at HB1 HF1 HZ1 HC1 ⊢
 clear hCB
 obtain ⟨⟨f0,f1,f2,f3,f4,f5,f6⟩,f7⟩:=obox7 HF1.out
 obtain ⟨z0,z1,z2,z3,z5⟩:=box2 HZ1.out
 by_cases h0:x=0
 case neg=>
  have HE:=Lib.hid (show R=(0,0,x) by rw [<- HR.out,if_pos h0])
  have h0a:(x !=0)=true:=by simpa using h0
  clear h0
  go_wp2
  have hz9:((w1.setCell ⟨w.heap.size+1,0,none⟩ (.int .i64 0)).setCell ⟨w.heap.size+1,1,none⟩ (.int .i64 0)).heap[w.heap.size+1]?=some (.cells #[.int .i64 0,.int .i64 0] 31 (0,0)):=heap_set (heap_set HZ1.out 0 _) 1 _
  obtain ⟨r0,r1,-,-,-⟩:=box2 hz9
  refine bodyPost_ret (v:=.tuple #[.agg #[.int .i64 0,.int .i64 0],.int .i64 x]) (by simp [results,Tryz.results14,go_sem,r0,r1]) rfl ⟨by rw [HE.out],?_⟩
  exact (HB1.out.setCell (p:=⟨w.heap.size+1,0,none⟩) (by show w.heap.size<=w.heap.size+1;omega) _).setCell (p:=⟨w.heap.size+1,1,none⟩) (by show w.heap.size<=w.heap.size+1;omega) _
 subst h0
 have hak:=HAS.out rfl
 obtain ⟨⟨x0,x1,x2,x3,x4,x5,x6,x7⟩,x8⟩:=obox8 HC1.out
 by_cases h2:kd=2
 case neg=>
  have HE:=Lib.hid (show R=(0,0,6) by
   have h:=HR.out
   rw [if_neg (fun h:(0:Int)≠0=>h rfl),if_pos h2] at h
   exact h.symm)
  have h2a:(kd !=2)=true:=by simpa using h2
  clear h2 hak
  go_wp2
  have hz9:((w1.setCell ⟨w.heap.size+1,0,none⟩ (.int .i64 0)).setCell ⟨w.heap.size+1,1,none⟩ (.int .i64 0)).heap[w.heap.size+1]?=some (.cells #[.int .i64 0,.int .i64 0] 31 (0,0)):=heap_set (heap_set HZ1.out 0 _) 1 _
  obtain ⟨r0,r1,-,-,-⟩:=box2 hz9
  refine bodyPost_ret (v:=.tuple #[.agg #[.int .i64 0,.int .i64 0],.int .i64 6]) (by simp [results,Tryz.results14,go_sem,r0,r1]) rfl ⟨by rw [HE.out],?_⟩
  exact (HB1.out.setCell (p:=⟨w.heap.size+1,0,none⟩) (by show w.heap.size<=w.heap.size+1;omega) _).setCell (p:=⟨w.heap.size+1,1,none⟩) (by show w.heap.size<=w.heap.size+1;omega) _
 subst h2
 have HE:=Lib.hid (show R=FW by
  have h:=HR.out
  rw [if_neg (fun h:(0:Int)≠0=>h rfl),if_neg (fun h:(2:Int)≠2=>h rfl)] at h
  exact h.symm)
 have HSU2:=Lib.hid (HSU.out hak)
 clear hak
 go_wp2_with fail
 refine (HSU2.out _ (HKI.out.below HB1.out) (HLM.out.below HB1.out)).mono ?_
 rintro _ w3 ⟨rfl,hb3⟩
 have hR9:=heap_below HZ1.out hb3
 have hB9:=below_then hb3 HB1.out HB1.out.size
 clear z0 z1 z2 z3 z5 f0 f1 f2 f3 f4 f5 f6 f7 x0 x1 x2 x3 x4 x5 x6 x7 x8
 obtain ⟨z0,z1,z2,z3,z5⟩:=box2 hR9
 go_wp2
 have hz9:((w3.setCell ⟨w.heap.size+1,0,none⟩ (.int .i64 FW.1)).setCell ⟨w.heap.size+1,1,none⟩ (.int .i64 FW.2.1)).heap[w.heap.size+1]?=some (.cells #[.int .i64 FW.1,.int .i64 FW.2.1] 31 (0,0)):=heap_set (heap_set hR9 0 _) 1 _
 obtain ⟨r0,r1,-,-,-⟩:=box2 hz9
 refine bodyPost_ret (v:=.tuple #[.agg #[.int .i64 FW.1,.int .i64 FW.2.1],.int .i64 FW.2.2]) (by simp [results,Tryz.results14,go_sem,r0,r1]) rfl ⟨by rw [HE.out],?_⟩
 exact (hB9.setCell (p:=⟨w.heap.size+1,0,none⟩) (by show w.heap.size<=w.heap.size+1;omega) _).setCell (p:=⟨w.heap.size+1,1,none⟩) (by show w.heap.size<=w.heap.size+1;omega) _
end Go.Proofs.YtbfbgappinilmaaGreatDoor
namespace Go.Proofs.YtbfbgappinilmaaGreatDoor
open Go.RowKit Limb
set_option linter.unusedVariables false
set_option linter.unusedSimpArgs false
def signS (u:Int):ByteArray:=if u<0 then ⟨#[45]⟩ else ⟨#[]⟩
theorem sgn_c (u p:Int) (w:World):Calls Tryz.prog 30 #[.agg #[.int .i64 u,.int .i64 p]] w fun e w'=>e=.returned (.string (signS u))/\Below w.heap.size w w':=by
 by_cases h:u<0
 ·rw [show signS u=⟨#[45]⟩ from if_pos h]
  go_enter Tryz.func30,Tryz.ntmps30
  go_wp2
  go_ret
  exact ⟨rfl,by go_grown⟩
 ·rw [show signS u=⟨#[]⟩ from if_neg h]
  go_enter Tryz.func30,Tryz.ntmps30
  go_wp2
  go_ret
  exact ⟨rfl,by go_grown⟩
theorem repeat_one (c:UInt8):∀ n,Lib.repeatL [c] n=List.replicate n c
 | 0=>rfl
 | n+1=>by rw [Lib.repeatL,repeat_one c n,List.replicate_succ];rfl
def padL (l:List UInt8) (p:Nat):List UInt8:=List.replicate (p+1-l.length) 48++l
theorem padL_len (l:List UInt8) (p:Nat):(padL l p).length=max (p+1) l.length:=by unfold padL;simp;omega
def Pointed (l:List UInt8) (p:Nat) (w:World) (e:Ending) (w':World):Prop :=
 Below w.heap.size w w'/\∃ a b:ByteArray,e=.returned (.tuple #[.string a,.string b])/\a.data.toList=(padL l p).take ((padL l p).length-p)/\b.data.toList=(padL l p).drop ((padL l p).length-p)
set_option maxHeartbeats 2000000 in
set_option maxRecDepth 100000 in
theorem pointed_c (s:ByteArray) (p:Nat) (w:World) (hp:p<=9) (hs:s.size<=1000) :
  Calls Tryz.prog 26 #[.string s,.int .i64 (p:Int)] w (Pointed s.data.toList p w):=by
 have hl:s.data.toList.length=s.size:=by simp
 obtain ⟨c,hc⟩:∃ c:Nat,p+1-s.size=c:=⟨_,rfl⟩
 have hrep:=Tryz.strings_Repeat ⟨#[48]⟩ c
 have HREP:=Lib.hid hrep;clear hrep
 have HPL:=Lib.hid (show padL s.data.toList p=List.replicate c 48++s.data.toList by unfold padL;rw [hl,hc])
 have hcb:c<=10:=by omega
 have fin:∀ (r:ByteArray) (W:World),r=(⟨(Lib.repeatL [48] c).toArray⟩:ByteArray)->Below w.heap.size w W->p+1<=c+s.size ->
   ∃ t:ByteArray,r++s=t/\t.size=c+s.size/\t.data.toList=padL s.data.toList p:=by
  intro r W hr _ _
  refine ⟨r++s,rfl,?_,?_⟩
  ·rw [hr,ByteArray.size_append,repeat_one];congr 1;show (List.replicate c (48:UInt8)).toArray.size=c;simp
  ·rw [HPL.out,hr];simp [repeat_one]
 have FIN:=Lib.hid fin;clear fin
 have e1:max (0:Int) ((p:Int)+1-(s.size:Int))=((c:Nat):Int):=by omega
 have HH:=Lib.hid (show p+1<=c+s.size by omega)
 have E1:=Lib.hid e1;clear e1 hc
 go_enter Tryz.func26,Tryz.ntmps26
 go_wp2_with fail
 rw [E1.out]
 refine (HREP.out _ (by omega) (by show 1*c<=_;omega)).mono ?_
 rintro e w1 ⟨rfl,hb1⟩
 obtain ⟨r,hr⟩:∃ r:ByteArray,(⟨(Lib.repeatL [48] c).toArray⟩:ByteArray)=r:=⟨_,rfl⟩
 obtain ⟨t,ht,hts,htd⟩:=FIN.out r w1 hr.symm hb1 HH.out
 have hrs:r.size=c:=by rw [<- hr,repeat_one];show (List.replicate c (48:UInt8)).toArray.size=c;simp
 have hr2:(⟨(Lib.repeatL (⟨#[48]⟩:ByteArray).data.toList c).toArray⟩:ByteArray)=r:=hr
 rw [hr2]
 clear hr hr2
 have hcond:¬ 9223372036854775807<r.size+s.size:=by omega
 have HT:=Lib.hid ht;have HTD:=Lib.hid htd
 clear ht htd
 go_upto_region 2 with fail
 rw [HT.out]
 have hts2:t.size<=1010:=by omega
 have hpt:p<=t.size:=by have:=HH.out;omega
 clear hts hrs hcond
 have e1:IntKind.i64.wrap ((t.size:Int)-(p:Int))=(t.size:Int)-(p:Int):=IntWalk.i64_in _ (by omega)
 have e2:(p:Int)<=(t.size:Int):=by omega
 have e2':(0:Int)<=(t.size:Int)-(p:Int):=by omega
 have e3:((t.size:Int)-(p:Int)).toNat=t.size-p:=by omega
 have e4:(t.size:Int)-(p:Int)<=(t.size:Int):=by omega
 go_quiet (fail)
 have E4:=Lib.hid e3
 clear e1 e2 e2' e3 e4
 go_wp2
 go_ret2
 refine ⟨below_drewN hb1 _,t.extract 0 (t.size-p),t.extract (t.size-p) t.size,rfl,?_,?_⟩
 ·have hts3:t.data.toList.length=t.size:=by simp
  rw [<- HTD.out,hts3,Lib.extract_data];simp
 ·have hts3:t.data.toList.length=t.size:=by simp
  rw [<- HTD.out,hts3,Lib.extract_to_end]
def sgL (u:Int):List UInt8:=if u<0 then [45] else []
def digL (u:Int):List UInt8:=Lib.decDigits u.natAbs
def befL (u:Int) (p:Nat):List UInt8:=(padL (digL u) p).take ((padL (digL u) p).length-p)
def behL (u:Int) (p:Nat):List UInt8:=(padL (digL u) p).drop ((padL (digL u) p).length-p)
def textL (u:Int) (p:Nat):List UInt8:=sgL u++befL u p++(if p=0 then [] else 46 :: behL u p)
theorem digL_len {u:Int} (h:u.natAbs<10 ^ 30):1<=(digL u).length/\(digL u).length<=30:=by
 unfold digL
 rcases Nat.eq_zero_or_pos u.natAbs with h0 | h0
 ·rw [h0,Lib.decDigits_one (by decide)];simp
 ·rw [<- tail_pos h0]
  refine ⟨?_,tail_len 30 _ h⟩
  rw [tail_step h0];simp
def RetST (l:List UInt8) (f:Int) (w:World) (e:Ending) (w':World):Prop:=∃ s:ByteArray,e=.returned (.tuple #[.string s,.int .i64 f])/\s.data.toList=l/\Below w.heap.size w w'
def textR (u p:Int):List UInt8:=if decB u p=true then textL u p.toNat else []
def decF (u p:Int):Int:=if decB u p=true then 0 else 1
theorem bef_len {u:Int} {p:Nat} (hp:p<=9) (hu:u.natAbs<10 ^ 30):(befL u p).length<=40/\(behL u p).length<=40:=by
 have h1:=padL_len (digL u) p
 have h2:=digL_len hu
 unfold befL behL
 rw [List.length_take,List.length_drop]
 omega
theorem big_pos {K:IntKind} {E:TypeId} {b:Nat} {w:World} {s:Bool} {A:Option Addr} {n c m:Nat} (h:Big K E b w s A n c (m:Int)) (hb:0<b):s=false:=by
 obtain ⟨l,hd,hnc,hcm,gl,nl,sl,hz⟩:=h
 cases s with
 | false=>rfl
 | true=>
  have:=val_pos hb nl (sl rfl)
  unfold sg at hz
  simp at hz
  omega
theorem nat_pow200 {u:Int} (h : -1000000000000000<=u/\u<=1000000000000000):u.natAbs<10 ^ 200/\u.natAbs<10 ^ 30:=by
 have h1:u.natAbs<=1000000000000000:=by omega
 exact ⟨Nat.lt_of_le_of_lt h1 (by decide),Nat.lt_of_le_of_lt h1 (by decide)⟩
theorem signS_data (u:Int):(signS u).data.toList=sgL u:=by unfold signS sgL;split<;>rfl
theorem signS_size (u:Int):(signS u).size<=1:=by unfold signS;split<;>decide
set_option maxHeartbeats 2000000 in
set_option maxRecDepth 100000 in
theorem wtext_c (u p:Int) (w:World) :
  Calls Tryz.prog 6 #[.agg #[.int .i64 u,.int .i64 p]] w (RetST (textR u p) (decF u p) w):=by
 cases hd:decB u p with
 | false=>
  have HC:=Lib.hid (fun w=>chk_bad u p w hd)
  rw [show textR u p=[] from if_neg (by rw [hd];decide),show decF u p=1 from if_neg (by rw [hd];decide)]
  clear hd
  go_enter Tryz.func6,Tryz.ntmps6
  go_wp2_with fail
  refine (HC.out _).mono ?_
  rintro e w1 ⟨rfl,hb⟩
  go_wp2
  go_ret2
  refine ⟨_,rfl,rfl,?_⟩
  go_grown
  exact below_then hb (by go_grown) (by simp only [World.size_alloc];omega)
 | true=>
  have hdb:=decB_out hd
  have HC:=Lib.hid (fun w=>chk_ok u p w hd)
  rw [show textR u p=textL u p.toNat from if_pos hd,show decF u p=0 from if_pos hd]
  obtain ⟨q,rfl⟩:∃ q:Nat,p=(q:Int):=⟨p.toNat,by omega⟩
  clear hd
  go_enter Tryz.func6,Tryz.ntmps6
  go_wp2_with fail
  refine (HC.out _).mono ?_
  rintro e w1 ⟨rfl,hb⟩
  have hX:=heap_below (heap_new w (.cells #[.int .i64 u,.int .i64 (q:Int)] 31) rfl) hb
  have hB:=below_then hb (by go_grown:Below w.heap.size w _) (by simp only [World.size_alloc];omega)
  clear hb
  obtain ⟨a0,a1,-,-,a4⟩:=box2 hX
  have hz:=hB.size
  obtain ⟨D,hD⟩:∃ D:ByteArray,(⟨(Lib.decDigits u.natAbs).toArray⟩:ByteArray)=D:=⟨_,rfl⟩
  have hDl:D.data.toList=digL u:=by rw [<- hD];rfl
  have hm200:=nat_pow200 (u:=u) (by omega)
  have hDs:D.size<=1000:=by
   have h1:=digL_len hm200.2
   rw [<- hDl] at h1
   have:D.data.toList.length=D.size:=by simp
   omega
  have HD:=Lib.hid hD;have HDL:=Lib.hid hDl;have H200:=Lib.hid hm200.1;have HQ:=Lib.hid (show q<=9 by omega);have HU:=Lib.hid hdb
  clear hD hDl hm200 hdb
  go_wp2_with fail
  go_region_held3 (fun w'=>w'.cell? ⟨w.heap.size,0,none⟩=some (.int .i64 u)/\w'.cell? ⟨w.heap.size,1,none⟩=some (.int .i64 (q:Int)))
   (first | (with_reducible exact ⟨r20,r21⟩) | (with_reducible exact ⟨r30,r31⟩) | (with_reducible exact ⟨r40,r41⟩) | (with_reducible exact ⟨r50,r51⟩) | (exact ⟨a0,a1⟩) | (go_keep;done))
   (first
    | (go_at_call 27;refine (of_c u _ (by have:=HU.out;omega) (by have:=HU.out;omega)).mono ?_;rintro e w2 ⟨s2,A2,n2,c2,rfl,hv2,hb2⟩;(have hX2:=heap_below (w:=w1.drew) hX hb2);(have hB2:=below_then hb2 hB.drew hz);obtain ⟨r20,r21,-,-,-⟩:=box2 hX2)
    | (go_at_call 28;refine (abs_c _ hv2).mono ?_;rintro e w3 ⟨s3,A3,n3,c3,rfl,hv3,hb3⟩;(have hX3:=heap_below hX2 hb3);(have hB3:=below_then hb3 hB2 hB2.size);obtain ⟨r30,r31,-,-,-⟩:=box2 hX3;(have hs3:=big_pos hv3 (by decide));subst hs3)
    | (go_at_call 29;refine (text_c _ hv3 H200.out).mono ?_;rintro e w4 ⟨rfl,hb4⟩;rw [HD.out];(have hX4:=heap_below hX3 hb4);(have hB4:=below_then hb4 hB3 hB3.size);obtain ⟨r40,r41,-,-,-⟩:=box2 hX4)
    | (go_at_call 26;refine (pointed_c D q _ HQ.out hDs).mono ?_;rintro e w5 ⟨hb5,ba,bb,rfl,hba,hbb⟩;(have hX5:=heap_below hX4 hb5);(have hB5:=below_then hb5 hB4 hB4.size);obtain ⟨r50,r51,-,-,-⟩:=box2 hX5))
  clear hX hX2 hX3 hX4 hb2 hb3 hb4 hb5 hB hB2 hB3 hB4 r20 r21 r30 r31 r40 r41 hv2 hv3 a0 a1
  rw [HDL.out] at hba hbb
  have hle:=bef_len (u:=u) HQ.out (nat_pow200 (u:=u) (by have:=HU.out;omega)).2
  have hbas : ba.size ≤ 40 := by have h1 : ba.data.toList.length = ba.size := by simp
                                 rw [<- h1,hba];exact hle.1
  have hbbs : bb.size ≤ 40 := by have h1 : bb.data.toList.length = bb.size := by simp
                                 rw [<- h1,hbb];exact hle.2
  have HBA:=Lib.hid hba;have HBB:=Lib.hid hbb
  clear hba hbb hle
  have hSs:=signS_size u
  have HSD:=Lib.hid (signS_data u)
  have HSG:=Lib.hid (fun w=>sgn_c u (q:Int) w)
  obtain ⟨S,hS⟩:∃ S,signS u=S:=⟨_,rfl⟩
  rw [hS] at hSs HSD HSG
  clear hS
  have hz5:=hB5.size
  rcases Nat.eq_zero_or_pos q with h0 | h0
  ·subst h0
   have hcat:¬ 9223372036854775807<S.size+ba.size:=by omega
   go_wp2_with fail
   refine (HSG.out _).mono ?_
   rintro e w6 ⟨rfl,hb6⟩
   have hB6:=below_then hb6 hB5 hz5
   go_wp2
   go_ret2
   refine ⟨_,rfl,?_,hB6⟩
   rw [ByteArray.data_append,Array.toList_append,HSD.out,HBA.out]
   unfold textL befL
   simp
  ·have hcat:¬ 9223372036854775807<S.size+ba.size:=by omega
   have hcat2:¬ 9223372036854775807<S.size+ba.size+1:=by omega
   have hcat3:¬ 9223372036854775807<S.size+ba.size+1+bb.size:=by omega
   have hq0:((q:Int)==0)=false:=beq_eq_false_iff_ne.2 (by omega)
   go_wp2_with fail
   refine (HSG.out _).mono ?_
   rintro e w6 ⟨rfl,hb6⟩
   have hB6:=below_then hb6 hB5 hz5
   go_wp2
   go_ret2
   refine ⟨_,rfl,?_,hB6⟩
   simp only [ByteArray.data_append,Array.toList_append,HSD.out,HBA.out,HBB.out]
   rw [Int.toNat_natCast]
   unfold textL befL behL
   rw [if_neg (by omega)]
   simp
theorem RetST.of {l l':List UInt8} {f f':Int} {w w':World} {e:Ending} (h:RetST l f w e w') (hl:l=l') (hf:f=f'):RetST l' f' w e w':=by subst hl;subst hf;exact h
theorem itoas_c (v:Int) (w:World) (h : -9223372036854775808<=v/\v<=9223372036854775807) (ht:Tab w) :
  Calls Tryz.prog 19 #[.int .i64 v] w fun e w'=>e=.returned (.string ⟨(Lib.itoa v).toArray⟩)/\Below w.heap.size w w':=by
 refine (Tryz.strconv_Itoa v h.1 h.2 w ht).mono ?_
 rintro e w' ⟨rfl,k,os,rfl⟩
 exact ⟨rfl,Lib.below_grow _ w (Nat.le_refl _) k os⟩
theorem u8_ge (n:Nat) (h:n<256):(UInt8.ofNat n).toNat=n:=by rw [UInt8.toNat_ofNat'];exact Nat.mod_eq_of_lt h
theorem dec_48:∀ (n:Nat),∀ c∈Lib.decDigits n,48<=c.toNat/\c.toNat<=57:=by
 intro n
 induction n using Nat.strongRecOn with
 | _ n ih=>
  rw [Lib.decDigits]
  by_cases h:n<10
  ·rw [dif_pos h]
   have e:=u8_ge (48+n) (by omega)
   intro c hc
   obtain rfl:=List.mem_singleton.1 hc
   omega
  ·rw [dif_neg h]
   have e:=u8_ge (48+n%10) (by omega)
   intro c hc
   rw [List.mem_append] at hc
   rcases hc with hc | hc
   ·exact ih (n/10) (by omega) c hc
   ·obtain rfl:=List.mem_singleton.1 hc
    omega
theorem cutL_hit {c:UInt8} : ∀ {l r:List UInt8},c∉l->cutL (l++c :: r) c=(l,r,true)
 | [],r,_=>by simp [cutL]
 | a :: l,r,h=>by
  have h1:a≠c:=fun e=>h (e ▸ List.mem_cons_self)
  have h2:c∉l:=fun e=>h (List.mem_cons_of_mem _ e)
  rw [List.cons_append,cutL,cutL_hit h2]
  simp [h1]
theorem cutL_miss {c:UInt8} : ∀ {l:List UInt8},c∉l->cutL l c=(l,[],false)
 | [],_=>by simp [cutL]
 | a :: l,h=>by
  have h1:a≠c:=fun e=>h (e ▸ List.mem_cons_self)
  have h2:c∉l:=fun e=>h (List.mem_cons_of_mem _ e)
  rw [cutL,cutL_miss h2]
  simp [h1]
theorem padL_48 {u:Int} {q:Nat} : ∀ c∈padL (digL u) q,48<=c.toNat/\c.toNat<=57:=by
 intro c hc
 unfold padL at hc
 rcases List.mem_append.1 hc with h | h
 ·have:=List.eq_of_mem_replicate h
  subst this
  decide
 ·exact dec_48 _ c h
theorem bef_48 {u:Int} {q:Nat} : ∀ c∈befL u q,48<=c.toNat/\c.toNat<=57:=fun c hc=>padL_48 c (List.mem_of_mem_take hc)
theorem beh_48 {u:Int} {q:Nat} : ∀ c∈behL u q,48<=c.toNat/\c.toNat<=57:=fun c hc=>padL_48 c (List.mem_of_mem_drop hc)
theorem bef_pos {u:Int} {q:Nat} : 0<(befL u q).length:=by
 have h1:=padL_len (digL u) q
 unfold befL
 rw [List.length_take]
 omega
theorem bef_no46 {u:Int} {q:Nat} : (46:UInt8)∉befL u q:=fun h=>by have:=bef_48 _ h;revert this;decide
theorem text_cut {u:Int} {q:Nat} : cutL (befL u q++(if q=0 then [] else 46 :: behL u q)) 46=(befL u q,(if q=0 then [] else behL u q),decide (q≠0)):=by
 by_cases h:q=0
 ·rw [if_pos h,if_pos h,List.append_nil,cutL_miss bef_no46];simp [h]
 ·rw [if_neg h,if_neg h,cutL_hit bef_no46];simp [h]
theorem text_head {u:Int} {q:Nat} : ((textL u q).head? == some 45)=decide (u<0)/\(if decide (u<0)=true then (textL u q).tail else textL u q)=befL u q++(if q=0 then [] else 46 :: behL u q):=by
 unfold textL sgL
 by_cases h:u<0
 ·simp [h]
 ·have hp:=bef_pos (u:=u) (q:=q)
  rcases hb:befL u q with _ | ⟨c,l⟩
  ·rw [hb] at hp;simp at hp
  ·have h2:=bef_48 (u:=u) (q:=q) c (by rw [hb];simp)
   have hc:c≠45:=by rintro rfl;revert h2;decide
   simp [h,hc]
theorem text_len {u:Int} {q:Nat} (hq:q<=9) (hu:u.natAbs<10 ^ 30):(textL u q).length<=100:=by
 have h:=bef_len (u:=u) hq hu
 unfold textL
 simp only [List.length_append]
 have h1:(sgL u).length<=1:=by unfold sgL;split<;>simp
 split
 ·simp;omega
 ·simp;omega
end Go.Proofs.YtbfbgappinilmaaGreatDoor
namespace Go.Proofs.YtbfbgappinilmaaGreatDoor
open Go.RowKit Limb
set_option linter.unusedVariables false
set_option linter.unusedSimpArgs false
set_option linter.unnecessarySimpa false
theorem numL_snoc (l:List UInt8) (c:UInt8):numL (l++[c])=numL l*10+(c.toNat-48):=by
 unfold numL;rw [List.foldl_append];rfl
theorem numL_zeros (l:List UInt8):∀ k,numL (List.replicate k 48++l)=numL l
 | 0=>rfl
 | k+1=>by
  rw [List.replicate_succ,List.cons_append]
  exact numL_zeros l k
theorem numL_dec:∀ n:Nat,numL (Lib.decDigits n)=n:=by
 intro n
 induction n using Nat.strongRecOn with
 | _ n ih=>
  rw [Lib.decDigits]
  by_cases h:n<10
  ·rw [dif_pos h]
   have e:=u8_ge (48+n) (by omega)
   show 0*10+((UInt8.ofNat (48+n)).toNat-48)=n
   omega
  ·rw [dif_neg h,numL_snoc,ih (n/10) (by omega),u8_ge _ (by omega)]
   omega
theorem dec_ne (n:Nat):1<=(Lib.decDigits n).length:=by
 rw [Lib.decDigits];split<;>simp
theorem dec_head:∀ n:Nat,0<n->(Lib.decDigits n).head? ≠ some 48:=by
 intro n
 induction n using Nat.strongRecOn with
 | _ n ih=>
  intro h0
  rw [Lib.decDigits]
  by_cases h:n<10
  ·rw [dif_pos h]
   have e:=u8_ge (48+n) (by omega)
   intro hc
   injection hc with hc
   rw [hc] at e
   have:(48:UInt8).toNat=48:=rfl
   omega
  ·rw [dif_neg h]
   have h1:=ih (n/10) (by omega) (by omega)
   have h2:=dec_ne (n/10)
   rcases hd:Lib.decDigits (n/10) with _ | ⟨c,l⟩
   ·rw [hd] at h2;simp at h2
   ·rw [hd] at h1
    simpa using h1
theorem pad_split {u:Int} {q:Nat} : befL u q++behL u q=padL (digL u) q:=List.take_append_drop _ _
theorem num_pad {u:Int} {q:Nat} : numL (befL u q++behL u q)=u.natAbs:=by
 rw [pad_split];unfold padL;rw [numL_zeros];exact numL_dec _
theorem inB_of {l:List UInt8} (h:∀ c∈l,48<=c.toNat/\c.toNat<=57):inB l 48 57=true:=by
 unfold inB;rw [List.all_eq_true];intro c hc;exact decide_eq_true (h c hc)
theorem digB_of {l:List UInt8} (h0:0<l.length) (h:∀ c∈l,48<=c.toNat/\c.toNat<=57):digB l=true:=by
 unfold digB
 rw [inB_of h]
 cases l with
 | nil=>simp at h0
 | cons a l=>rfl
theorem dig16 {u:Int} (h : -1000000000000000<=u/\u<=1000000000000000):1<=(digL u).length/\(digL u).length<=16:=by
 unfold digL
 refine ⟨dec_ne _,?_⟩
 rcases Nat.eq_zero_or_pos u.natAbs with h0 | h0
 ·rw [h0,Lib.decDigits_one (by decide)];simp
 ·rw [<- tail_pos h0]
  exact tail_len 16 _ (by have : u.natAbs ≤ 1000000000000000 := by omega
                          exact Nat.lt_of_le_of_lt this (by decide))
theorem pad16 {u:Int} {q:Nat} (h : -1000000000000000<=u/\u<=1000000000000000) (hq:q<=9):(befL u q).length+(behL u q).length<=16/\(behL u q).length=q:=by
 have h1:=padL_len (digL u) q
 have h2:=dig16 h
 unfold befL behL
 rw [List.length_take,List.length_drop]
 omega
theorem whole_bef {u:Int} {q:Nat} : wholeB (befL u q)=true:=by
 unfold wholeB
 rw [digB_of bef_pos bef_48]
 by_cases h1:(befL u q).length=1
 ·simp [h1]
 ·have h2:=padL_len (digL u) q
  have h3:(befL u q).length=(padL (digL u) q).length-q:=by unfold befL;rw [List.length_take];omega
  have h4:q+1<(digL u).length:=by omega
  have h5:padL (digL u) q=digL u:=by unfold padL;rw [show q+1-(digL u).length=0 by omega];rfl
  have h6:0<u.natAbs:=by
   rcases Nat.eq_zero_or_pos u.natAbs with h0 | h0
   ·unfold digL at h4;rw [h0,Lib.decDigits_one (by decide)] at h4;simp at h4
   ·exact h0
  have h7:=dec_head _ h6
  have h8:(befL u q).head?=(Lib.decDigits u.natAbs).head?:=by
   unfold befL
   rw [h5]
   show ((Lib.decDigits u.natAbs).take _).head?=_
   rw [List.head?_take]
   rw [if_neg (by unfold digL;unfold digL at h4;omega)]
  rw [h8]
  simp [h7]
theorem read_pad {u:Int} {q:Nat} (h : -1000000000000000<=u/\u<=1000000000000000):readR (decide (u<0)) (befL u q++behL u q) (q:Int)=(u,(q:Int),0):=by
 unfold readR
 rw [num_pad]
 by_cases hn:u<0
 ·rw [if_pos (decide_eq_true hn),if_neg (by omega),show -((u.natAbs:Nat):Int)=u by omega]
  unfold made;rw [if_pos (by omega)]
 ·rw [if_neg (by simpa using hn),show ((u.natAbs:Nat):Int)=u by omega]
  unfold made;rw [if_pos (by omega)]
theorem beh_zero {u:Int} {q:Nat} (h:q=0):behL u q=[]:=by subst h;unfold behL;simp
theorem readText_back {u:Int} {q:Nat} (h : -1000000000000000<=u/\u<=1000000000000000) (hq:q<=9):readText (textL u q)=(u,(q:Int),0):=by
 have hp:=pad16 h hq
 have ht:=text_head (u:=u) (q:=q)
 have hlen:¬ 40<(textL u q).length:=by
  unfold textL
  simp only [List.length_append]
  have h1:(sgL u).length<=1:=by unfold sgL;split<;>simp
  split
  ·simp;omega
  ·simp;omega
 unfold readText
 simp only
 rw [ht.1,ht.2,text_cut]
 simp only
 rw [decide_eq_false hlen,whole_bef]
 by_cases hz:q=0
 ·have hb:=beh_zero (u:=u) hz
  have hr:=read_pad (u:=u) (q:=q) h
  rw [hb,List.append_nil] at hr
  subst hz
  simpa using hr
 ·simp only [if_neg hz]
  rw [digB_of (by omega) (beh_48 (u:=u) (q:=q)),decide_eq_false (show ¬ 9<(behL u q).length by omega),hp.2]
  simpa [hz] using read_pad (u:=u) (q:=q) h
end Go.Proofs.YtbfbgappinilmaaGreatDoor
namespace Go.Proofs.YtbfbgappinilmaaGreatDoor
open Limb Nmb Work
set_option linter.unusedVariables false
set_option linter.unusedSimpArgs false
theorem u8_back2 {c:UInt8} (h:48<=c.toNat/\c.toNat<=57):UInt8.ofNat (48+(c.toNat-48))=c:=by
 have:48+(c.toNat-48)=c.toNat:=by omega
 rw [this]
 simp
theorem dec_step {m x:Nat} (hm:0<m) (hx:x<10):Lib.decDigits (m*10+x)=Lib.decDigits m++[UInt8.ofNat (48+x)]:=by
 rw [Lib.decDigits,dif_neg (by omega),show (m*10+x)/10=m by omega,show (m*10+x)%10=x by omega]
theorem digs_num:∀ (n:Nat) (d:List UInt8),d.length=n->d≠[]->(∀ c∈d,48<=c.toNat/\c.toNat<=57)->d=List.replicate (d.length-(Lib.decDigits (numL d)).length) 48++Lib.decDigits (numL d)
 | 0,d,h,h0,_=>absurd (List.eq_nil_of_length_eq_zero h) h0
 | n+1,d,h,h0,hd=>by
  obtain ⟨e,c,rfl⟩:∃ e c,d=e++[c]:=⟨d.dropLast,d.getLast h0,(List.dropLast_concat_getLast h0).symm⟩
  have hc:=hd c (by simp)
  have hel:e.length=n:=by simp at h;omega
  rw [numL_snoc]
  by_cases he:e=[]
  ·subst he
   have h1:numL []=0:=rfl
   rw [h1,Nat.zero_mul,Nat.zero_add,Lib.decDigits_one (show c.toNat-48<10 by omega),u8_back2 hc]
   rfl
  ·have ih:=digs_num n e hel he (fun x hx=>hd x (by simp [hx]))
   by_cases hm:numL e=0
   ·rw [hm] at ih
    rw [hm,Nat.zero_mul,Nat.zero_add,Lib.decDigits_one (show c.toNat-48<10 by omega),u8_back2 hc]
    have h48:Lib.decDigits 0=[48]:=by rw [Lib.decDigits_one (by decide)];rfl
    rw [h48] at ih
    have hr:e=List.replicate e.length 48:=by
     have h1:1<=e.length:=by cases e with | nil=>exact absurd rfl he | cons=>simp
     refine ih.trans ?_
     have h2:List.replicate (e.length-1) (48:UInt8)++[48]=List.replicate (e.length-1+1) 48:=(List.replicate_succ').symm
     show List.replicate (e.length-1) (48:UInt8)++[48]=_
     rw [h2]
     congr 1
     omega
    rw [List.length_append,List.length_singleton,Nat.add_sub_cancel]
    congr 1
   ·rw [dec_step (by omega) (by omega),u8_back2 hc,List.length_append,List.length_append,List.length_singleton,Nat.add_sub_add_right,<- List.append_assoc]
    congr 1
theorem inB_mem {l:List UInt8} (h:inB l 48 57=true):∀ c∈l,48<=c.toNat/\c.toNat<=57:=fun c hc=>of_decide_eq_true (List.all_eq_true.1 h c hc)
theorem digB_out {l:List UInt8} (h:digB l=true):l≠[]/\∀ c∈l,48<=c.toNat/\c.toNat<=57:=by
 unfold digB at h
 rw [Bool.and_eq_true] at h
 exact ⟨(fun e=>by rw [e] at h;exact absurd h.1 (by decide)),inB_mem h.2⟩
theorem textL_len (u:Int) (q:Nat):(textL u q).length=(if u<0 then 1 else 0)+(if (Lib.decDigits u.natAbs).length<=q then 1 else (Lib.decDigits u.natAbs).length-q)+(if q=0 then 0 else 1+q):=by
 unfold textL befL behL sgL padL digL
 have hd:=dec_ne u.natAbs
 simp only [List.length_append,List.length_take,List.length_replicate]
 have hs:(if u<0 then ([45]:List UInt8) else []).length=if u<0 then 1 else 0:=by split<;>rfl
 rw [hs]
 by_cases hq:q=0
 ·subst hq
  have h2:¬ (Lib.decDigits u.natAbs).length<=0:=by omega
  rw [if_pos rfl,if_pos rfl,if_neg h2]
  simp only [List.length_nil]
  omega
 ·rw [if_neg hq,if_neg hq]
  simp only [List.length_cons,List.length_drop,List.length_append,List.length_replicate]
  by_cases h1:(Lib.decDigits u.natAbs).length<=q
  ·rw [if_pos h1];omega
  ·rw [if_neg h1];omega
theorem textL_mem {u:Int} {q:Nat} : ∀ c∈textL u q,c=45∨c=46∨(48<=c.toNat/\c.toNat<=57):=by
 intro c hc
 unfold textL at hc
 rcases List.mem_append.1 hc with h | h
 ·rcases List.mem_append.1 h with h | h
  ·unfold sgL at h
   split at h
   ·simp at h;exact .inl h
   ·cases h
  ·exact .inr (.inr (bef_48 _ h))
 ·split at h
  ·cases h
  ·rcases List.mem_cons.1 h with rfl | h
   ·exact .inr (.inl rfl)
   ·exact .inr (.inr (beh_48 _ h))
end Go.Proofs.YtbfbgappinilmaaGreatDoor
