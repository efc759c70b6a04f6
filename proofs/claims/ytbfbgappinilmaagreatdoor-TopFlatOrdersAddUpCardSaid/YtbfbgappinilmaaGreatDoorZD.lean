/- The walks of Told and valueOf. Plain: heads and tails of rows, what Closed answers, and that closed rows stay. -/
import Derived.Test.YtbfbgappinilmaaGreatDoorG1
import Derived.Test.YtbfbgappinilmaaGreatDoorV2
import Derived.Test.YtbfbgappinilmaaGreatDoorZC
import Derived.Test.YtbfbgappinilmaaGreatDoorYP
import Derived.Test.YtbfbgappinilmaaGreatDoorZA
import Derived.Test.YtbfbgappinilmaaGreatDoorA8
-- merged: I1 C0 ZD
namespace Go.Proofs.YtbfbgappinilmaaGreatDoor
open Go.RowKit Limb Nmb Work
set_option linter.unusedVariables false
set_option linter.unusedSimpArgs false
set_option maxRecDepth 100000 in
theorem told6_c (u p:Int) (w:World):Calls Tryz.prog 38 #[.agg #[.int .i64 u,.int .i64 p]] w fun e w'=>∃ s:ByteArray,e=.returned (.string s)/\s.data.toList=textR u p/\Below w.heap.size w w':=by
 have HT:=Lib.hid (fun w=>wtext_c u p w)
 have hD:=heap_new w (.cells #[.int .i64 u,.int .i64 p] 31) rfl
 have HB:Hid (Below w.heap.size w (w.alloc (.cells #[.int .i64 u,.int .i64 p] 31))):=Lib.hid (by go_grown)
 unfold RetST at HT
 go_enter Tryz.func38,Tryz.ntmps38
 obtain ⟨d0,d1,-,-,-⟩:=box2 hD
 go_wp2_with fail
 refine (HT.out _).mono ?_
 rintro _ w2 ⟨s,rfl,hs,hb2⟩
 have HS:=Lib.hid hs
 have hB2:=below_then hb2 HB.out HB.out.size
 clear hs
 go_wp2
 go_ret
 exact ⟨s,rfl,HS.out,hB2⟩
theorem data_len6 (x:ByteArray):x.data.toList.length=x.size:=by simp
theorem dayS_size6 {day:Int} (hd:1<=day/\day<=3652059):((dayS 1 day).size:Int)=8:=by rw [dayS_size (by decide) hd];rfl
theorem bs_of {s:ByteArray} {l:List UInt8} (h:s.data.toList=l):s=bs l:=by rw [<- h];exact (bs_self s).symm
noncomputable def valO (mark:Int) (c:Col) (t:ByteArray):ByteArray×Bool :=
 if t=⟨#[]⟩ then (⟨#[]⟩,true)
 else if c.kind=2/\mark=0 then
  if (readImp t.data.toList c.places).2.2≠0 then (⟨#[]⟩,false)
  else (bs (textL (leastF (readImp t.data.toList c.places).1 c.places.toNat).1 (leastF (readImp t.data.toList c.places).1 c.places.toNat).2.toNat),
   valOk c (textL (leastF (readImp t.data.toList c.places).1 c.places.toNat).1 (leastF (readImp t.data.toList c.places).1 c.places.toNat).2.toNat))
 else if c.kind=3 then
  if rdF c.form 1 t.data.toList≠0 then (⟨#[]⟩,false)
  else (dayS 1 (rdN c.form 1 t.data.toList),valOk c (dayS 1 (rdN c.form 1 t.data.toList)).data.toList)
 else (t,valOk c t.data.toList)
def RetVO (r:ByteArray×Bool) (w:World) (e:Ending) (w':World):Prop:=e=.returned (.tuple #[.string r.1,.bool r.2])/\Below w.heap.size w w'
theorem readImp_out {l:List UInt8} {a:Int} (h:(readImp l a).2.2=0):∃ u:Int,readImp l a=(u,a,0)/\(0<=a/\a<=9) /\ -1000000000000000<=u/\u<=1000000000000000:=by
 unfold readImp at h ⊢
 obtain ⟨x,hx⟩:∃ x,(if (l.head? == some 45)=true then l.tail else l)=x:=⟨_,rfl⟩
 rw [hx] at h ⊢
 by_cases h1:¬ (0<=a/\a<=9)
 ·rw [if_pos h1] at h;cases h
 rw [if_neg h1] at h ⊢
 by_cases h2:(decide (30<l.length)||!digB x)=true
 ·rw [if_pos h2] at h;cases h
 rw [if_neg h2] at h ⊢
 by_cases h3:numL x<=1000000000000000
 ·rw [if_pos h3]
  refine ⟨_,rfl,Classical.byContradiction h1,?_⟩
  split<;>omega
 ·rw [if_neg h3] at h;cases h
set_option maxHeartbeats 2000000 in
set_option maxRecDepth 100000 in
theorem valueof_c (f:Fmt) (A:Option Addr) (n cp:Nat) (c:Col) (t:ByteArray) (w:World) (hs:t.size<=140737488355328) (hk:ColK f.mark c) (ht:Tab w) :
  Calls Tryz.prog 131 #[.agg #[.int .u8 f.mark,.int .u8 f.quote,.slice A n cp,.string f.head,.string f.tail,.string f.count,.string f.sum],colG c,.string t] w (RetVO (valO f.mark c t) w):=by
 have HIV:=Lib.hid (fun s w h=>isvalue_c c s w h)
 have HRI:=Lib.hid (fun w=>wreadimp_c t c.places w (by omega))
 have HRD:=Lib.hid (fun w=>ReadDay_c t c.form 1 w hs)
 have HDT:=Lib.hid (fun v w hv ht=>daytext_c v 1 w hv (by decide) ht)
 have HTB:=Lib.hid ht
 have HK:=Lib.hid hk
 have hem:=emp_dec t
 obtain ⟨R,hR⟩:∃ x,valO f.mark c t=x:=⟨_,rfl⟩
 have HR:=Lib.hid hR
 rw [hR]
 have HSZ:=Lib.hid hs
 clear hR ht hk hs
 unfold RetVO
 obtain ⟨m,q,ks,hd,tl,ct,sm⟩:=f
 obtain ⟨nm,kd,wd,pl,fm,rt,fl,nd⟩:=c
 unfold colG at HIV ⊢
 unfold RetB at HIV
 unfold RetD at HRI
 unfold RetNF at HRD
 unfold RetSF at HDT
 simp only at HIV HRI HRD HR HK ⊢
 have hF:=heap_old (heap_new w (.cells #[.int .u8 m,.int .u8 q,.slice A n cp,.string hd,.string tl,.string ct,.string sm] 44) rfl) (.cells #[.string nm,.int .i64 kd,.int .i64 wd,.int .i64 pl,.int .i64 fm,.bool rt,.int .u8 fl,.bool nd] 91)
 have hC:=heap_new (w.alloc (.cells #[.int .u8 m,.int .u8 q,.slice A n cp,.string hd,.string tl,.string ct,.string sm] 44)) (.cells #[.string nm,.int .i64 kd,.int .i64 wd,.int .i64 pl,.int .i64 fm,.bool rt,.int .u8 fl,.bool nd] 91) (g:=w.heap.size+1) (by simp)
 have HB:Hid (Below w.heap.size w ((w.alloc (.cells #[.int .u8 m,.int .u8 q,.slice A n cp,.string hd,.string tl,.string ct,.string sm] 44)).alloc (.cells #[.string nm,.int .i64 kd,.int .i64 wd,.int .i64 pl,.int .i64 fm,.bool rt,.int .u8 fl,.bool nd] 91))):=Lib.hid (by go_grown)
 go_enter Tryz.func131,Tryz.ntmps131
 go_upto_region 1 with fail
 generalize (w.alloc (.cells #[.int .u8 m,.int .u8 q,.slice A n cp,.string hd,.string tl,.string ct,.string sm] 44)).alloc (.cells #[.string nm,.int .i64 kd,.int .i64 wd,.int .i64 pl,.int .i64 fm,.bool rt,.int .u8 fl,.bool nd] 91)=w1 at hF hC HB ⊢
 have HC:=Lib.hid hC
 obtain ⟨⟨f0,-⟩,-⟩:=obox7 hF
 obtain ⟨⟨x0,x1,x2,x3,x4,x5,x6,x7⟩,-⟩:=obox8 hC
 by_cases h0:t=⟨#[]⟩
 ·have HE:=Lib.hid (show R=(⟨#[]⟩,true) by rw [<- HR.out];exact if_pos h0)
  rw [decide_eq_true h0] at hem
  clear h0 hF hC
  go_wp2
  go_ret2
  rw [HE.out]
  exact ⟨rfl,HB.out⟩
 rw [decide_eq_false h0] at hem
 have HR1:=Lib.hid ((if_neg h0).symm.trans HR.out)
 clear hF hC HR h0
 by_cases h2:kd=2/\m=0
 ·obtain ⟨rfl,rfl⟩:=h2
  have HR2:=Lib.hid ((if_pos ⟨rfl,rfl⟩).symm.trans HR1.out)
  obtain ⟨RI,hRI⟩:∃ x,readImp t.data.toList pl=x:=⟨_,rfl⟩
  have HRE:=Lib.hid hRI
  rw [hRI] at HRI HR2
  clear hRI HR1
  go_wp2_with fail
  refine (HRI.out _).mono ?_
  rintro _ w2 ⟨rfl,hb2⟩
  by_cases hz:RI.2.2=0
  case neg=>
   have HE:=Lib.hid (show R=(⟨#[]⟩,false) from (if_pos hz).symm.trans HR2.out |>.symm)
   obtain ⟨ri0,ri1,ri2⟩:=RI
   simp only at hz ⊢
   have hz2:(ri2 !=0)=true:=by simpa using hz
   have HB2:=Lib.hid (below_then hb2 HB.out HB.out.size)
   have hbd:Below w2.heap.size w2 (w2.alloc (.cells #[.int .i64 ri0,.int .i64 ri1] 31)):=by go_grown
   have HB3:=Lib.hid (below_then hbd HB2.out HB2.out.size)
   clear hz hb2 hbd
   go_wp2
   go_ret2
   rw [HE.out]
   exact ⟨rfl,HB3.out⟩
  obtain ⟨u,e1,e2,e3,e4⟩:=readImp_out (by rw [HRE.out];exact hz)
  rw [HRE.out] at e1
  subst e1
  obtain ⟨q9,hq9⟩:∃ k:Nat,pl=(k:Int):=⟨pl.toNat,by omega⟩
  subst hq9
  have HR3:=Lib.hid ((if_neg (fun h=>h rfl)).symm.trans HR2.out)
  simp only [Int.toNat_natCast] at HR3
  have HLE:=Lib.hid (fun w=>least_c u q9 w (decB_mk ⟨e3,e4,by omega,e2.2⟩))
  have HLD:=Lib.hid (least_dec (u:=u) (p:=(q9:Int)) (decB_mk ⟨e3,e4,by omega,e2.2⟩))
  rw [Int.toNat_natCast] at HLD
  obtain ⟨⟨v,p⟩,hvp⟩:∃ x,leastF u q9=x:=⟨_,rfl⟩
  rw [hvp] at HR3 HLE HLD
  simp only at HR3 HLD
  unfold RetLe at HLE
  have HTO:=Lib.hid (fun w=>told6_c v p w)
  rw [show textR v p=textL v p.toNat from if_pos HLD.out] at HTO
  have HB2:=Lib.hid (below_then hb2 HB.out HB.out.size)
  have hD:=heap_new w2 (.cells #[.int .i64 u,.int .i64 (q9:Int)] 31) rfl
  have hC3:=heap_old (heap_below HC.out hb2) (.cells #[.int .i64 u,.int .i64 (q9:Int)] 31)
  have HB3:Hid (Below w.heap.size w (w2.alloc (.cells #[.int .i64 u,.int .i64 (q9:Int)] 31))):=Lib.hid (HB2.out.alloc HB2.out.size _)
  clear f0 x0 x1 x2 x3 x4 x5 x6 x7 hb2 hvp HC HRE HR2 HRI hz
  simp only
  go_upto_region 5 with fail
  obtain ⟨D,hDD⟩:∃ x,w2.heap.size=x:=⟨_,rfl⟩
  rw [hDD] at hD
  try rw [hDD]
  generalize w2.alloc (.cells #[.int .i64 u,.int .i64 (q9:Int)] 31)=w3 at hD hC3 HB3 ⊢
  have HC3:=Lib.hid hC3
  obtain ⟨d0,d1,-,-,-⟩:=box2 hD
  clear hDD hD hC3 HB2
  go_wp2_with fail
  refine (HLE.out _).mono ?_
  rintro _ w4 ⟨rfl,hb4⟩
  have HB4:=Lib.hid (below_then hb4 HB3.out HB3.out.size)
  have HC4:=Lib.hid (heap_below HC3.out hb4)
  clear d0 d1 hb4 HB3 HC3
  go_wp2_with fail
  refine (HTO.out _).mono ?_
  rintro _ w5 ⟨s,rfl,hsd,hb5⟩
  have HS:=Lib.hid hsd
  have HB5:=Lib.hid (below_then hb5 HB4.out HB4.out.size)
  obtain ⟨⟨x0,x1,x2,x3,x4,x5,x6,x7⟩,-⟩:=obox8 (heap_below HC4.out hb5)
  have HIS:=Lib.hid (fun w h=>HIV.out s w h)
  rw [hsd] at HIS
  have hdo:=decB_out HLD.out
  have h30:v.natAbs<10 ^ 30:=Nat.lt_of_le_of_lt (show v.natAbs<=1000000000000000 by omega) (by decide)
  have hlen:=text_len (u:=v) (q:=p.toNat) (by omega) h30
  have hsz:s.size<=9223372036854775807:=by rw [<- data_len6 s,hsd];omega
  have HSS:=Lib.hid (bs_of hsd)
  clear hsd hb5 HB4 HC4 hlen hdo h30
  go_wp2_with fail
  refine (HIS.out _ hsz).mono ?_
  rintro _ w6 ⟨rfl,hb6⟩
  have hB6:=below_then hb6 HB5.out HB5.out.size
  go_wp2
  go_ret2
  rw [<- HR3.out]
  exact ⟨by rw [HSS.out];rfl,hB6⟩
 have HR2:=Lib.hid ((if_neg h2).symm.trans HR1.out)
 by_cases h3:kd=3
 ·subst h3
  have HR3:=Lib.hid ((if_pos rfl).symm.trans HR2.out)
  clear h2 HR1 HR2
  obtain ⟨N,hN⟩:∃ x,rdN fm 1 t.data.toList=x:=⟨_,rfl⟩
  obtain ⟨F,hF⟩:∃ x,rdF fm 1 t.data.toList=x:=⟨_,rfl⟩
  have HNF:=Lib.hid (And.intro hN hF)
  rw [hN,hF] at HRD HR3
  clear hN hF
  go_wp2_with fail
  refine (HRD.out _).mono ?_
  rintro _ w2 ⟨rfl,hb2⟩
  have HB2:=Lib.hid (below_then hb2 HB.out HB.out.size)
  have HC2:=Lib.hid (heap_below HC.out hb2)
  clear f0 x0 x1 x2 x3 x4 x5 x6 x7 hb2
  by_cases hz:F=0
  case neg=>
   have HE:=Lib.hid ((if_pos hz).symm.trans HR3.out)
   have hz2:(F !=0)=true:=by simpa using hz
   clear hz
   go_wp2
   go_ret2
   rw [<- HE.out]
   exact ⟨rfl,HB2.out⟩
  subst hz
  have HR4:=Lib.hid ((if_neg (fun h=>h rfl)).symm.trans HR3.out)
  have hv:1<=N/\N<=3652059:=by
   obtain ⟨e1,e2⟩:=HNF.out
   unfold rdF at e2
   unfold rdN at e1
   split at e2
   ·cases e2
   rename_i hf1
   split at e2
   ·cases e2
   rename_i hf2
   split at e2
   ·rename_i hf3
    rw [if_pos ⟨by cases hh:formB fm with | true=>rfl | false=>exact absurd hh hf1,by decide⟩] at e1
    cases hr:readO fm 1 t.data.toList with
    | none=>rw [hr] at hf3;cases hf3
    | some v=>rw [hr] at e1;simp only [Option.getD_some] at e1;rw [<- e1];exact readO_day hr
   ·cases e2
  go_wp2_with fail
  refine (HDT.out N _ hv (HTB.out.below HB2.out)).mono ?_
  rintro _ w3 ⟨rfl,hb3⟩
  have HB3:=Lib.hid (below_then hb3 HB2.out HB2.out.size)
  obtain ⟨⟨x0,x1,x2,x3,x4,x5,x6,x7⟩,-⟩:=obox8 (heap_below HC2.out hb3)
  have hsz:(dayS 1 N).size<=9223372036854775807:=by
   have:=dayS_size6 hv
   omega
  generalize dayS 1 N=S at HR4 hsz ⊢
  have HIS:=Lib.hid (fun w h=>HIV.out S w h)
  clear hb3 HB2 HC2 hv HDT
  go_wp2_with fail
  refine (HIS.out _ hsz).mono ?_
  rintro _ w6 ⟨rfl,hb6⟩
  have hB6:=below_then hb6 HB3.out HB3.out.size
  go_wp2
  go_ret2
  rw [<- HR4.out]
  exact ⟨rfl,hB6⟩
 ·have HR3:=Lib.hid ((if_neg h3).symm.trans HR2.out)
  have k3:(kd==3)=false:=beq_eq_false_iff_ne.2 h3
  have HIS:=Lib.hid (fun w h=>HIV.out t w h)
  have hsz:t.size<=9223372036854775807:=by have:=HSZ.out;omega
  by_cases h22:kd=2
  ·subst h22
   have hm0:(m==0)=false:=beq_eq_false_iff_ne.2 (fun h=>h2 ⟨rfl,h⟩)
   clear h2 h3 HR1 HR2
   go_wp2_with fail
   refine (HIS.out _ hsz).mono ?_
   rintro _ w6 ⟨rfl,hb6⟩
   have hB6:=below_then hb6 HB.out HB.out.size
   go_wp2
   go_ret2
   rw [<- HR3.out]
   exact ⟨rfl,hB6⟩
  ·have k2:(kd==2)=false:=beq_eq_false_iff_ne.2 h22
   clear h2 h3 h22 HR1 HR2
   go_wp2_with fail
   refine (HIS.out _ hsz).mono ?_
   rintro _ w6 ⟨rfl,hb6⟩
   have hB6:=below_then hb6 HB.out HB.out.size
   go_wp2
   go_ret2
   rw [<- HR3.out]
   exact ⟨rfl,hB6⟩
theorem checkF_ends {f:Fmt} (h:checkF f=0):endsF f=0:=by
 unfold checkF at h
 repeat' split at h
 all_goals first | exact h | cases h | (exfalso;exact absurd h (by assumption))
theorem knd_kat (f:Fmt) (t:ByteArray):kndF f.kinds t=katK f t:=rfl
theorem endsF_out {f:Fmt} (h:endsF f=0):(f.head≠⟨#[]⟩->0<=katI f f.head)/\(f.tail≠⟨#[]⟩->0<=katI f f.tail)/\(f.head=f.tail->f.head=⟨#[]⟩)/\(f.tail=⟨#[]⟩->f.count=⟨#[]⟩/\f.sum=⟨#[]⟩) /\
  (f.count≠⟨#[]⟩->0<=ixF (nameIs f.count) (katK f f.tail).fields)/\(f.sum≠⟨#[]⟩->0<=ixF (nameIs f.sum) (katK f f.tail).fields/\(cA (katK f f.tail).fields (ixF (nameIs f.sum) (katK f f.tail).fields).toNat).kind=2)/\(f.count=f.sum->f.count=⟨#[]⟩):=by
 unfold endsF at h
 split at h;· cases h
 rename_i h1
 split at h;· cases h
 rename_i h2
 split at h;· cases h
 rename_i h3
 split at h;· cases h
 rename_i h4
 split at h;· cases h
 rename_i h5
 split at h;· cases h
 rename_i h6
 split at h;· cases h
 rename_i h7
 have ht:∀ name p,tailF f.kinds f.tail name p=false->0<=ixF (nameIs name) (katK f f.tail).fields/\(cA (katK f f.tail).fields (ixF (nameIs name) (katK f f.tail).fields).toNat).kind=2:=by
  intro name p hh
  unfold tailF colN at hh
  rw [knd_kat] at hh
  simp only [Bool.or_eq_false_iff,decide_eq_false_iff_not] at hh
  exact ⟨by omega,Classical.byContradiction hh.2.1⟩
 refine ⟨fun e=>?_,fun e=>?_,fun e=>?_,fun e=>?_,fun e=>?_,fun e=>?_,fun e=>?_⟩
 ·show 0<=ixF (tagIs f.head) f.kinds
  exact Classical.byContradiction fun k=>h1 ⟨e,by omega⟩
 ·show 0<=ixF (tagIs f.tail) f.kinds
  exact Classical.byContradiction fun k=>h2 ⟨e,by omega⟩
 ·exact Classical.byContradiction fun k=>h3 ⟨e,k⟩
 ·exact ⟨Classical.byContradiction fun k=>h4 ⟨e,.inl k⟩,Classical.byContradiction fun k=>h4 ⟨e,.inr k⟩⟩
 ·refine (ht f.count false ?_).1
  cases hb:tailF f.kinds f.tail f.count false with
  | false=>rfl
  | true=>exact absurd ⟨e,hb⟩ h5
 ·refine ht f.sum true ?_
  cases hb:tailF f.kinds f.tail f.sum true with
  | false=>rfl
  | true=>exact absurd ⟨e,hb⟩ h6
 ·exact Classical.byContradiction fun k=>h7 ⟨e,k⟩
theorem kat_at {f:Fmt} {t:ByteArray} (h:¬ katI f t<0):∃ k,k<f.kinds.length/\katI f t=(k:Int)/\katK f t=kA f.kinds k/\(kA f.kinds k).tag=t:=by
 rcases ixF_spec (tagIs t) f.kinds with ⟨e,-⟩|⟨k,hk,e,hit,-⟩
 ·exact absurd (show katI f t<0 by unfold katI;rw [e];decide) h
 ·have e':katI f t=(k:Int):=e
  unfold tagIs at hit
  rw [kA_get hk] at hit
  refine ⟨k,hk,e',?_,of_decide_eq_true hit⟩
  unfold katK
  rw [if_neg h,e',Int.toNat_natCast]
theorem ix_lt {cs:List Col} {t:ByteArray} (h:0<=ixF (nameIs t) cs):(ixF (nameIs t) cs).toNat<cs.length/\(cA cs (ixF (nameIs t) cs).toNat).name=t:=by
 rcases ixF_spec (nameIs t) cs with ⟨h1,-⟩|⟨k,hk,h1,h2,-⟩
 ·omega
 ·rw [h1]
  refine ⟨by simpa using hk,?_⟩
  rw [Int.toNat_natCast,<- cA_get hk]
  exact of_decide_eq_true h2
def endB (f:Fmt) (r:RowP):Bool:=(decide (f.head≠⟨#[]⟩)&&decide (r.tag=f.head))||(decide (f.tail≠⟨#[]⟩)&&decide (r.tag=f.tail))
def innL (f:Fmt) (rs:List RowP):List RowP:=rs.filter fun r=>!endB f r
theorem inn_app (f:Fmt) (a b:List RowP):innL f (a++b)=innL f a++innL f b:=List.filter_append ..
theorem inn_one (f:Fmt) (r:RowP):innL f [r]=if endB f r=true then [] else [r]:=by
 unfold innL
 cases h:endB f r<;>simp [h]
theorem take_rA {rs:List RowP} {j:Nat} (h:j<rs.length):rs.take (j+1)=rs.take j++[rA rs j]:=by
 rw [List.take_succ_eq_append_getElem h,rA_get h]
theorem inn_take {f:Fmt} {rs:List RowP} {j:Nat} (h:j<rs.length):innL f (rs.take (j+1))=innL f (rs.take j)++(if endB f (rA rs j)=true then [] else [rA rs j]):=by
 rw [take_rA h,inn_app,inn_one]
theorem inn_len (f:Fmt) (rs:List RowP):(innL f rs).length<=rs.length:=List.length_filter_le _ _
theorem rA_mem {rs:List RowP} {j:Nat} (h:j<rs.length):rA rs j∈rs:=by rw [<- rA_get h];exact List.getElem_mem h
theorem mem_rA {rs:List RowP} {r:RowP} (h:r∈rs):∃ j,j<rs.length/\rA rs j=r:=by
 obtain ⟨j,hj,e⟩:=List.getElem_of_mem h
 exact ⟨j,hj,by rw [<- rA_get hj,e]⟩
theorem inn_ok {f:Fmt} {rs:List RowP} (h:∀ j,j<rs.length->RowK f (rA rs j)):∀ j,j<(innL f rs).length->RowK f (rA (innL f rs) j):=fun j hj=>by
 have h1:=rA_mem hj
 obtain ⟨i,hi,e⟩:=mem_rA (List.mem_filter.1 h1).1
 rw [<- e]
 exact h i hi
def badB (f:Fmt) (r:RowP):Bool:=decide (0<=ixF (nameIs f.sum) (katK f r.tag).fields)&&decide ((cA (katK f r.tag).fields (ixF (nameIs f.sum) (katK f r.tag).fields).toNat).kind≠2)
def sumB (f:Fmt) (rs:List RowP):Bool:=decide (f.sum≠⟨#[]⟩)&&rs.any (badB f)
def lastB (f:Fmt) (rs:List RowP):Bool:=decide (0<rs.length)&&decide ((rA rs (rs.length-1)).tag=f.tail)
def restL (f:Fmt) (rs:List RowP):List RowP:=if lastB f rs=true then rs.take (rs.length-1) else rs
def tailV0 (f:Fmt) (rs:List RowP):List ByteArray:=if lastB f rs=true then (rA rs (rs.length-1)).vals else List.replicate (katK f f.tail).fields.length ⟨#[]⟩
def sumD (f:Fmt) (l:List RowP):Int×Int×Int:=fewF (sumZr f ⟨#[]⟩ f.sum l l.length) 9
def sumS (f:Fmt) (l:List RowP):ByteArray:=bs (textR (sumD f l).1 (sumD f l).2.1)
def cntS (l:List RowP):ByteArray:=bs (Lib.itoa (l.length:Int))
def sumI (f:Fmt):Nat:=(ixF (nameIs f.sum) (katK f f.tail).fields).toNat
def cntI (f:Fmt):Nat:=(ixF (nameIs f.count) (katK f f.tail).fields).toNat
def tailV1 (f:Fmt) (rs:List RowP):List ByteArray:=if f.sum≠⟨#[]⟩ then (tailV0 f rs).set (sumI f) (sumS f (innL f rs)) else tailV0 f rs
def tailV2 (f:Fmt) (rs:List RowP):List ByteArray:=if f.count≠⟨#[]⟩ then (tailV1 f rs).set (cntI f) (cntS (innL f rs)) else tailV1 f rs
def tailP (f:Fmt) (rs:List RowP):RowP:=⟨f.tail,tailV2 f rs⟩
noncomputable def closedE (f:Fmt) (rs:List RowP):Int :=
 if checkF f≠0 then checkF f
 else if f.tail=⟨#[]⟩ then 9
 else if 2000<rs.length then 2
 else if (rowsF f rs).2≠0 then (rowsF f rs).2
 else if sumB f (innL f rs)=true then 6
 else if f.sum≠⟨#[]⟩/\(sumD f (innL f rs)).2.2≠0 then (sumD f (innL f rs)).2.2
 else if (rowF f (tailP f rs)).2≠0 then (rowF f (tailP f rs)).2
 else if 2000<(restL f rs).length+1 then 2
 else 0
def closedL (f:Fmt) (rs:List RowP):List RowP:=restL f rs++[tailP f rs]
noncomputable def closedR (f:Fmt) (rs:List RowP):List RowP×Int:=if closedE f rs≠0 then ([],closedE f rs) else (closedL f rs,0)
theorem rest_len (f:Fmt) (rs:List RowP):(restL f rs).length<=rs.length:=by
 unfold restL
 split
 ·rw [List.length_take];omega
 ·exact Nat.le_refl _
theorem rA_take {rs:List RowP} {n j:Nat} (h:j<n):rA (rs.take n) j=rA rs j:=by
 unfold rA
 rw [List.getD_eq_getElem?_getD,List.getD_eq_getElem?_getD,List.getElem?_take,if_pos h]
theorem rest_rA {f:Fmt} {rs:List RowP} {j:Nat} (h:j<(restL f rs).length):rA (restL f rs) j=rA rs j:=by
 unfold restL at h ⊢
 split
 ·rename_i hh
  rw [if_pos hh,List.length_take] at h
  exact rA_take (by omega)
 ·rfl
theorem end_tail {f:Fmt} {r:RowP} (ht:f.tail≠⟨#[]⟩) (h:r.tag=f.tail):endB f r=true:=by
 unfold endB
 rw [decide_eq_true ht,decide_eq_true h]
 simp
theorem inn_rest {f:Fmt} {rs:List RowP} (ht:f.tail≠⟨#[]⟩):innL f (restL f rs)=innL f rs:=by
 unfold restL
 cases h:lastB f rs with
 | false=>rw [if_neg (by decide)]
 | true=>
  rw [if_pos rfl]
  unfold lastB at h
  simp only [Bool.and_eq_true,decide_eq_true_eq] at h
  have h2:=inn_take (f:=f) (rs:=rs) (j:=rs.length-1) (by omega)
  rw [if_pos (end_tail ht h.2),List.append_nil,show rs.length-1+1=rs.length by omega,List.take_length] at h2
  exact h2.symm
theorem rA_last (l:List RowP) (r:RowP):rA (l++[r]) l.length=r:=by rw [rA_snoc,if_pos rfl]
theorem inn_closed {f:Fmt} {rs:List RowP} (ht:f.tail≠⟨#[]⟩):innL f (closedL f rs)=innL f rs:=by
 unfold closedL
 rw [inn_app,inn_one,if_pos (end_tail ht rfl),List.append_nil,inn_rest ht]
structure ClosedK (f:Fmt) (rs:List RowP):Prop where
 check:checkF f=0
 tail:f.tail≠⟨#[]⟩
 len:rs.length<=2000
 rows:(rowsF f rs).2=0
 bad:sumB f (innL f rs)=false
 sum:f.sum≠⟨#[]⟩->(sumD f (innL f rs)).2.2=0
 row:(rowF f (tailP f rs)).2=0
 many:(restL f rs).length+1<=2000
theorem closedE_out {f:Fmt} {rs:List RowP} (h:closedE f rs=0):ClosedK f rs:=by
 unfold closedE at h
 split at h
 ·rename_i h1;exact absurd h h1
 rename_i h1
 split at h;· cases h
 rename_i h2
 split at h;· cases h
 rename_i h3
 split at h
 ·rename_i h4;exact absurd h h4
 rename_i h4
 split at h;· cases h
 rename_i h5
 split at h
 ·rename_i h6;exact absurd h h6.2
 rename_i h6
 split at h
 ·rename_i h7;exact absurd h h7
 rename_i h7
 split at h;· cases h
 rename_i h8
 exact ⟨Classical.byContradiction h1,h2,by omega,Classical.byContradiction h4,by cases hb:sumB f (innL f rs) with | false=>rfl | true=>exact absurd hb h5,fun hs=>Classical.byContradiction fun k=>h6 ⟨hs,k⟩,Classical.byContradiction h7,by omega⟩
theorem closedE_in {f:Fmt} {rs:List RowP} (h:ClosedK f rs):closedE f rs=0:=by
 unfold closedE
 rw [if_neg (fun e=>e h.check),if_neg h.tail,if_neg (by have:=h.len;omega),if_neg (fun e=>e h.rows),if_neg (by rw [h.bad];decide),if_neg (fun e=>e.2 (h.sum e.1)),if_neg (fun e=>e h.row),if_neg (by have:=h.many;omega)]
theorem rows_zero {f:Fmt} {rs:List RowP} (h:(rowsF f rs).2=0):∀ j,j<rs.length->(rowF f (rA rs j)).2=0:=frF_zero (g:=fun j=>(rowF f (rA rs j)).2) h
theorem rows_all {f:Fmt} {rs:List RowP} (h:∀ j,j<rs.length->(rowF f (rA rs j)).2=0):(rowsF f rs).2=0:=by
 unfold rowsF
 rw [frF_no h]
theorem closed_len (f:Fmt) (rs:List RowP):(closedL f rs).length=(restL f rs).length+1:=by unfold closedL;simp
def underB (f:Fmt) (over:ByteArray):Nat->ByteArray->Bool
 | 0,_=>false
 | n+1,t=>if katI f t<0∨(katK f t).under=⟨#[]⟩ then false else if (katK f t).under=over then true else underB f over n (katK f t).under
def undB (f:Fmt) (t over:ByteArray):Bool:=underB f over f.kinds.length t
def overI (f:Fmt) (rs:List RowP) (tag:ByteArray):Nat->Int
 | 0=>-1
 | k+1=>if (rA rs k).tag=tag then (k:Int) else if undB f (rA rs k).tag tag=false then -1 else overI f rs tag k
def manyN (rs:List RowP) (tag:ByteArray) (fr:Nat):Nat->Nat
 | 0=>0
 | n+1=>manyN rs tag fr n+(if (rA rs (fr+n)).tag=tag then 1 else 0)
def fromI (f:Fmt) (rs:List RowP) (i:Nat):Int:=if (katK f (rA rs i).tag).under=⟨#[]⟩ then 0 else overI f rs (katK f (rA rs i).tag).under i
def rowO (f:Fmt) (rs:List RowP) (i:Nat):Int :=
 if f.head≠⟨#[]⟩/\(decide ((rA rs i).tag=f.head)≠decide (i=0)) then 8
 else if f.tail≠⟨#[]⟩/\(rA rs i).tag=f.tail/\i≠rs.length-1 then 8
 else if fromI f rs i<0 then 8
 else if (katK f (rA rs i).tag).most=0 then 0
 else if (katK f (rA rs i).tag).most<(manyN rs (rA rs i).tag (fromI f rs i).toNat (i+1-(fromI f rs i).toNat):Int) then 2
 else 0
noncomputable def ordR (f:Fmt) (rs:List RowP):Int×Int :=
 if (rowsF f rs).2≠0 then rowsF f rs
 else if (frF (rowO f rs) rs.length).2≠0 then frF (rowO f rs) rs.length
 else if f.tail≠⟨#[]⟩/\lastB f rs=false then ((rs.length:Int),8)
 else (0,0)
noncomputable def ordF (f:Fmt) (rs:List RowP):Int×Int:=if checkF f≠0 then (0,checkF f) else ordR f rs
noncomputable def totF (f:Fmt) (rs:List RowP):Int×Int :=
 if (ordF f rs).2≠0 then (0,(ordF f rs).2)
 else if f.tail=⟨#[]⟩ then (0,9)
 else if f.count≠⟨#[]⟩/\wd (rA rs (rs.length-1)).vals (cntI f)≠cntS (innL f rs) then (0,12)
 else if f.sum=⟨#[]⟩ then (0,0)
 else if sumB f (innL f rs)=true then (1,6)
 else if (sumD f (innL f rs)).2.2≠0 then (1,(sumD f (innL f rs)).2.2)
 else if wd (rA rs (rs.length-1)).vals (sumI f)≠sumS f (innL f rs) then (1,12)
 else (0,0)
theorem wd_set {l:List ByteArray} {i:Nat} {a:ByteArray} (h:i<l.length):wd (l.set i a) i=a:=by
 unfold wd;simp [List.getD_eq_getElem?_getD,h]
theorem wd_set_ne {l:List ByteArray} {i j:Nat} {a:ByteArray} (h:i≠j):wd (l.set i a) j=wd l j:=by
 unfold wd;simp [List.getD_eq_getElem?_getD,h]
theorem tail0_len {f:Fmt} {rs:List RowP} (h:(rowsF f rs).2=0):(tailV0 f rs).length=(katK f f.tail).fields.length:=by
 unfold tailV0
 split
 ·rename_i hh
  unfold lastB at hh
  simp only [Bool.and_eq_true,decide_eq_true_eq] at hh
  have:=(rowF_ok (rows_zero h (rs.length-1) (by omega))).many
  rw [this,hh.2]
 ·simp
theorem closed_tot {f:Fmt} {rs:List RowP} (h:closedE f rs=0) (ho:(ordF f (closedL f rs)).2=0):totF f (closedL f rs)=(0,0):=by
 have k:=closedE_out h
 have hi:=inn_closed (f:=f) (rs:=rs) k.tail
 have he:=endsF_out (checkF_ends k.check)
 have hlast:rA (closedL f rs) ((closedL f rs).length-1)=tailP f rs:=by
  rw [closed_len,show (restL f rs).length+1-1=(restL f rs).length by omega]
  exact rA_last _ _
 have hl0:=tail0_len k.rows
 unfold totF
 rw [if_neg (fun e=>e ho),if_neg k.tail,hlast,hi,k.bad]
 have hc:¬ (f.count≠⟨#[]⟩/\wd (tailP f rs).vals (cntI f)≠cntS (innL f rs)):=by
  rintro ⟨hc,h2⟩
  refine h2 ?_
  show wd (tailV2 f rs) (cntI f)=_
  unfold tailV2
  rw [if_pos hc]
  refine wd_set ?_
  have h3:=(ix_lt (he.2.2.2.2.1 hc)).1
  have h4:(tailV1 f rs).length=(tailV0 f rs).length:=by unfold tailV1;split<;>simp
  rw [h4,hl0]
  exact h3
 rw [if_neg hc]
 by_cases hs:f.sum=⟨#[]⟩
 ·rw [if_pos hs]
 rw [if_neg hs,if_neg (by decide),if_neg (fun e=>e (k.sum hs))]
 refine if_neg fun h2=>h2 ?_
 show wd (tailV2 f rs) (sumI f)=_
 have h3:=ix_lt (he.2.2.2.2.2.1 hs).1
 have h5:wd (tailV1 f rs) (sumI f)=sumS f (innL f rs):=by
  unfold tailV1
  rw [if_pos hs]
  exact wd_set (by rw [hl0];exact h3.1)
 unfold tailV2
 split
 ·rename_i hc
  have h4:=ix_lt (he.2.2.2.2.1 hc)
  refine (wd_set_ne fun e=>?_).trans h5
  have h6:f.count=f.sum:=by
   rw [<- h4.2,<- h3.2]
   unfold cntI sumI at e
   rw [e]
  exact hc (he.2.2.2.2.2.2 h6)
 ·exact h5
end Go.Proofs.YtbfbgappinilmaaGreatDoor
namespace Go.Proofs.YtbfbgappinilmaaGreatDoor
open Limb Nmb Work
set_option linter.unusedVariables false
set_option linter.unusedSimpArgs false
theorem dec_lt {n k:Nat} (hk:1<=k) (h:k<(Lib.decDigits n).length):10 ^ k<=n:=by
 rcases Nat.lt_or_ge n (10 ^ k) with h2 | h2
 ·have:=(dec_len hk h2).2;omega
 ·exact h2
theorem sdig_len {z:Int} : (sdig z).length=(if z<0 then 1 else 0)+(Lib.decDigits z.natAbs).length:=by
 unfold sdig
 rw [List.length_append]
 split<;>rfl
theorem mark_no {m:Int} (h:markF m=false) (hm:0<=m/\m<=255):32<=m/\m<=126/\¬ (48<=m/\m<=57)/\m≠45/\m≠46:=by
 unfold markF at h
 simp only [Bool.or_eq_false_iff,decide_eq_false_iff_not] at h
 obtain ⟨⟨⟨⟨⟨h1,h2⟩,h3⟩,h4⟩,h5⟩,h6⟩:=h
 refine ⟨by omega,by omega,fun h7=>?_,h5,h6⟩
 unfold tagC at h3
 exact absurd (decide_eq_true (Or.inr h7)) (by rw [h3];decide)
theorem ixb_no {l:List UInt8} {c:UInt8} (h:c∉l):Lib.indexByte l c=-1:=by
 rcases cutL_index l c with ⟨h1,-⟩|⟨o,ho,h1,-⟩
 ·exact h1
 ·have:=(Lib.indexByte_some h1).1
  rw [List.getElem?_eq_getElem ho] at this
  injection this with this
  exact absurd (this ▸ List.getElem_mem ho) h
theorem u8_mark {m:Int} (hm:0<=m/\m<=255):((UInt8.ofNat m.toNat).toNat:Int)=m:=by
 have e:(UInt8.ofNat m.toNat).toNat=m.toNat:=by simp;omega
 rw [e];omega
theorem num_clean {u:Int} {q:Nat} {m:Int} (h:markF m=false) (hm:0<=m/\m<=255):Lib.indexByte (textL u q) (UInt8.ofNat m.toNat)=-1:=by
 have h1:=mark_no h hm
 have h2:=u8_mark hm
 refine ixb_no fun hc=>?_
 rcases textL_mem _ hc with h3 | h3 | h3
 ·rw [h3] at h2;have:((45:UInt8).toNat:Int)=45:=rfl;omega
 ·rw [h3] at h2;have:((46:UInt8).toNat:Int)=46:=rfl;omega
 ·omega
theorem day_read {l:List UInt8} (h:dayOk l=true):1<=dayN 1 l/\dayN 1 l<=3652059:=by
 unfold dayOk at h
 unfold dayN
 cases hr:readO 1 1 l with
 | none=>rw [hr] at h;cases h
 | some v=>exact readO_day hr
end Go.Proofs.YtbfbgappinilmaaGreatDoor
