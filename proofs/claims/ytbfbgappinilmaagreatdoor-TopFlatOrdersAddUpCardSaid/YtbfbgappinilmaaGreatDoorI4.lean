/- The walk of fromFilled: the value in bytes with fixed places. The walk of fromFilled. The walk of reader.fixed. -/
import Derived.Test.YtbfbgappinilmaaGreatDoorZD
import Derived.Test.YtbfbgappinilmaaGreatDoorShelf4
import Derived.Test.YtbfbgappinilmaaGreatDoorShelf5
import Derived.Test.YtbfbgappinilmaaGreatDoorFB
-- merged: I2 I3 I4
namespace Go.Proofs.YtbfbgappinilmaaGreatDoor
open Go.RowKit Limb Nmb Work
set_option linter.unusedVariables false
set_option linter.unusedSimpArgs false
theorem least_scale (u:Int):∀ q:Nat,scaled (leastF u q).1 (leastF u q).2 q=u:=by
 intro q
 induction q generalizing u with
 | zero=>show u*((10 ^ (0-(0:Int).toNat):Nat):Int)=u;simp
 | succ q ih=>
  by_cases h:u%10=0
  ·rw [least_step h]
   have h1:=ih (u/10)
   have h2:=(least_le (u/10) q).2
   unfold scaled at h1 ⊢
   rw [show q+1-(leastF (u/10) q).2.toNat=(q-(leastF (u/10) q).2.toNat)+1 by omega,Nat.pow_succ,Int.natCast_mul,<- Int.mul_assoc,h1]
   omega
  ·rw [least_stop h]
   unfold scaled
   simp
theorem dig_le {x:List UInt8} (h:digB x=true):(Lib.decDigits (numL x)).length<=x.length:=by
 obtain ⟨h1,h2⟩:=digB_out h
 have h3:=congrArg List.length (digs_num _ x rfl h1 h2)
 rw [List.length_append,List.length_replicate] at h3
 omega
theorem readImp_len {l:List UInt8} {a:Int} (h:(readImp l a).2.2=0):(sdig (readImp l a).1).length<=l.length:=by
 unfold readImp at h ⊢
 have hl:∀ x,(if (l.head? == some 45)=true then l.tail else l)=x->x.length+(if (l.head? == some 45)=true then 1 else 0)<=l.length:=fun x hx=>by
  subst hx
  cases hh:(l.head? == some 45) with
  | true=>
   cases l with
   | nil=>cases hh
   | cons y l=>simp
  | false=>simp
 obtain ⟨x,hx⟩:∃ x,(if (l.head? == some 45)=true then l.tail else l)=x:=⟨_,rfl⟩
 have hl:=hl x hx
 rw [hx] at h ⊢
 by_cases h1:¬ (0<=a/\a<=9)
 ·rw [if_pos h1] at h;cases h
 rw [if_neg h1] at h ⊢
 by_cases h2:(decide (30<l.length)||!digB x)=true
 ·rw [if_pos h2] at h;cases h
 rw [if_neg h2] at h ⊢
 by_cases h3:numL x<=1000000000000000
 case neg=>rw [if_neg h3] at h;cases h
 rw [if_pos h3,sdig_len]
 have hd:digB x=true:=by
  cases hh:digB x with
  | true=>rfl
  | false=>rw [hh] at h2;simp at h2
 have hle:=dig_le hd
 cases hh:(l.head? == some 45) with
 | true=>
  rw [hh] at hl
  simp only [if_true] at hl ⊢
  rw [show (-(numL x:Int)).natAbs=numL x by omega]
  split<;>omega
 | false=>
  rw [hh] at hl
  simp only [Bool.false_eq_true,if_false] at hl ⊢
  rw [show ((numL x:Nat):Int).natAbs=numL x by omega,if_neg (by omega)]
  omega
theorem rd_day {fm:Int} {l:List UInt8} (h:rdF fm 1 l=0):1<=rdN fm 1 l/\rdN fm 1 l<=3652059:=by
 unfold rdF at h
 unfold rdN
 split at h
 ·cases h
 rename_i hf1
 split at h
 ·cases h
 rename_i hf2
 split at h
 ·rename_i hf3
  rw [if_pos ⟨by cases hh:formB fm with | true=>rfl | false=>exact absurd hh hf1,by decide⟩]
  cases hr:readO fm 1 l with
  | none=>rw [hr] at hf3;cases hf3
  | some v=>exact readO_day hr
 ·cases h
theorem valO_fit {c:Col} {t:ByteArray} (hk:ColK 0 c) (hl:(t.size:Int)<=c.width∨(c.kind=2/\((readImp t.data.toList c.places).2.2=0->(readImp t.data.toList c.places).1=0))) (hok:(valO 0 c t).2=true):((valO 0 c t).1≠⟨#[]⟩->valOk c (valO 0 c t).1.data.toList=true)/\((wrS 0 c (valO 0 c t).1).size:Int)<=c.width:=by
 have hw:=hk.width
 unfold valO at hok ⊢
 by_cases h0:t=⟨#[]⟩
 ·rw [if_pos h0]
  refine ⟨fun h=>absurd rfl h,?_⟩
  unfold wrS
  rw [if_pos rfl]
  show (0:Int)<=_
  omega
 rw [if_neg h0] at hok ⊢
 by_cases h2:c.kind=2/\(0:Int)=0
 ·rw [if_pos h2] at hok ⊢
  by_cases hz:(readImp t.data.toList c.places).2.2=0
  case neg=>rw [if_pos hz] at hok;cases hok
  rw [if_neg (fun h=>h hz)] at hok ⊢
  simp only at hok ⊢
  obtain ⟨u,e1,e2,e3⟩:=readImp_out hz
  have hlen:=readImp_len hz
  rw [e1] at hok hlen hl ⊢
  simp only at hok hlen hl ⊢
  refine ⟨fun _=>by rw [bs_toList];exact hok,?_⟩
  have hd:=least_dec (u:=u) (p:=c.places) (decB_mk ⟨e3.1,e3.2,e2.1,e2.2⟩)
  have hdo:=decB_out hd
  have hsc:=least_scale u c.places.toNat
  have hpl:=(least_le u c.places.toNat).2
  obtain ⟨⟨v,p⟩,hvp⟩:∃ x,leastF u c.places.toNat=x:=⟨_,rfl⟩
  rw [hvp] at hok hdo hsc hpl ⊢
  simp only at hok hdo hsc hpl ⊢
  have hne:bs (textL v p.toNat)≠⟨#[]⟩:=fun h=>by
   have h1:=congrArg ByteArray.size h
   rw [bs_size,textL_len] at h1
   have h2:(⟨#[]⟩:ByteArray).size=0:=rfl
   have h3:=dec_ne v.natAbs
   rw [h2] at h1
   split at h1<;>split at h1<;>split at h1<;>omega
  have hb:=readText_back (u:=v) (q:=p.toNat) ⟨hdo.1,hdo.2.1⟩ (by omega)
  unfold wrS
  rw [if_neg hne,if_pos h2,bs_toList,hb]
  simp only
  rw [Int.toNat_of_nonneg hpl.1,hsc,bs_size]
  rcases hl with hl | ⟨-,hl⟩
  ·rw [data_len6] at hlen
   omega
  ·rw [hl trivial,sdig_len,show Int.natAbs 0=0 from rfl,Lib.decDigits_one (by decide)]
   simp
   omega
 rw [if_neg h2] at hok ⊢
 have hk2:¬ c.kind=2:=fun h=>h2 ⟨h,rfl⟩
 by_cases h3:c.kind=3
 ·rw [if_pos h3] at hok ⊢
  by_cases hz:rdF c.form 1 t.data.toList=0
  case neg=>rw [if_pos hz] at hok;cases hok
  rw [if_neg (fun h=>h hz)] at hok ⊢
  simp only at hok ⊢
  generalize dayS 1 (rdN c.form 1 t.data.toList)=S at hok ⊢
  refine ⟨fun _=>hok,?_⟩
  unfold wrS
  by_cases hS:S=⟨#[]⟩
  ·rw [if_pos hS];show (0:Int)<=_;omega
  ·rw [if_neg hS,if_neg (fun h=>hk2 h.1),if_pos h3]
   unfold valOk at hok
   rw [if_neg hk2,if_pos h3] at hok
   rw [dayS_size (hk.form h3) (day_read hok),hk.day rfl h3]
   exact Int.le_refl _
 ·rw [if_neg h3] at hok ⊢
  simp only at hok ⊢
  refine ⟨fun _=>hok,?_⟩
  unfold wrS
  rw [if_neg h0,if_neg (fun h=>hk2 h.1),if_neg h3]
  rcases hl with hl | ⟨h,-⟩
  ·exact hl
  ·exact absurd h hk2
def stripL (l:List UInt8):List UInt8 :=
 if Lib.hasPrefix l [45]=true then 45 :: (if Lib.trimLeftB (Lib.trimPrefix l [45]) 48=[] then [48] else Lib.trimLeftB (Lib.trimPrefix l [45]) 48)
 else if Lib.trimLeftB (Lib.trimPrefix l [45]) 48=[] then [48] else Lib.trimLeftB (Lib.trimPrefix l [45]) 48
theorem drop_len (l:List UInt8) (c:UInt8):(Lib.trimLeftB l c).length<=l.length:=by
 unfold Lib.trimLeftB
 exact List.Sublist.length_le (List.dropWhile_sublist _)
theorem strip_len {l:List UInt8} (h:l≠[]):(stripL l).length<=l.length∨stripL l=[45,48]:=by
 unfold stripL
 have h1:=drop_len (Lib.trimPrefix l [45]) 48
 have h0:1<=l.length:=by cases l with | nil=>exact absurd rfl h | cons=>simp
 cases hp:Lib.hasPrefix l [45] with
 | true=>
  rw [if_pos rfl]
  have h2:(Lib.trimPrefix l [45]).length+1=l.length:=by
   unfold Lib.trimPrefix
   rw [hp]
   simp
   omega
  split
  ·exact .inr rfl
  ·exact .inl (by simp;omega)
 | false=>
  rw [if_neg (by decide)]
  have h2:(Lib.trimPrefix l [45]).length<=l.length:=by
   unfold Lib.trimPrefix
   split
   ·simp
   ·exact Nat.le_refl _
  split
  ·exact .inl (by simpa using h0)
  ·exact .inl (by omega)
theorem trim_len (l:List UInt8):(Lib.trimS l [32]).length<=l.length:=by
 rw [Lib.trimS_one]
 unfold Lib.trimB
 refine Nat.le_trans (drop_len _ _) ?_
 unfold Lib.trimRightB
 rw [List.length_reverse]
 refine Nat.le_trans (List.Sublist.length_le (List.dropWhile_sublist _)) ?_
 rw [List.length_reverse]
 exact Nat.le_refl _
def cutF (c:Col) (s:ByteArray):ByteArray :=
 if c.kind=2/\c.fill=48/\Lib.trimS s.data.toList [32]≠[] then bs (stripL (Lib.trimS s.data.toList [32])) else bs (Lib.trimS s.data.toList [32])
noncomputable def fromO (c:Col) (s:ByteArray):ByteArray×Bool:=((valO 0 c (cutF c s)).1,(valO 0 c (cutF c s)).2&&decide (filS 0 c (valO 0 c (cutF c s)).1=s))
theorem cut_size {c:Col} {s:ByteArray} : (cutF c s).size<=s.size+2:=by
 unfold cutF
 have h1:=trim_len s.data.toList
 rw [data_len6] at h1
 split
 ·rename_i h
  rw [bs_size]
  rcases strip_len h.2.2 with h2 | h2
  ·omega
  ·rw [h2];simp
 ·rw [bs_size];omega
theorem cut_fit {c:Col} {s:ByteArray} (hs:(s.size:Int)=c.width):((cutF c s).size:Int)<=c.width∨(c.kind=2/\((readImp (cutF c s).data.toList c.places).2.2=0->(readImp (cutF c s).data.toList c.places).1=0)):=by
 have h1:=trim_len s.data.toList
 rw [data_len6] at h1
 unfold cutF
 split
 ·rename_i h
  rcases strip_len h.2.2 with h2 | h2
  ·left;rw [bs_size];omega
  ·right
   refine ⟨h.1,fun h3=>?_⟩
   rw [bs_toList,h2] at h3 ⊢
   unfold readImp at h3 ⊢
   by_cases h4:¬ (0<=c.places/\c.places<=9)
   ·rw [if_pos h4] at h3;cases h3
   ·rw [if_neg h4];rfl
 ·left;rw [bs_size];omega
theorem valO_size {m:Int} {c:Col} {t:ByteArray} (ht:t.size<=9223372036854775807) (h:(valO m c t).2=true):(valO m c t).1.size<=9223372036854775807:=by
 unfold valO at h ⊢
 by_cases h0:t=⟨#[]⟩
 ·rw [if_pos h0];decide
 rw [if_neg h0] at h ⊢
 by_cases h2:c.kind=2/\m=0
 ·rw [if_pos h2] at h ⊢
  by_cases hz:(readImp t.data.toList c.places).2.2=0
  case neg=>rw [if_pos hz] at h;cases h
  rw [if_neg (fun h=>h hz)]
  simp only
  obtain ⟨u,e1,e2,e3⟩:=readImp_out hz
  rw [e1]
  simp only
  have hd:=decB_out (least_dec (u:=u) (p:=c.places) (decB_mk ⟨e3.1,e3.2,e2.1,e2.2⟩))
  rw [bs_size]
  have h30:(leastF u c.places.toNat).1.natAbs<10 ^ 30:=Nat.lt_of_le_of_lt (show (leastF u c.places.toNat).1.natAbs<=1000000000000000 by omega) (by decide)
  have:=text_len (u:=(leastF u c.places.toNat).1) (q:=(leastF u c.places.toNat).2.toNat) (by omega) h30
  omega
 rw [if_neg h2] at h ⊢
 by_cases h3:c.kind=3
 ·rw [if_pos h3] at h ⊢
  by_cases hz:rdF c.form 1 t.data.toList=0
  case neg=>rw [if_pos hz] at h;cases h
  rw [if_neg (fun h=>h hz)]
  simp only
  have:=dayS_size6 (rd_day hz)
  omega
 ·rw [if_neg h3];exact ht
set_option maxHeartbeats 4000000 in
set_option maxRecDepth 100000 in
theorem fromfilled_c (f:Fmt) (A:Option Addr) (n cp:Nat) (c:Col) (s:ByteArray) (w:World) (hm0:f.mark=0) (hs:(s.size:Int)=c.width) (hk:ColK f.mark c) (ht:Tab w) :
  Calls Tryz.prog 132 #[.agg #[.int .u8 f.mark,.int .u8 f.quote,.slice A n cp,.string f.head,.string f.tail,.string f.count,.string f.sum],colG c,.string s] w (RetVO (fromO c s) w):=by
 have hw:=hk.width
 have hs100:s.size<=100:=by omega
 have HTR:=Lib.hid (fun w=>trim_blank s w (by omega))
 have HVO:=Lib.hid (fun w ht=>valueof_c f A n cp c (cutF c s) w (by have:=cut_size (c:=c) (s:=s);omega) hk ht)
 have HK0:=Lib.hid (show ColK 0 c by rw [<- hm0];exact hk)
 have HFT:=Lib.hid (fun h=>valO_fit HK0.out (cut_fit (c:=c) (s:=s) hs) h)
 have HFI:=Lib.hid (fun v hv h1 h2 w ht=>fill6_c f A n cp c v w hv h1 hk hm0 (by rw [hm0];exact h2) ht)
 have HTB:=Lib.hid ht
 have HVS:=Lib.hid (show (valO 0 c (cutF c s)).2=true->(valO 0 c (cutF c s)).1.size<=9223372036854775807 from valO_size (by have:=cut_size (c:=c) (s:=s);omega))
 obtain ⟨CF,hCF⟩:∃ x,cutF c s=x:=⟨_,rfl⟩
 have HCF:=Lib.hid hCF
 obtain ⟨R,hR⟩:∃ x,fromO c s=x:=⟨_,rfl⟩
 have HR:=Lib.hid (show ((valO 0 c CF).1,(valO 0 c CF).2&&decide (filS 0 c (valO 0 c CF).1=s))=R by rw [<- hR,<- hCF];rfl)
 rw [hR]
 rw [hm0] at HVO HFI ⊢
 rw [hCF] at HVO HFT HVS
 obtain ⟨V,hV⟩:∃ x,valO 0 c CF=x:=⟨_,rfl⟩
 rw [hV] at HVO HFT HVS HR
 unfold RetVO at HVO
 have HSS:=Lib.hid hs100
 clear hCF hR hV ht hk hs hw hm0 hs100
 unfold RetVO
 obtain ⟨m,q,ks,hd,tl,ct,sm⟩:=f
 have HCK:Hid (∀ (l:List UInt8),Lib.trimS s.data.toList [32]=l->cutF c s=if c.kind=2/\c.fill=48/\l≠[] then bs (stripL l) else bs l):=Lib.hid (fun l hl=>by subst hl;rfl)
 obtain ⟨nm,kd,wd,pl,fm,rt,fl,nd⟩:=c
 unfold colG at HVO HFI ⊢
 simp only at HVO HFI HCK ⊢
 have hF:=heap_old (heap_new w (.cells #[.int .u8 0,.int .u8 q,.slice A n cp,.string hd,.string tl,.string ct,.string sm] 44) rfl) (.cells #[.string nm,.int .i64 kd,.int .i64 wd,.int .i64 pl,.int .i64 fm,.bool rt,.int .u8 fl,.bool nd] 91)
 have hC:=heap_new (w.alloc (.cells #[.int .u8 0,.int .u8 q,.slice A n cp,.string hd,.string tl,.string ct,.string sm] 44)) (.cells #[.string nm,.int .i64 kd,.int .i64 wd,.int .i64 pl,.int .i64 fm,.bool rt,.int .u8 fl,.bool nd] 91) (g:=w.heap.size+1) (by simp)
 have hB:Below w.heap.size w ((w.alloc (.cells #[.int .u8 0,.int .u8 q,.slice A n cp,.string hd,.string tl,.string ct,.string sm] 44)).alloc (.cells #[.string nm,.int .i64 kd,.int .i64 wd,.int .i64 pl,.int .i64 fm,.bool rt,.int .u8 fl,.bool nd] 91)):=by go_grown
 go_enter Tryz.func132,Tryz.ntmps132
 go_upto_region 1 with fail
 generalize (w.alloc (.cells #[.int .u8 0,.int .u8 q,.slice A n cp,.string hd,.string tl,.string ct,.string sm] 44)).alloc (.cells #[.string nm,.int .i64 kd,.int .i64 wd,.int .i64 pl,.int .i64 fm,.bool rt,.int .u8 fl,.bool nd] 91)=w1 at hF hC hB ⊢
 have HF:=Lib.hid hF;have HC:=Lib.hid hC;have HB:=Lib.hid hB
 clear hF hC hB
 go_wp2_with fail
 refine (HTR.out _).mono ?_
 rintro _ w2 ⟨rfl,hb2⟩
 have HF2:=Lib.hid (heap_below HF.out hb2);have HC2:=Lib.hid (heap_below HC.out hb2);have HB2:=Lib.hid (below_then hb2 HB.out HB.out.size)
 obtain ⟨TL,hTL⟩:∃ x,Lib.trimS s.data.toList [32]=x:=⟨_,rfl⟩
 have HCG:=Lib.hid (HCK.out TL hTL)
 rw [hTL]
 have HLN:=Lib.hid (show TL.length<=100 by rw [<- hTL];exact Nat.le_trans (trim_len _) (by rw [data_len6];exact HSS.out))
 clear hTL hb2 HF HC HB HTR HCK
 obtain ⟨⟨x0,x1,x2,x3,x4,x5,x6,x7⟩,-⟩:=obox8 HC2.out
 have hem:=emp_dec (bs TL)
 have HCX:=Lib.hid (HCF.out.symm.trans HCG.out)
 clear HCF HCG
 go_upto_region 2 with fail
 go_cut [26] (fun v wx=>v=.bool (decide (kd=2/\fl=48/\TL≠[]))/\w2=wx)
 case first=>
  by_cases h2:kd=2
  case neg=>
   have k2:(kd==2)=false:=beq_eq_false_iff_ne.2 h2
   have HE:=Lib.hid (decide_eq_false (fun h=>h2 h.1):decide (kd=2/\fl=48/\TL≠[])=false)
   clear h2 hem
   go_wp2
   go_meet
   exact ⟨by rw [HE.out],rfl⟩
  subst h2
  by_cases h4:fl=48
  case neg=>
   have k4:(fl==48)=false:=beq_eq_false_iff_ne.2 h4
   have HE:=Lib.hid (decide_eq_false (fun h=>h4 h.2.1):decide ((2:Int)=2/\fl=48/\TL≠[])=false)
   clear h4 hem
   go_wp2
   go_meet
   exact ⟨by rw [HE.out],rfl⟩
  subst h4
  by_cases h0:TL=[]
  ·have HE:=Lib.hid (decide_eq_false (fun h=>h.2.2 h0):decide ((2:Int)=2/\(48:Int)=48/\TL≠[])=false)
   rw [decide_eq_true (show bs TL=⟨#[]⟩ by rw [h0];rfl)] at hem
   clear h0
   go_wp2
   go_meet
   exact ⟨by rw [HE.out],rfl⟩
  ·have HE:=Lib.hid (decide_eq_true ⟨rfl,rfl,h0⟩:decide ((2:Int)=2/\(48:Int)=48/\TL≠[])=true)
   rw [decide_eq_false (show ¬ bs TL=⟨#[]⟩ from fun h=>h0 (by have h1:=congrArg (fun (x:ByteArray)=>x.data.toList) h;rw [bs_toList] at h1;exact h1))] at hem
   clear h0
   go_wp2
   go_meet
   exact ⟨by rw [HE.out],rfl⟩
 obtain ⟨rfl,rfl⟩:=hcut
 clear hem
 obtain ⟨BT,hBT⟩:∃ x,decide (kd=2/\fl=48/\TL≠[])=x:=⟨_,rfl⟩
 have HBT:=Lib.hid hBT
 rw [hBT]
 clear hBT
 go_upto_if 26 with fail
 go_cut [8] (fun v wx=>v=.string CF/\w2=wx)
 case first=>
  cases BT with
  | false=>
   have HE:=Lib.hid (HCX.out.trans (if_neg (of_decide_eq_false HBT.out)))
   go_wp2
   go_meet
   exact ⟨by rw [HE.out],rfl⟩
  | true=>
  obtain ⟨rfl,rfl,h0⟩:=of_decide_eq_true HBT.out
  have HE:=Lib.hid (HCX.out.trans (if_pos ⟨rfl,rfl,h0⟩))
  have HCP:Hid (∀ w,Calls Tryz.prog 63 #[.string (bs TL),.string ⟨#[45]⟩] w fun e w'=>e=.returned (.tuple #[.string (bs (Lib.trimPrefix TL [45])),.bool (Lib.hasPrefix TL [45])])/\w'=w):=Lib.hid (fun w=>by have h:=Tryz.strings_CutPrefix (bs TL) ⟨#[45]⟩ w;rw [bs_toList] at h;exact h)
  have hps:(Lib.trimPrefix TL [45]).length<=TL.length:=by
   unfold Lib.trimPrefix
   split
   ·simp
   ·exact Nat.le_refl _
  unfold stripL at HE
  obtain ⟨P,hP⟩:∃ x,Lib.trimPrefix TL [45]=x:=⟨_,rfl⟩
  obtain ⟨B,hB⟩:∃ x,Lib.hasPrefix TL [45]=x:=⟨_,rfl⟩
  rw [hP,hB] at HCP HE
  rw [hP] at hps
  have HTLF:Hid (∀ w,Calls Tryz.prog 160 #[.string (bs P),.string ⟨#[48]⟩] w fun e w'=>e=.returned (.string (bs (Lib.trimLeftB P 48)))/\w'=w):=Lib.hid (fun w=>by have h:=Tryz.strings_TrimLeft_one (bs P) 48 (by decide) w;rw [bs_toList] at h;exact h)
  have hds:=drop_len P 48
  obtain ⟨S,hS⟩:∃ x,Lib.trimLeftB P 48=x:=⟨_,rfl⟩
  rw [hS] at HTLF HE hds
  have hcc:¬ (9223372036854775807<(⟨#[45]⟩:ByteArray).size+(bs S).size):=by
   rw [show (⟨#[45]⟩:ByteArray).size=1 from rfl,bs_size]
   have:=HLN.out
   omega
  have hem2:=emp_dec (bs S)
  clear hP hB hS hps hds h0
  go_wp2_with fail
  refine (HCP.out _).mono ?_
  rintro _ w3 ⟨rfl,rfl⟩
  go_wp2_with fail
  refine (HTLF.out _).mono ?_
  rintro _ w4 ⟨rfl,rfl⟩
  by_cases hs0:S=[]
  ·subst hs0
   rw [decide_eq_true (show bs []=⟨#[]⟩ from rfl)] at hem2
   cases B with
   | true=>
    go_wp2
    go_meet
    exact ⟨by rw [HE.out];rfl,rfl⟩
   | false=>
    go_wp2
    go_meet
    exact ⟨by rw [HE.out];rfl,rfl⟩
  ·rw [decide_eq_false (show ¬ bs S=⟨#[]⟩ from fun h=>hs0 (by have h1:=congrArg (fun (x:ByteArray)=>x.data.toList) h;rw [bs_toList] at h1;exact h1))] at hem2
   rw [if_neg hs0] at HE
   clear hs0
   cases B with
   | true=>
    go_wp2
    go_meet
    exact ⟨by rw [HE.out];rfl,rfl⟩
   | false=>
    go_wp2
    go_meet
    exact ⟨by rw [HE.out];rfl,rfl⟩
 case rest=>
  obtain ⟨rfl,rfl⟩:=hcut
  obtain ⟨⟨f0,f1,f2,f3,f4,f5,f6⟩,f7⟩:=obox7 HF2.out
  obtain ⟨⟨x0,x1,x2,x3,x4,x5,x6,x7⟩,x8⟩:=obox8 HC2.out
  obtain ⟨v,b⟩:=V
  simp only at HFT HVS HR HVO
  clear HCX HLN HBT
  go_wp2_with fail
  refine (HVO.out _ (HTB.out.below HB2.out)).mono ?_
  rintro _ w3 ⟨rfl,hb3⟩
  have HB3:=Lib.hid (below_then hb3 HB2.out HB2.out.size)
  cases b with
  | false=>
   have HE:=Lib.hid (show (v,false)=R from HR.out)
   clear f0 f1 f2 f3 f4 f5 f6 f7 x0 x1 x2 x3 x4 x5 x6 x7 x8 hb3
   go_wp2
   go_ret2
   rw [<- HE.out]
   exact ⟨rfl,HB3.out⟩
  | true=>
   obtain ⟨⟨f0,f1,f2,f3,f4,f5,f6⟩,f7⟩:=obox7 (heap_below HF2.out hb3)
   obtain ⟨⟨x0,x1,x2,x3,x4,x5,x6,x7⟩,x8⟩:=obox8 (heap_below HC2.out hb3)
   have HFF:=Lib.hid (HFI.out v (HVS.out rfl) (HFT.out rfl).1 (HFT.out rfl).2)
   have HE:=Lib.hid (show (v,decide (filS 0 ⟨nm,kd,wd,pl,fm,rt,fl,nd⟩ v=s))=R from HR.out)
   clear hb3
   go_wp2_with fail
   refine (HFF.out _ (HTB.out.below HB3.out)).mono ?_
   rintro _ w4 ⟨rfl,hb4⟩
   have HB4:=Lib.hid (below_then hb4 HB3.out HB3.out.size)
   obtain ⟨Z,hZ⟩:∃ x,filS 0 ⟨nm,kd,wd,pl,fm,rt,fl,nd⟩ v=x:=⟨_,rfl⟩
   rw [hZ] at HE ⊢
   clear hZ hb4 f0 f1 f2 f3 f4 f5 f6 f7 x0 x1 x2 x3 x4 x5 x6 x7 x8
   go_wp2
   go_ret2
   refine ⟨?_,HB4.out⟩
   rw [<- HE.out]
   show Ending.returned (.tuple #[.string v,.bool (Z.toList==s.toList)])=_
   rw [bytes_dec]
def RetRd (m q:Int) (A:Option Addr) (n cp:Nat) (hd tl ct sm line:ByteArray) (g:Nat) (r:ByteArray×Bool) (i:Nat) (w:World) (e:Ending) (w':World):Prop :=
 e=.returned (.tuple #[.string r.1,.bool r.2])/\w.grownBy w' (some g)/\(r.2=true->w'.heap[g]?=some (.cells #[.int .u8 m,.int .u8 q,.slice A n cp,.string hd,.string tl,.string ct,.string sm,.string line,.int .i64 i] 145 (0,0)))
noncomputable def fixO (c:Col) (line:ByteArray) (i:Nat):ByteArray×Bool :=
 if (line.size:Int)-i<c.width then (⟨#[]⟩,false) else fromO c (line.extract i (i+c.width.toNat))
theorem grown_below {w w':World} {g:Nat} (h:Below w.heap.size w w'):w.grownBy w' (some g):=⟨h.os,h.tape,h.output,h.size,fun k hk _=>h.block k hk⟩
theorem grownR_set {w w':World} {g i:Nat} {u:Value} (h:Below w.heap.size w w'):w.grownBy (w'.setCell ⟨g,i,none⟩ u) (some g) :=
 ⟨h.os,h.tape,h.output,by have:=h.size;simpa [World.setCell] using this,fun k hk hne=>(Below.heap_setCell w' ⟨g,i,none⟩ u k (fun e=>hne (by rw [e]))).trans (h.block k hk)⟩
theorem grown_then {w w1 w2:World} {g:Nat} (h1:w.grownBy w1 (some g)) (h:Below w1.heap.size w1 w2):w.grownBy w2 (some g) :=
 ⟨h.os.trans h1.os,h.tape.trans h1.tape,h.output.trans h1.output,Nat.le_trans h1.size h.size,fun k hk hne=>(h.block k (Nat.lt_of_lt_of_le hk h1.size)).trans (h1.block k hk hne)⟩
theorem belowR_grown {B:Nat} {w w1:World} {g:Nat} (h1:w.grownBy w1 (some g)) (hg:B<=g) (hB:B<=w.heap.size):Below B w w1 :=
 ⟨h1.os,h1.tape,h1.output,h1.size,fun k hk=>h1.block k (by omega) (fun e=>by cases e;omega)⟩
set_option maxHeartbeats 4000000 in
set_option maxRecDepth 100000 in
theorem fixed_c (m q:Int) (A:Option Addr) (n cp:Nat) (hd tl ct sm:ByteArray) (c:Col) (line:ByteArray) (i g B:Nat) (w:World) (hm0:m=0) (hl:line.size<=6000) (hi:i<=line.size) (hk:ColK m c)
  (hg:w.heap[g]?=some (.cells #[.int .u8 m,.int .u8 q,.slice A n cp,.string hd,.string tl,.string ct,.string sm,.string line,.int .i64 i] 145 (0,0))) (hB:B<=g) (hT:∀ w',Below B w w'->Tab w') :
  Calls Tryz.prog 91 #[.pointer (some ⟨g,0,none⟩),colG c] w (RetRd m q A n cp hd tl ct sm line g (fixO c line i) (i+c.width.toNat) w):=by
 have hw:=hk.width
 subst hm0
 have HFF:=Lib.hid (fun s hs w ht=>fromfilled_c ⟨0,q,[],hd,tl,ct,sm⟩ A n cp c s w rfl hs hk ht)
 unfold RetVO at HFF
 obtain ⟨R,hR⟩:∃ x,fixO c line i=x:=⟨_,rfl⟩
 have HR:=Lib.hid hR
 rw [hR]
 unfold fixO at HR
 clear hR
 obtain ⟨nm,kd,wd,pl,fm,rt,fl,nd⟩:=c
 obtain ⟨k,hk9⟩:∃ k:Nat,wd=(k:Int):=⟨wd.toNat,by simp only at hw;omega⟩
 subst hk9
 unfold colG at HFF ⊢
 simp only [Int.toNat_natCast] at HFF HR hw ⊢
 unfold RetRd
 have HTB:=Lib.hid hT
 have hG:=heap_old hg (.cells #[.string nm,.int .i64 kd,.int .i64 k,.int .i64 pl,.int .i64 fm,.bool rt,.int .u8 fl,.bool nd] 91)
 have hC:=heap_new w (.cells #[.string nm,.int .i64 kd,.int .i64 k,.int .i64 pl,.int .i64 fm,.bool rt,.int .u8 fl,.bool nd] 91) rfl
 have HB1:Hid (Below w.heap.size w (w.alloc (.cells #[.string nm,.int .i64 kd,.int .i64 k,.int .i64 pl,.int .i64 fm,.bool rt,.int .u8 fl,.bool nd] 91))):=Lib.hid (by go_grown)
 have hgl:=lt_heap hg
 have HGL:=Lib.hid (And.intro hgl hB)
 have e1:IntKind.i64.wrap ((line.size:Int)-(i:Int))=(line.size:Int)-(i:Int):=IntWalk.i64_in _ (by omega)
 have e2:IntKind.i64.wrap ((i:Int)+(k:Int))=(i:Int)+(k:Int):=IntWalk.i64_in _ (by omega)
 have e4:((i:Int)+(k:Int)).toNat=i+k:=by omega
 have i1:(0:Int)<=(i:Int):=by omega
 have i2:(i:Int)<=(i:Int)+(k:Int):=by omega
 have i4:(0:Int)<=(i:Int)+(k:Int):=by omega
 have HL:=Lib.hid hl;have HI:=Lib.hid hi;have HW:=Lib.hid hw
 clear hk hT hl hB hg hw hgl
 go_enter Tryz.func91,Tryz.ntmps91
 go_upto_region 1 with fail
 generalize w.alloc (.cells #[.string nm,.int .i64 kd,.int .i64 k,.int .i64 pl,.int .i64 fm,.bool rt,.int .u8 fl,.bool nd] 91)=w1 at hG hC HB1 ⊢
 obtain ⟨⟨⟨g0,g1,g2,g3,g4,g5,g6,g7,g8⟩,z0,z1,z2,z3,z4,z5,z6,z7,z8⟩,gz⟩:=obox9 hG
 obtain ⟨⟨x0,x1,x2,x3,x4,x5,x6,x7⟩,x8⟩:=obox8 hC
 have HG:=Lib.hid hG;have HC:=Lib.hid hC
 clear hG hC hi
 by_cases hlt:(line.size:Int)-(i:Int)<(k:Int)
 ·have HE:=Lib.hid (show (⟨#[]⟩,false)=R from (if_pos hlt).symm.trans HR.out)
  have hd1:=decide_eq_true hlt
  clear hlt
  go_quiet (fail)
  go_wp2
  go_ret2
  rw [<- HE.out]
  exact ⟨rfl,grown_below (below_drewN HB1.out _),fun h=>by cases h⟩
 ·have HE:=Lib.hid (show fromO _ (line.extract i (i+k))=R from (if_neg hlt).symm.trans HR.out)
  have hd1:=decide_eq_false hlt
  have i3:(i:Int)+(k:Int)<=(line.size:Int):=by omega
  have HI3:=Lib.hid i3
  clear hlt
  go_quiet (fail)
  have HG2:=Lib.hid (show (w1.drewN nq).heap[g]?=_ from HG.out);have HC2:=Lib.hid (show (w1.drewN nq).heap[w.heap.size]?=_ from HC.out)
  have HB2:=Lib.hid (below_drewN HB1.out nq)
  clear g0 g1 g2 g3 g4 g5 g6 g7 g8 z0 z1 z2 z3 z4 z5 z6 z7 z8 gz x0 x1 x2 x3 x4 x5 x6 x7 x8
  generalize w1.drewN nq=w2 at HG2 HC2 HB2 ⊢
  obtain ⟨⟨⟨g0,g1,g2,g3,g4,g5,g6,g7,g8⟩,z0,z1,z2,z3,z4,z5,z6,z7,z8⟩,gz⟩:=obox9 HG2.out
  obtain ⟨⟨x0,x1,x2,x3,x4,x5,x6,x7⟩,x8⟩:=obox8 HC2.out
  go_wp2_with fail
  go_quiet (fail)
  have HG3:=Lib.hid (show (w2.drewN nq).heap[g]?=_ from HG2.out);have HC3:=Lib.hid (show (w2.drewN nq).heap[w.heap.size]?=_ from HC2.out)
  have HB3:=Lib.hid (below_drewN HB2.out nq)
  clear g0 g1 g2 g3 g4 g5 g6 g7 g8 z0 z1 z2 z3 z4 z5 z6 z7 z8 gz x0 x1 x2 x3 x4 x5 x6 x7 x8
  generalize w2.drewN nq=w3 at HG3 HC3 HB3 ⊢
  obtain ⟨⟨⟨g0,g1,g2,g3,g4,g5,g6,g7,g8⟩,z0,z1,z2,z3,z4,z5,z6,z7,z8⟩,gz⟩:=obox9 HG3.out
  obtain ⟨⟨x0,x1,x2,x3,x4,x5,x6,x7⟩,x8⟩:=obox8 HC3.out
  go_upto_region 4 with fail
  go_region
  have HG4:Hid ((w3.setCell ⟨g,8,none⟩ (.int .i64 ((i:Int)+(k:Int)))).drew.heap[g]?=some (.cells #[.int .u8 0,.int .u8 q,.slice A n cp,.string hd,.string tl,.string ct,.string sm,.string line,.int .i64 ((i:Int)+(k:Int))] 145 (0,0))):=Lib.hid (heap_set HG3.out 8 _)
  have HC4:Hid ((w3.setCell ⟨g,8,none⟩ (.int .i64 ((i:Int)+(k:Int)))).drew.heap[w.heap.size]?=_):=Lib.hid (heap_far HC3.out (p:=⟨g,8,none⟩) (by have:=HGL.out.1;show w.heap.size≠g;omega) _)
  have HW4:Hid (w.grownBy (w3.setCell ⟨g,8,none⟩ (.int .i64 ((i:Int)+(k:Int)))).drew (some g)):=Lib.hid (by have h:=grownR_set (i:=8) (u:=.int .i64 ((i:Int)+(k:Int))) (g:=g) HB3.out;exact ⟨h.os,h.tape,h.output,h.size,h.block⟩)
  clear g0 g1 g2 g3 g4 g5 g6 g7 g8 z0 z1 z2 z3 z4 z5 z6 z7 z8 gz x0 x1 x2 x3 x4 x5 x6 x7 x8
  generalize (w3.setCell ⟨g,8,none⟩ (.int .i64 ((i:Int)+(k:Int)))).drew=w4 at HG4 HC4 HW4 ⊢
  have T4:Below w4.heap.size w4 w4:=Below.refl _ _
  have HS:Hid (∀ wx,Below w4.heap.size w4 wx->(fun w':World=>w'.cell? ⟨g,0,none⟩=some (.int .u8 0)/\w'.cell? ⟨g,1,none⟩=some (.int .u8 q)/\w'.cell? ⟨g,2,none⟩=some (.slice A n cp)/\w'.cell? ⟨g,3,none⟩=some (.string hd)/\w'.cell? ⟨g,4,none⟩=some (.string tl)/\w'.cell? ⟨g,5,none⟩=some (.string ct)/\w'.cell? ⟨g,6,none⟩=some (.string sm)/\w'.cell? ⟨w.heap.size,0,none⟩=some (.string nm)/\w'.cell? ⟨w.heap.size,1,none⟩=some (.int .i64 kd)/\w'.cell? ⟨w.heap.size,2,none⟩=some (.int .i64 k)/\w'.cell? ⟨w.heap.size,3,none⟩=some (.int .i64 pl)/\w'.cell? ⟨w.heap.size,4,none⟩=some (.int .i64 fm)/\w'.cell? ⟨w.heap.size,5,none⟩=some (.bool rt)/\w'.cell? ⟨w.heap.size,6,none⟩=some (.int .u8 fl)/\w'.cell? ⟨w.heap.size,7,none⟩=some (.bool nd)) wx):=Lib.hid (fun wx h=>by
   obtain ⟨⟨⟨g0,g1,g2,g3,g4,g5,g6,g7,g8⟩,-⟩,-⟩:=obox9 (heap_below HG4.out h)
   obtain ⟨⟨x0,x1,x2,x3,x4,x5,x6,x7⟩,x8⟩:=obox8 (heap_below HC4.out h)
   exact ⟨g0,g1,g2,g3,g4,g5,g6,x0,x1,x2,x3,x4,x5,x6,x7⟩)
  have HT4:=Lib.hid (HTB.out w4 (belowR_grown HW4.out HGL.out.2 (Nat.le_of_lt (Nat.lt_of_le_of_lt HGL.out.2 HGL.out.1))))
  have HFX:=Lib.hid (HFF.out (line.extract i (i+k)) (by rw [ByteArray.size_extract];omega))
  rw [HE.out] at HFX
  clear i3 i2 i4 e1 e2 e4 hd1
  go_upto_region 5 with fail
  go_region_held3 (fun w':World=>w'.cell? ⟨g,0,none⟩=some (.int .u8 0)/\w'.cell? ⟨g,1,none⟩=some (.int .u8 q)/\w'.cell? ⟨g,2,none⟩=some (.slice A n cp)/\w'.cell? ⟨g,3,none⟩=some (.string hd)/\w'.cell? ⟨g,4,none⟩=some (.string tl)/\w'.cell? ⟨g,5,none⟩=some (.string ct)/\w'.cell? ⟨g,6,none⟩=some (.string sm)/\w'.cell? ⟨w.heap.size,0,none⟩=some (.string nm)/\w'.cell? ⟨w.heap.size,1,none⟩=some (.int .i64 kd)/\w'.cell? ⟨w.heap.size,2,none⟩=some (.int .i64 k)/\w'.cell? ⟨w.heap.size,3,none⟩=some (.int .i64 pl)/\w'.cell? ⟨w.heap.size,4,none⟩=some (.int .i64 fm)/\w'.cell? ⟨w.heap.size,5,none⟩=some (.bool rt)/\w'.cell? ⟨w.heap.size,6,none⟩=some (.int .u8 fl)/\w'.cell? ⟨w.heap.size,7,none⟩=some (.bool nd))
   (first | (with_reducible exact HS.out _ T5) | (refine HS.out _ ?_;go_grown))
   (first | (go_at_call 132;refine (HFX.out _ (by first | exact HT4.out | exact HT4.out.below (by go_grown))).mono ?_;rintro e w5 ⟨rfl,hb5⟩;(have T5:Below w4.heap.size w4 w5:=below_then hb5 (by go_grown) (by first | exact Nat.le_refl _ | (simp only [World.size_alloc,World.size_drew];omega)))))
  go_wp2
  go_ret2
  exact ⟨rfl,grown_then HW4.out T5,fun _=>by rw [Int.natCast_add];exact heap_below HG4.out T5⟩
end Go.Proofs.YtbfbgappinilmaaGreatDoor
