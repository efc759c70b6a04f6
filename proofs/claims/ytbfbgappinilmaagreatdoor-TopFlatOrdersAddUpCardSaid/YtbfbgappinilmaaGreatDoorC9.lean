
/- The walk of CheckTotals. (Printed by genC9.py.) -/
import Derived.Test.YtbfbgappinilmaaGreatDoorC6
import Derived.Test.YtbfbgappinilmaaGreatDoorC8
namespace Go.Proofs.YtbfbgappinilmaaGreatDoor
open Go.RowKit Limb Nmb Work
set_option linter.unusedVariables false
set_option linter.unusedSimpArgs false
theorem ordF_ok {f:Fmt} {rs:List RowP} (h:(ordF f rs).2=0):checkF f=0/\(rowsF f rs).2=0/\(f.tail≠⟨#[]⟩->lastB f rs=true):=by
 unfold ordF at h
 split at h
 ·rename_i h1;exact absurd h h1
 rename_i h1
 unfold ordR at h
 split at h
 ·rename_i h2;exact absurd h h2
 rename_i h2
 split at h
 ·rename_i h3;exact absurd h h3
 split at h;· cases h
 rename_i h4
 exact ⟨Classical.byContradiction h1,Classical.byContradiction h2,fun ht=>by cases hb:lastB f rs with | true=>rfl | false=>exact absurd ⟨ht,hb⟩ h4⟩
set_option maxHeartbeats 8000000 in
set_option maxRecDepth 100000 in
theorem CheckTotals_c (f:Fmt) (A:Option Addr) (cp:Nat) (FA:Nat->Option Addr) (FC:Nat->Nat) (L:Option Addr) (LC:Nat) (rs:List RowP) (RA:Nat->Option Addr) (RC:Nat->Nat) (w:World) (ho:Kinds w A f.kinds FA FC) (hl:RowsM w L rs RA RC) (hLC:rs.length<=LC) (hLM:LC<=9223372036854775807) (hnr:rs.length*40<=140737488355328) (hcp:f.kinds.length<=cp) (hm:0<=f.mark/\f.mark<=255) (hq:0<=f.quote/\f.quote<=255) (ht:Tab w) :
  Calls Tryz.prog 13 #[fmtG f A cp,.slice L rs.length LC] w (RetNF (totF f rs).1 (totF f rs).2 w):=by
 have HOR:=Lib.hid (fun w h h2 ht=>CheckOrder_c f A cp FA FC L LC rs RA RC w h h2 hLC hLM hcp hm hq ht)
 have HOK:=Lib.hid (fun h=>ordF_ok (f:=f) (rs:=rs) h)
 have HIN2:=Lib.hid (fun w h=>innerX_c f A cp L LC rs RA RC w h hnr)
 have HSF:=Lib.hid (fun X c RA' RC' w h h2=>sumfault_c f A cp FA FC X c (innL f rs) RA' RC' w h h2)
 have HKA:=Lib.hid (fun w h=>kindat_c f A cp FA FC f.tail w h)
 have HSU:=Lib.hid (show (∀ j,j<(innL f rs).length->RowK f (rA (innL f rs) j))->(innL f rs).length<=1000000000000000->∀ X c RA' RC' w,Kinds w A f.kinds FA FC->RowsM w X (innL f rs) RA' RC'->Calls Tryz.prog 37 #[fmtG f A cp,.slice X (innL f rs).length c,.string ⟨#[]⟩,.string f.sum] w (RetD (sumD f (innL f rs)) w) from fun hrk h2000 X c RA' RC' w h h2=>sumofX_c f A cp FA FC X c (innL f rs) RA' RC' ⟨#[]⟩ f.sum w h h2 hrk h2000)
 have HKC:=Lib.hid (kat_cases f FA FC f.tail)
 have HFK:=Lib.hid (fun h=>checkF_ok (f:=f) h)
 have HEN:=Lib.hid (fun h=>endsF_out (checkF_ends (f:=f) h))
 have HRZ:=Lib.hid (fun h=>rows_zero (f:=f) (rs:=rs) h)
 have HIL:=Lib.hid (inn_len f rs)
 have HIO:=Lib.hid (fun h=>inn_ok (f:=f) (rs:=rs) h)
 have HLA:=Lib.hid (show lastB f rs=(decide (0<rs.length)&&decide ((rA rs (rs.length-1)).tag=f.tail)) from rfl)
 have HK:=Lib.hid ho;have HLM:=Lib.hid hl;have HTB:=Lib.hid ht
 obtain ⟨R,hR⟩:∃ x,totF f rs=x:=⟨_,rfl⟩
 have HR:=Lib.hid hR
 unfold totF cntI sumI cntS sumS at HR
 rw [hR]
 clear hR ho hl ht
 obtain ⟨⟨OI,OE⟩,hOE⟩:∃ x,ordF f rs=x:=⟨_,rfl⟩
 obtain ⟨IN,hIN⟩:∃ x,innL f rs=x:=⟨_,rfl⟩
 rw [hOE,hIN] at HR
 rw [hOE] at HOR HOK
 rw [hIN] at HIN2 HSF HSU HIL HIO
 obtain ⟨SB,hSB⟩:∃ x,sumB f IN=x:=⟨_,rfl⟩
 obtain ⟨SD,hSD⟩:∃ x,sumD f IN=x:=⟨_,rfl⟩
 rw [hSB,hSD] at HR
 rw [hSB] at HSF
 rw [hSD] at HSU
 simp only at HR HOR HOK
 clear hOE hIN hSB hSD
 unfold RetNF at HOR ⊢
 unfold RetB at HSF
 unfold RetD at HSU
 unfold RetIn at HIN2
 obtain ⟨m,q,ks,hd,tl,ct,sm⟩:=f
 unfold fmtG at HOR HIN2 HSF HKA HSU ⊢
 simp only at HOR HIN2 HSF HKA HSU HR HK HKC HEN HLA hcp hm ⊢
 obtain ⟨n,hn⟩:∃ x,ks.length=x:=⟨_,rfl⟩
 rw [hn] at HOR HIN2 HSF HKA HSU hcp ⊢
 clear hn
 obtain ⟨nr,hnr2⟩:∃ x,rs.length=x:=⟨_,rfl⟩
 have HNR:=Lib.hid hnr2
 rw [hnr2] at HOR HIN2 HR HLA HIL hLC hnr ⊢
 clear hnr2
 have hP:=heap_new w (.cells #[.int .u8 m,.int .u8 q,.slice A n cp,.string hd,.string tl,.string ct,.string sm] 44) rfl
 have hB1:Below w.heap.size w (w.alloc (.cells #[.int .u8 m,.int .u8 q,.slice A n cp,.string hd,.string tl,.string ct,.string sm] 44)):=by go_grown
 go_enter Tryz.func13,Tryz.ntmps13
 go_upto_region 1 with fail
 generalize w.alloc (.cells #[.int .u8 m,.int .u8 q,.slice A n cp,.string hd,.string tl,.string ct,.string sm] 44)=w1 at hP hB1 ⊢
 have HW:=Lib.hid (show ∀ wx,Below w1.heap.size w1 wx->wx.heap[w.heap.size]?=some (.cells #[.int .u8 m,.int .u8 q,.slice A n cp,.string hd,.string tl,.string ct,.string sm] 44 (0,0))/\Kinds wx A ks FA FC/\RowsM wx L rs RA RC/\Tab wx/\Below w.heap.size w wx from fun wx h=>by
  have h2:=below_then h hB1 hB1.size
  exact ⟨heap_below hP h,HK.out.below h2,HLM.out.below h2,HTB.out.below h2,h2⟩)
 clear hP hB1
 obtain ⟨q1,qk,ql,qt,-⟩:=HW.out _ (Below.refl _ _)
 obtain ⟨⟨p0,p1,p2,p3,p4,p5,p6⟩,-⟩:=obox7 q1
 go_wp2_with fail
 refine (HOR.out _ qk ql qt).mono ?_
 rintro _ w2 ⟨rfl,hb2⟩
 have HB2:=Lib.hid hb2
 clear q1 qk ql qt p0 p1 p2 p3 p4 p5 p6 hb2 HOR
 obtain ⟨q1,qk,ql,qt,qb⟩:=HW.out _ HB2.out
 obtain ⟨⟨p0,p1,p2,p3,p4,p5,p6⟩,-⟩:=obox7 q1
 by_cases h0:OE=0
 case neg=>
  have HE:=Lib.hid (show R=(0,OE) by rw [<- HR.out,if_pos h0])
  have h0a:(OE !=0)=true:=by simpa using h0
  clear h0 q1 qk ql qt
  go_wp2
  go_ret2
  exact ⟨by rw [HE.out];rfl,qb⟩
 have HR1:=Lib.hid ((if_neg (fun h=>h h0)).symm.trans HR.out)
 obtain ⟨hok1,hok2,hok3⟩:=HOK.out h0
 subst h0
 have HFM:=Lib.hid (HFK.out hok1)
 have HEN1:=Lib.hid (HEN.out hok1)
 have HRZ1:=Lib.hid (HRZ.out hok2)
 have HOK3:=Lib.hid hok3
 clear HR HOK HFK HEN HRZ hok1 hok2 hok3
 have e1:=emp_dec tl
 by_cases h1:tl=⟨#[]⟩
 ·have HE:=Lib.hid (show R=(0,9) by rw [<- HR1.out,if_pos h1])
  rw [decide_eq_true h1] at e1
  clear h1 q1 qk ql qt
  go_wp2
  go_ret2
  exact ⟨by rw [HE.out];rfl,qb⟩
 have HR2:=Lib.hid ((if_neg h1).symm.trans HR1.out)
 rw [decide_eq_false h1] at e1
 have hla:=HLA.out
 rw [HOK3.out h1] at hla
 have hpos:0<nr:=by
  rcases Nat.eq_zero_or_pos nr with h | h
  ·rw [decide_eq_false (by omega)] at hla;cases hla
  ·exact h
 rw [decide_eq_true hpos,Bool.true_and] at hla
 have hlt:=of_decide_eq_true hla.symm
 have hkt:=HEN1.out.2.1 h1
 rcases HKC.out with ⟨g1,-⟩|⟨k,hk,g1,g2,g3,g4⟩
 ·omega
 have g2:katK ⟨m,q,ks,hd,tl,ct,sm⟩ tl=kA ks k:=g2
 have hk':k<ks.length:=hk
 have HCOL:=Lib.hid (fun wx (h:Below w1.heap.size w1 wx)=>kinds_cols (HW.out wx h).2.1 hk')
 have hmany:=(HFM.out.kinds k hk').many
 simp only at hmany
 have HRK:=Lib.hid (rowF_ok (HRZ1.out (nr-1) (by rw [HNR.out];omega)))
 have hrm:=HRK.out.many
 rw [hlt,g2] at hrm
 rw [g2] at HR2 HEN1
 clear h1 HR1 hla hkt hk HKC HLA HOK3
 go_wp2_with fail
 refine (HKA.out _ qk).mono ?_
 rintro _ w6 ⟨rfl,hb6⟩
 rw [g2,g3,g4]
 have td:decide (0<=katI ⟨m,q,ks,hd,tl,ct,sm⟩ tl)=true:=decide_eq_true (by omega)
 rw [td]
 have HB6:=Lib.hid (below_then hb6 HB2.out HB2.out.size)
 clear q1 qk ql qt qb p0 p1 p2 p3 p4 p5 p6 hb6 HB2 g1 g2 g3 g4 td HKA hk' e1
 obtain ⟨K,hK⟩:∃ x,kA ks k=x:=⟨_,rfl⟩
 rw [hK] at HCOL hmany HR2 HEN1 hrm ⊢
 generalize FA k=KA at HCOL ⊢
 generalize FC k=KC
 clear hK
 have HCA:=Lib.hid (fun name wx (h:Below w1.heap.size w1 wx)=>colat_c K KA KC name wx (HCOL.out wx h))
 obtain ⟨kt,fs,km,ku⟩:=K
 unfold kindG at HCA ⊢
 simp only at HCA HCOL hmany HR2 HEN1 hrm ⊢
 have HIXL:=Lib.hid (fun t h=>ix_lt (cs:=fs) (t:=t) h)
 obtain ⟨nf,hnf⟩:∃ x,fs.length=x:=⟨_,rfl⟩
 rw [hnf] at HCA hmany HIXL hrm ⊢
 clear hnf
 have hKD:=heap_new w6 (.cells #[.string kt,.slice KA nf KC,.int .i64 km,.string ku] 83) rfl
 have hBk:Below w1.heap.size w1 (w6.alloc (.cells #[.string kt,.slice KA nf KC,.int .i64 km,.string ku] 83)):=HB6.out.alloc HB6.out.size _
 go_upto_region 7 with fail
 obtain ⟨KB,hKB⟩:∃ x,w6.heap.size=x:=⟨_,rfl⟩
 rw [hKB] at hKD
 try rw [hKB]
 generalize w6.alloc (.cells #[.string kt,.slice KA nf KC,.int .i64 km,.string ku] 83)=w7 at hKD hBk ⊢
 have HB7:=Lib.hid hBk;have HKD:=Lib.hid hKD
 clear hKD hBk hKB HB6
 obtain ⟨n1,hn1⟩:∃ x,nr-1=x:=⟨_,rfl⟩
 have hix:(nr:Int)-1=(n1:Int):=by omega
 have hwr:IntKind.i64.wrap ((n1:Nat):Int)=(n1:Int):=IntWalk.i64_in _ (by omega)
 have hnlt:n1<nr:=by omega
 have hi2:(n1:Int)<(nr:Int):=by omega
 have hi1:(0:Int)<=(n1:Int):=by omega
 rw [hn1] at HR2 hrm hlt
 obtain ⟨-,-,ql,-,-⟩:=HW.out _ HB7.out
 obtain ⟨b,off,rfl,hbk,c0,c1⟩:=ql.cells (j:=n1) (by rw [HNR.out];exact hnlt)
 have HRJ:=Lib.hid (fun wx h=>(HW.out wx h).2.2.1.each n1 (by rw [HNR.out];exact hnlt))
 obtain ⟨r,hr⟩:∃ x,rA rs n1=x:=⟨_,rfl⟩
 rw [hr] at c0 c1 HRJ HR2 hrm hlt
 generalize RA n1=RJ at c1 HRJ
 generalize RC n1=CJ at c1 HRJ
 obtain ⟨rt,TV⟩:=r
 simp only at c0 c1 HR2 hrm hlt
 subst hlt
 obtain ⟨nv,hnv⟩:∃ x,TV.length=x:=⟨_,rfl⟩
 have HNV:=Lib.hid hnv
 rw [hnv] at c1 hrm
 have HVN:=Lib.hid hrm
 clear hrm
 have hTD:=heap_new w7 (.cells #[.string rt,.slice RJ nv CJ] 39) rfl
 have hBt:Below w1.heap.size w1 (w7.alloc (.cells #[.string rt,.slice RJ nv CJ] 39)):=HB7.out.alloc HB7.out.size _
 have hKD:=heap_old HKD.out (.cells #[.string rt,.slice RJ nv CJ] 39)
 clear hr hnv ql hn1
 go_upto_region 8 with fail
 obtain ⟨TB,hTBe⟩:∃ x,w7.heap.size=x:=⟨_,rfl⟩
 rw [hTBe] at hTD
 try rw [hTBe]
 generalize w7.alloc (.cells #[.string rt,.slice RJ nv CJ] 39)=wk at hTD hBt hKD ⊢
 have HW2:=Lib.hid (show ∀ wx,Below wk.heap.size wk wx->wx.heap[w.heap.size]?=some (.cells #[.int .u8 m,.int .u8 q,.slice A n cp,.string hd,.string rt,.string ct,.string sm] 44 (0,0))/\wx.heap[KB]?=some (.cells #[.string kt,.slice KA nf KC,.int .i64 km,.string ku] 83 (0,0))/\wx.heap[TB]?=some (.cells #[.string rt,.slice RJ nv CJ] 39 (0,0))/\Kinds wx A ks FA FC/\RowsM wx (some ⟨b,off,none⟩) rs RA RC/\Tab wx/\Below w1.heap.size w1 wx/\Below w.heap.size w wx from fun wx h=>by
  have h2:=below_then h hBt hBt.size
  obtain ⟨g1,g2,g3,g4,g5⟩:=HW.out wx h2
  exact ⟨g1,heap_below hKD h,heap_below hTD h,g2,g3,g4,h2,g5⟩)
 clear hTD hBt hKD hTBe c0 c1 hbk HB7 HKD hix hwr hi1 hi2
 obtain ⟨CI,hCI⟩:∃ x,(ixF (nameIs ct) fs).toNat=x:=⟨_,rfl⟩
 obtain ⟨SI,hSI⟩:∃ x,(ixF (nameIs sm) fs).toNat=x:=⟨_,rfl⟩
 obtain ⟨SS,hSS⟩:∃ x,bs (textR SD.1 SD.2.1)=x:=⟨_,rfl⟩
 obtain ⟨ni,hni⟩:∃ x,IN.length=x:=⟨_,rfl⟩
 have HCI:=Lib.hid hCI;have HSI:=Lib.hid hSI;have HSS:=Lib.hid hSS;have HNI:=Lib.hid hni
 rw [hCI,hSI,hSS,hni] at HR2
 have HIN3:=HIN2
 rw [hni] at HIN3
 have hni2:ni<=1000000000000000:=by have:=HIL.out;omega
 have HIT:=Lib.hid (fun wx h=>vitoas_c (ni:Int) wx (by omega) h)
 clear hCI hSI hSS hni
 obtain ⟨B8,hB8⟩:∃ x,decide (ct≠⟨#[]⟩/\wd TV CI≠bs (Lib.itoa (ni:Int)))=x:=⟨_,rfl⟩
 have HB8e:=Lib.hid hB8
 clear hB8
 go_cut [56] (fun v wx=>v=.bool B8/\Hid (Below wk.heap.size wk wx))
 case first=>
  obtain ⟨q1,q2,q3,-⟩:=HW2.out _ (Below.refl _ _)
  have e1:=emp_dec ct
  by_cases hc0:ct=⟨#[]⟩
  ·have HE:=Lib.hid (show B8=false by rw [<- HB8e.out];exact decide_eq_false (fun h=>h.1 hc0))
   rw [decide_eq_true hc0] at e1
   obtain ⟨⟨p0,p1,p2,p3,p4,p5,p6⟩,-⟩:=obox7 q1
   clear hc0 q1 q2 q3
   go_quiet (fail)
   go_wp2_with fail
   go_meet
   exact ⟨by rw [HE.out],Lib.hid ⟨rfl,rfl,rfl,Nat.le_refl _,fun _ _=>rfl⟩⟩
  have hix0:=HEN1.out.2.2.2.2.1 hc0
  have hixl:=(HIXL.out ct hix0).1
  have hIXe:ixF (nameIs ct) fs=(CI:Int):=by have:=HCI.out;omega
  rw [hIXe,Int.toNat_natCast] at hixl
  have HCS:=Lib.hid (fun wx h=>HCA.out ct wx h)
  rw [hIXe] at HCS
  have hcv:CI<nv:=by have:=HVN.out;omega
  obtain ⟨vb,vo,rfl,hvb,hvc⟩:=(HRJ.out _ (HW2.out _ (Below.refl _ _)).2.2.2.2.2.2.1).vals (by show 0<TV.length;rw [HNV.out];omega)
  have hs0:=hvc CI (by show CI<TV.length;rw [HNV.out];exact hcv)
  simp only at hs0
  obtain ⟨sv,hsv⟩:∃ x,wd TV CI=x:=⟨_,rfl⟩
  rw [hsv] at hs0
  obtain ⟨X2,hX2⟩:∃ x,decide (sv=⟨(Lib.itoa (ni:Int)).toArray⟩)=x:=⟨_,rfl⟩
  have HX2:=Lib.hid hX2
  have HE8:=Lib.hid (show B8=!X2 by
   rw [<- HB8e.out,hsv,<- hX2]
   by_cases h:sv=⟨(Lib.itoa (ni:Int)).toArray⟩
   ·rw [decide_eq_true h];exact decide_eq_false (fun k=>k.2 h)
   ·rw [decide_eq_false h];exact decide_eq_true ⟨hc0,h⟩)
  have HP:=Lib.hid q1;have HKQ:=Lib.hid q2;have HTQ:=Lib.hid q3;have HV0:=Lib.hid hs0;have HVB:=Lib.hid hvb
  rw [decide_eq_false hc0] at e1
  have HS8:=Lib.hid (show ∀ wx,Below wk.heap.size wk wx->(fun w':World=>w'.cell? ⟨TB,1,none⟩=some (.slice (some ⟨vb,vo,none⟩) nv CJ)/\w'.cell? ⟨KB,0,none⟩=some (.string kt)/\w'.cell? ⟨KB,1,none⟩=some (.slice KA nf KC)/\w'.cell? ⟨KB,2,none⟩=some (.int .i64 km)/\w'.cell? ⟨KB,3,none⟩=some (.string ku)/\w'.cell? ⟨w.heap.size,0,none⟩=some (.int .u8 m)/\w'.cell? ⟨w.heap.size,1,none⟩=some (.int .u8 q)/\w'.cell? ⟨w.heap.size,2,none⟩=some (.slice A n cp)/\w'.cell? ⟨w.heap.size,3,none⟩=some (.string hd)/\w'.cell? ⟨w.heap.size,4,none⟩=some (.string rt)/\w'.cell? ⟨w.heap.size,5,none⟩=some (.string ct)/\w'.cell? ⟨w.heap.size,6,none⟩=some (.string sm)/\w'.cell? ⟨vb,vo+CI,none⟩=some (.string sv)) wx from fun wx h=>by
   obtain ⟨⟨a0,a1,a2,a3,a4,a5,a6⟩,-⟩:=obox7 (heap_below HP.out h)
   obtain ⟨⟨b0,b1,b2,b3⟩,-,-⟩:=obox4 (heap_below HKQ.out h)
   obtain ⟨-,c1,-,-,-⟩:=box2 (heap_below HTQ.out h)
   exact ⟨c1,b0,b1,b2,b3,a0,a1,a2,a3,a4,a5,a6,(h.cell (p:=⟨vb,vo+CI,none⟩) HVB.out).trans HV0.out⟩)
  clear hix0 hIXe hvb hvc hs0 hsv hX2 hc0 q1 q2 q3 hixl
  have hT:=HS8.out _ (Below.refl _ _).drew
  refine region_till 18 (fun w':World=>w'.cell? ⟨TB,1,none⟩=some (.slice (some ⟨vb,vo,none⟩) nv CJ)/\w'.cell? ⟨KB,0,none⟩=some (.string kt)/\w'.cell? ⟨KB,1,none⟩=some (.slice KA nf KC)/\w'.cell? ⟨KB,2,none⟩=some (.int .i64 km)/\w'.cell? ⟨KB,3,none⟩=some (.string ku)/\w'.cell? ⟨w.heap.size,0,none⟩=some (.int .u8 m)/\w'.cell? ⟨w.heap.size,1,none⟩=some (.int .u8 q)/\w'.cell? ⟨w.heap.size,2,none⟩=some (.slice A n cp)/\w'.cell? ⟨w.heap.size,3,none⟩=some (.string hd)/\w'.cell? ⟨w.heap.size,4,none⟩=some (.string rt)/\w'.cell? ⟨w.heap.size,5,none⟩=some (.string ct)/\w'.cell? ⟨w.heap.size,6,none⟩=some (.string sm)/\w'.cell? ⟨vb,vo+CI,none⟩=some (.string sv)) (by kernel_rfl) ?_
  refine Till.tk (i:=0) (v:=?_) rfl [1,2,3] hT (Or.inl ⟨by kernel_rfl,?_⟩) ?_
  rotate_left
  ·(intro w' hw';obtain ⟨u0,u1,u2,u3,u4,u5,u6,u7,u8,u9,u10,u11,u12⟩:=hw';go_simp;try with_reducible rfl)
  (try simp only [Act.put,Till.a,Till.b,Till.c])
  refine Till.tk (i:=1) (v:=?_) rfl [2,3] hT (Or.inl ⟨by kernel_rfl,?_⟩) ?_
  rotate_left
  ·(intro w' hw';obtain ⟨u0,u1,u2,u3,u4,u5,u6,u7,u8,u9,u10,u11,u12⟩:=hw';go_simp;try with_reducible rfl)
  (try simp only [Act.put,Till.a,Till.b,Till.c])
  refine Till.tk (i:=2) (v:=?_) rfl [3] hT (Or.inl ⟨by kernel_rfl,?_⟩) ?_
  rotate_left
  ·(intro w' hw';obtain ⟨u0,u1,u2,u3,u4,u5,u6,u7,u8,u9,u10,u11,u12⟩:=hw';go_simp;try with_reducible rfl)
  (try simp only [Act.put,Till.a,Till.b,Till.c])
  refine Till.tk (i:=3) (v:=?_) rfl [] hT (Or.inl ⟨by kernel_rfl,?_⟩) ?_
  rotate_left
  ·(intro w' hw';obtain ⟨u0,u1,u2,u3,u4,u5,u6,u7,u8,u9,u10,u11,u12⟩:=hw';go_simp;try with_reducible rfl)
  (try simp only [Act.put,Till.a,Till.b,Till.c])
  refine Till.tk (i:=4) (v:=?_) rfl [5,10,11,17] hT (Or.inl ⟨by kernel_rfl,?_⟩) ?_
  rotate_left
  ·(intro w' hw';obtain ⟨u0,u1,u2,u3,u4,u5,u6,u7,u8,u9,u10,u11,u12⟩:=hw';go_simp;try with_reducible rfl)
  (try simp only [Act.put,Till.a,Till.b,Till.c])
  refine Till.tk (i:=5) (v:=?_) rfl [10,11,17] hT (Or.inl ⟨by kernel_rfl,?_⟩) ?_
  rotate_left
  ·(intro w' hw';obtain ⟨u0,u1,u2,u3,u4,u5,u6,u7,u8,u9,u10,u11,u12⟩:=hw';go_simp;try with_reducible rfl)
  (try simp only [Act.put,Till.a,Till.b,Till.c])
  refine Till.tk (i:=6) (v:=?_) rfl [9,10,11,17] hT (Or.inl ⟨by kernel_rfl,?_⟩) ?_
  rotate_left
  ·(intro w' hw';obtain ⟨u0,u1,u2,u3,u4,u5,u6,u7,u8,u9,u10,u11,u12⟩:=hw';go_simp;try with_reducible rfl)
  (try simp only [Act.put,Till.a,Till.b,Till.c])
  refine Till.tk (i:=7) (v:=?_) rfl [8,9,10,11,17] hT (Or.inl ⟨by kernel_rfl,?_⟩) ?_
  rotate_left
  ·(intro w' hw';obtain ⟨u0,u1,u2,u3,u4,u5,u6,u7,u8,u9,u10,u11,u12⟩:=hw';go_simp;try with_reducible rfl)
  (try simp only [Act.put,Till.a,Till.b,Till.c])
  refine Till.tk (i:=8) (v:=?_) rfl [9,10,11,17] hT (Or.inl ⟨by kernel_rfl,?_⟩) ?_
  rotate_left
  ·(intro w' hw';obtain ⟨u0,u1,u2,u3,u4,u5,u6,u7,u8,u9,u10,u11,u12⟩:=hw';go_simp;try with_reducible rfl)
  (try simp only [Act.put,Till.a,Till.b,Till.c])
  refine Till.tk (i:=12) (v:=?_) rfl [14,16,17] hT (Or.inl ⟨by kernel_rfl,?_⟩) ?_
  rotate_left
  ·(intro w' hw';obtain ⟨u0,u1,u2,u3,u4,u5,u6,u7,u8,u9,u10,u11,u12⟩:=hw';go_simp;try with_reducible rfl)
  (try simp only [Act.put,Till.a,Till.b,Till.c])
  refine Till.tk (i:=13) (v:=?_) rfl [14,16,17] hT (Or.inl ⟨by kernel_rfl,?_⟩) ?_
  rotate_left
  ·(intro w' hw';obtain ⟨u0,u1,u2,u3,u4,u5,u6,u7,u8,u9,u10,u11,u12⟩:=hw';go_simp;try with_reducible rfl)
  (try simp only [Act.put,Till.a,Till.b,Till.c])
  refine Till.step (i:=9) (by kernel_rfl) rfl ?_
  intro K hK
  go_simp
  (go_at_call 39;refine (HCS.out _ (HW2.out _ (Below.refl _ _).drew).2.2.2.2.2.2.1).mono ?_;rintro _ wa ⟨rfl,hba⟩;(have Ua:Below wk.heap.size wk wa:=⟨hba.os,hba.tape,hba.output,hba.size,hba.block⟩))
  have hT:=HS8.out _ Ua
  refine hK.out _ _ (fun _=>hT) ?_
  clear hK K
  (try simp only [Act.put,Till.a,Till.b,Till.c])
  have hbv:(CI:Int)<(nv:Int):=by omega
  have hb0:(0:Int)<=(CI:Int):=by omega
  refine Till.tk (i:=10) (v:=?_) rfl [11,17] hT (Or.inl ⟨by kernel_rfl,?_⟩) ?_
  rotate_left
  ·(intro w' hw';obtain ⟨u0,u1,u2,u3,u4,u5,u6,u7,u8,u9,u10,u11,u12⟩:=hw';go_simp;try with_reducible rfl)
  (try simp only [Act.put,Till.a,Till.b,Till.c])
  refine Till.tk (i:=11) (v:=?_) rfl [17] hT (Or.inl ⟨by kernel_rfl,?_⟩) ?_
  rotate_left
  ·(intro w' hw';obtain ⟨u0,u1,u2,u3,u4,u5,u6,u7,u8,u9,u10,u11,u12⟩:=hw';go_simp;try with_reducible rfl)
  (try simp only [Act.put,Till.a,Till.b,Till.c])
  refine Till.step (i:=14) (by kernel_rfl) rfl ?_
  intro K hK
  go_simp
  (go_at_call 34;refine (HIN3.out _ (HW2.out _ Ua).2.2.2.2.1).mono ?_;rintro _ wb ⟨Xb,cb,RAb,RCb,rfl,-,hbb⟩;(have Ub:Below wk.heap.size wk wb:=below_then hbb Ua Ua.size))
  have hT:=HS8.out _ Ub
  refine hK.out _ _ (fun _=>hT) ?_
  clear hK K
  (try simp only [Act.put,Till.a,Till.b,Till.c])
  refine Till.tk (i:=15) (v:=?_) rfl [16,17] hT (Or.inl ⟨by kernel_rfl,?_⟩) ?_
  rotate_left
  ·(intro w' hw';obtain ⟨u0,u1,u2,u3,u4,u5,u6,u7,u8,u9,u10,u11,u12⟩:=hw';go_simp;try with_reducible rfl)
  (try simp only [Act.put,Till.a,Till.b,Till.c])
  refine Till.step (i:=16) (by kernel_rfl) rfl ?_
  intro K hK
  go_simp
  (go_at_call 19;refine (HIT.out _ (HW2.out _ Ub).2.2.2.2.2.1).mono ?_;rintro _ wd ⟨rfl,hbd⟩;(have Ud:Below wk.heap.size wk wd:=below_then hbd Ub Ub.size))
  have hT:=HS8.out _ Ud
  refine hK.out _ _ (fun _=>hT) ?_
  clear hK K
  (try simp only [Act.put,Till.a,Till.b,Till.c])
  have e3:(sv.toList==Lib.itoa (ni:Int))=X2:=by
   have h:=bytes_dec sv ⟨(Lib.itoa (ni:Int)).toArray⟩
   rw [HX2.out,Lib.toList_data ⟨(Lib.itoa (ni:Int)).toArray⟩] at h
   exact h
  refine Till.tk (i:=17) (v:=?_) rfl [] hT (Or.inl ⟨by kernel_rfl,?_⟩) ?_
  rotate_left
  ·(intro w' hw';obtain ⟨u0,u1,u2,u3,u4,u5,u6,u7,u8,u9,u10,u11,u12⟩:=hw';go_simp;try with_reducible rfl)
  (try simp only [Act.put,Till.a,Till.b,Till.c])
  refine Till.step (i:=18) (by kernel_rfl) rfl ?_
  intro K hK
  go_simp
  refine hK.out _ _ (fun _=>hT) ?_
  clear hK K
  (try simp only [Act.put,Till.a,Till.b,Till.c])
  refine Till.done (by kernel_rfl) ?_ _
  clear hT e3 hba hbb hbd Ua Ub
  go_wp2_with fail
  go_meet
  exact ⟨by rw [HE8.out],Lib.hid Ud⟩
 case rest=>
 obtain ⟨rfl,HB8⟩:=hcut
 have QB:=Lib.hid (HW2.out _ HB8.out).2.2.2.2.2.2.2
 cases hb8:B8 with
 | true=>
  have HE:=Lib.hid (show R=(0,12) by rw [<- HR2.out];exact if_pos (of_decide_eq_true (HB8e.out.trans hb8)))
  clear hb8
  go_wp2
  go_ret2
  exact ⟨by rw [HE.out];rfl,QB.out⟩
 | false=>
 have HR3:=Lib.hid ((if_neg (of_decide_eq_false (HB8e.out.trans hb8))).symm.trans HR2.out)
 clear hb8 HR2 HB8e
 obtain ⟨q1,-⟩:=HW2.out _ HB8.out
 obtain ⟨⟨p0,p1,p2,p3,p4,p5,p6⟩,-⟩:=obox7 q1
 have e5:=emp_dec sm
 by_cases hs0:sm=⟨#[]⟩
 ·have HE:=Lib.hid (show R=(0,0) by rw [<- HR3.out];exact if_pos hs0)
  rw [decide_eq_true hs0] at e5
  clear hs0 q1
  go_wp2
  go_ret2
  exact ⟨by rw [HE.out];rfl,QB.out⟩
 have HR5:=Lib.hid ((if_neg hs0).symm.trans HR3.out)
 rw [decide_eq_false hs0] at e5
 have hix0:=(HEN1.out.2.2.2.2.2.1 hs0).1
 have hixl:=(HIXL.out sm hix0).1
 have hIXe:ixF (nameIs sm) fs=(SI:Int):=by have:=HSI.out;omega
 rw [hIXe,Int.toNat_natCast] at hixl
 have HCS:=Lib.hid (fun wx h=>HCA.out sm wx h)
 rw [hIXe] at HCS
 have hcv:SI<nv:=by have:=HVN.out;omega
 have HSU2:=Lib.hid (HSU.out (HIO.out (fun j hj=>rowF_ok (HRZ1.out j hj))) (by have:=HIL.out;omega))
 have HSFF:=Lib.hid (show ∀ wx,Below wk.heap.size wk wx->(fun w':World=>w'.cell? ⟨w.heap.size,0,none⟩=some (.int .u8 m)/\w'.cell? ⟨w.heap.size,1,none⟩=some (.int .u8 q)/\w'.cell? ⟨w.heap.size,2,none⟩=some (.slice A n cp)/\w'.cell? ⟨w.heap.size,3,none⟩=some (.string hd)/\w'.cell? ⟨w.heap.size,4,none⟩=some (.string rt)/\w'.cell? ⟨w.heap.size,5,none⟩=some (.string ct)/\w'.cell? ⟨w.heap.size,6,none⟩=some (.string sm)) wx from fun wx h=>(obox7 (HW2.out wx h).1).1)
 clear hs0 hix0 hixl hIXe q1 HR3 HSU QB
 go_upto_region 12 with fail
 have hT:=HSFF.out _ HB8.out.drew
 refine region_till 4 (fun w':World=>w'.cell? ⟨w.heap.size,0,none⟩=some (.int .u8 m)/\w'.cell? ⟨w.heap.size,1,none⟩=some (.int .u8 q)/\w'.cell? ⟨w.heap.size,2,none⟩=some (.slice A n cp)/\w'.cell? ⟨w.heap.size,3,none⟩=some (.string hd)/\w'.cell? ⟨w.heap.size,4,none⟩=some (.string rt)/\w'.cell? ⟨w.heap.size,5,none⟩=some (.string ct)/\w'.cell? ⟨w.heap.size,6,none⟩=some (.string sm)) (by kernel_rfl) ?_
 refine Till.tk (i:=0) (v:=?_) rfl [] hT (Or.inl ⟨by rfl,?_⟩) ?_
 rotate_left
 ·(intro w' hw';obtain ⟨u0,u1,u2,u3,u4,u5,u6⟩:=hw';go_simp;try with_reducible rfl)
 (try simp only [Act.put,Till.a,Till.b,Till.c])
 refine Till.tk (i:=1) (v:=?_) rfl [3] hT (Or.inl ⟨by rfl,?_⟩) ?_
 rotate_left
 ·(intro w' hw';obtain ⟨u0,u1,u2,u3,u4,u5,u6⟩:=hw';go_simp;try with_reducible rfl)
 (try simp only [Act.put,Till.a,Till.b,Till.c])
 refine Till.tk (i:=2) (v:=?_) rfl [3] hT (Or.inl ⟨by rfl,?_⟩) ?_
 rotate_left
 ·(intro w' hw';obtain ⟨u0,u1,u2,u3,u4,u5,u6⟩:=hw';go_simp;try with_reducible rfl)
 (try simp only [Act.put,Till.a,Till.b,Till.c])
 refine Till.step (i:=3) (by kernel_rfl) rfl ?_
 intro K hK
 go_simp
 (go_at_call 34;refine (HIN2.out _ (HW2.out _ HB8.out.drew).2.2.2.2.1).mono ?_;rintro _ w4 ⟨X4,c4,RA4,RC4,rfl,hrm4,hb4⟩;(have T4:Below wk.heap.size wk w4:=below_then hb4 HB8.out.drew HB8.out.drew.size))
 have hT:=HSFF.out _ T4
 refine hK.out _ _ (fun _=>hT) ?_
 clear hK K
 (try simp only [Act.put,Till.a,Till.b,Till.c])
 refine Till.step (i:=4) (by kernel_rfl) rfl ?_
 intro K hK
 go_simp
 (go_at_call 33;refine (HSF.out X4 c4 RA4 RC4 _ (HW2.out _ T4).2.2.2.1 hrm4).mono ?_;rintro _ w5 ⟨rfl,hb5⟩;(have T5:Below wk.heap.size wk w5:=below_then hb5 T4 T4.size))
 have hT:=HSFF.out _ T5
 refine hK.out _ _ (fun _=>hT) ?_
 clear hK K
 (try simp only [Act.put,Till.a,Till.b,Till.c])
 refine Till.done (by kernel_rfl) ?_ _
 have HB9:=Lib.hid T5
 clear T5 T4 hT hrm4 hb4 hb5 HB8 HSF
 cases hSB:SB with
 | true=>
  have HE:=Lib.hid (show R=(1,6) by rw [<- HR5.out,hSB,if_pos rfl])
  have hB:=(HW2.out _ HB9.out).2.2.2.2.2.2.2
  clear hSB
  go_wp2
  go_ret2
  exact ⟨by rw [HE.out];rfl,hB⟩
 | false=>
 have HR6:=Lib.hid (show (if SD.2.2≠0 then (1,SD.2.2) else if wd TV SI≠SS then (1,12) else (0,0))=R by rw [<- HR5.out,hSB,if_neg (c:=false=true) (by decide)])
 clear hSB HR5
 go_upto_region 14 with fail
 go_cut [11,12] (fun v b wx=>∃ DB,v=.pointer (some ⟨DB,0,none⟩)/\b=.int .i64 SD.2.2/\Hid (wx.heap[DB]?=some (.cells #[.int .i64 SD.1,.int .i64 SD.2.1] 31 (0,0)))/\Hid (Below wk.heap.size wk wx))
 case first=>
  have hT:=HSFF.out _ HB9.out.drew
  refine region_till 12 (fun w':World=>w'.cell? ⟨w.heap.size,0,none⟩=some (.int .u8 m)/\w'.cell? ⟨w.heap.size,1,none⟩=some (.int .u8 q)/\w'.cell? ⟨w.heap.size,2,none⟩=some (.slice A n cp)/\w'.cell? ⟨w.heap.size,3,none⟩=some (.string hd)/\w'.cell? ⟨w.heap.size,4,none⟩=some (.string rt)/\w'.cell? ⟨w.heap.size,5,none⟩=some (.string ct)/\w'.cell? ⟨w.heap.size,6,none⟩=some (.string sm)) (by kernel_rfl) ?_
  refine Till.tk (i:=0) (v:=?_) rfl [6,11] hT (Or.inl ⟨by rfl,?_⟩) ?_
  rotate_left
  ·(intro w' hw';obtain ⟨u0,u1,u2,u3,u4,u5,u6⟩:=hw';go_simp;try with_reducible rfl)
  (try simp only [Act.put,Till.a,Till.b,Till.c])
  refine Till.tk (i:=1) (v:=?_) rfl [3,6,11] hT (Or.inl ⟨by rfl,?_⟩) ?_
  rotate_left
  ·(intro w' hw';obtain ⟨u0,u1,u2,u3,u4,u5,u6⟩:=hw';go_simp;try with_reducible rfl)
  (try simp only [Act.put,Till.a,Till.b,Till.c])
  refine Till.tk (i:=2) (v:=?_) rfl [3,6,11] hT (Or.inl ⟨by rfl,?_⟩) ?_
  rotate_left
  ·(intro w' hw';obtain ⟨u0,u1,u2,u3,u4,u5,u6⟩:=hw';go_simp;try with_reducible rfl)
  (try simp only [Act.put,Till.a,Till.b,Till.c])
  refine Till.tk (i:=4) (v:=?_) rfl [5,6,11] hT (Or.inl ⟨by rfl,?_⟩) ?_
  rotate_left
  ·(intro w' hw';obtain ⟨u0,u1,u2,u3,u4,u5,u6⟩:=hw';go_simp;try with_reducible rfl)
  (try simp only [Act.put,Till.a,Till.b,Till.c])
  refine Till.tk (i:=5) (v:=?_) rfl [6,11] hT (Or.inl ⟨by rfl,?_⟩) ?_
  rotate_left
  ·(intro w' hw';obtain ⟨u0,u1,u2,u3,u4,u5,u6⟩:=hw';go_simp;try with_reducible rfl)
  (try simp only [Act.put,Till.a,Till.b,Till.c])
  refine Till.forkC (i:=3) (j:=10) (by kernel_rfl) rfl rfl ?_ ?_
  ·intro KK hKK
   go_simp
   (go_at_call 34;refine (HIN2.out _ (HW2.out _ (HB9.out.drew)).2.2.2.2.1).mono ?_;rintro _ wa ⟨Xa,ca,RAa,RCa,rfl,hrma,hba⟩;(have Ta:Below wk.heap.size wk wa:=below_then hba (HB9.out.drew) (HB9.out.drew).size))
   have hT:=HSFF.out _ Ta
   refine hKK.out _ _ (fun _=>hT) ?_
   clear hKK KK
   (try simp only [Act.put,Till.a,Till.b,Till.c])
   refine Till.forkC (i:=6) (j:=10) (by kernel_rfl) rfl rfl ?_ ?_
   ·intro KK hKK
    go_simp
    (go_at_call 37;refine (HSU2.out Xa ca RAa RCa _ (HW2.out _ (Ta)).2.2.2.1 (hrma)).mono ?_;rintro _ wb ⟨rfl,hbb⟩;(have Tb:Below wk.heap.size wk wb:=below_then hbb (Ta) (Ta).size))
    have hT:=HSFF.out _ Tb
    refine hKK.out _ _ (fun _=>hT) ?_
    clear hKK KK
    (try simp only [Act.put,Till.a,Till.b,Till.c])
    refine Till.tk (i:=7) (v:=?_) rfl [9] hT (Or.inl ⟨by rfl,?_⟩) ?_
    rotate_left
    ·(intro w' hw';obtain ⟨u0,u1,u2,u3,u4,u5,u6⟩:=hw';go_simp;try with_reducible rfl)
    (try simp only [Act.put,Till.a,Till.b,Till.c])
    refine Till.tk (i:=8) (v:=?_) rfl [11] hT (Or.inl ⟨by rfl,?_⟩) ?_
    rotate_left
    ·(intro w' hw';obtain ⟨u0,u1,u2,u3,u4,u5,u6⟩:=hw';go_simp;try with_reducible rfl)
    (try simp only [Act.put,Till.a,Till.b,Till.c])
    refine Till.tk (i:=9) (v:=?_) rfl [] hT (Or.inl ⟨by rfl,?_⟩) ?_
    rotate_left
    ·(intro w' hw';obtain ⟨u0,u1,u2,u3,u4,u5,u6⟩:=hw';go_simp;try with_reducible rfl)
    (try simp only [Act.put,Till.a,Till.b,Till.c])
    refine Till.step (i:=10) (by kernel_rfl) rfl ?_
    intro K hK
    go_simp
    have hT:(fun w':World=>w'.cell? ⟨w.heap.size,0,none⟩=some (.int .u8 m)/\w'.cell? ⟨w.heap.size,1,none⟩=some (.int .u8 q)/\w'.cell? ⟨w.heap.size,2,none⟩=some (.slice A n cp)/\w'.cell? ⟨w.heap.size,3,none⟩=some (.string hd)/\w'.cell? ⟨w.heap.size,4,none⟩=some (.string rt)/\w'.cell? ⟨w.heap.size,5,none⟩=some (.string ct)/\w'.cell? ⟨w.heap.size,6,none⟩=some (.string sm)) (wb.alloc (.cells #[.int .i64 0,.int .i64 0] 31)):=HSFF.out _ (Tb.alloc Tb.size _)
    refine hK.out _ _ (fun _=>hT) ?_
    clear hK K
    (try simp only [Act.put,Till.a,Till.b,Till.c])
    have HZ:=Lib.hid (heap_new wb (.cells #[.int .i64 0,.int .i64 0] 31) rfl)
    have HBX:Hid (Below wk.heap.size wk (wb.alloc (.cells #[.int .i64 0,.int .i64 0] 31))):=Lib.hid (Tb.alloc Tb.size _)
    have hDB:=Tb.size
    obtain ⟨DB,hDBe⟩:∃ x,wb.heap.size=x:=⟨_,rfl⟩
    rw [hDBe] at HZ hDB
    try rw [hDBe]
    generalize wb.alloc (.cells #[.int .i64 0,.int .i64 0] 31)=wx at HZ HBX hT ⊢
    clear hDBe
    obtain ⟨z0,z1,z2,z3,z4⟩:=box2 HZ.out
    refine Till.step (i:=11) (by kernel_rfl) rfl ?_
    intro K hK
    go_simp
    have HBS:Hid (Below wk.heap.size wk ((wx.setCell ⟨DB,0,none⟩ (.int .i64 SD.1)).setCell ⟨DB,1,none⟩ (.int .i64 SD.2.1))):=Lib.hid (((HBX.out).setCell (p:=⟨DB,0,none⟩) (hDB) _).setCell (p:=⟨DB,1,none⟩) (hDB) _)
    have hT:=HSFF.out _ HBS.out
    refine hK.out _ _ (fun _=>hT) ?_
    clear hK K
    (try simp only [Act.put,Till.a,Till.b,Till.c])
    refine Till.step (i:=12) (by kernel_rfl) rfl ?_
    intro K hK
    go_simp
    refine hK.out _ _ (fun h=>absurd h (by decide)) ?_
    clear hK K
    (try simp only [Act.put,Till.a,Till.b,Till.c])
    refine Till.done (by kernel_rfl) ?_ _
    go_wp2_with fail
    go_meet
    exact ⟨DB,rfl,rfl,Lib.hid (heap_set (heap_set HZ.out 0 _) 1 _),HBS⟩
   ·intro KK hKK
    go_simp
    have hT:(fun w':World=>w'.cell? ⟨w.heap.size,0,none⟩=some (.int .u8 m)/\w'.cell? ⟨w.heap.size,1,none⟩=some (.int .u8 q)/\w'.cell? ⟨w.heap.size,2,none⟩=some (.slice A n cp)/\w'.cell? ⟨w.heap.size,3,none⟩=some (.string hd)/\w'.cell? ⟨w.heap.size,4,none⟩=some (.string rt)/\w'.cell? ⟨w.heap.size,5,none⟩=some (.string ct)/\w'.cell? ⟨w.heap.size,6,none⟩=some (.string sm)) (wa.alloc (.cells #[.int .i64 0,.int .i64 0] 31)):=HSFF.out _ (Ta.alloc Ta.size _)
    refine hKK.out _ _ (fun _=>hT) ?_
    clear hKK KK
    (try simp only [Act.put,Till.a,Till.b,Till.c])
    refine Till.step (i:=6) (by kernel_rfl) rfl ?_
    intro K hK
    go_simp
    (go_at_call 37;refine (HSU2.out Xa ca RAa RCa _ (HW2.out _ (Ta.alloc Ta.size _)).2.2.2.1 (hrma.below (by go_grown))).mono ?_;rintro _ wb ⟨rfl,hbb⟩;(have Tb:Below wk.heap.size wk wb:=below_then hbb (Ta.alloc Ta.size _) (Ta.alloc Ta.size _).size))
    have hT:=HSFF.out _ Tb
    refine hK.out _ _ (fun _=>hT) ?_
    clear hK K
    (try simp only [Act.put,Till.a,Till.b,Till.c])
    refine Till.tk (i:=7) (v:=?_) rfl [9] hT (Or.inl ⟨by rfl,?_⟩) ?_
    rotate_left
    ·(intro w' hw';obtain ⟨u0,u1,u2,u3,u4,u5,u6⟩:=hw';go_simp;try with_reducible rfl)
    (try simp only [Act.put,Till.a,Till.b,Till.c])
    refine Till.tk (i:=8) (v:=?_) rfl [11] hT (Or.inl ⟨by rfl,?_⟩) ?_
    rotate_left
    ·(intro w' hw';obtain ⟨u0,u1,u2,u3,u4,u5,u6⟩:=hw';go_simp;try with_reducible rfl)
    (try simp only [Act.put,Till.a,Till.b,Till.c])
    refine Till.tk (i:=9) (v:=?_) rfl [] hT (Or.inl ⟨by rfl,?_⟩) ?_
    rotate_left
    ·(intro w' hw';obtain ⟨u0,u1,u2,u3,u4,u5,u6⟩:=hw';go_simp;try with_reducible rfl)
    (try simp only [Act.put,Till.a,Till.b,Till.c])
    have HZ:=Lib.hid (heap_below (heap_new wa (.cells #[.int .i64 0,.int .i64 0] 31) rfl) hbb)
    obtain ⟨z0,z1,z2,z3,z4⟩:=box2 HZ.out
    refine Till.step (i:=11) (by kernel_rfl) rfl ?_
    intro K hK
    go_simp
    have HBS:Hid (Below wk.heap.size wk ((wb.setCell ⟨wa.heap.size,0,none⟩ (.int .i64 SD.1)).setCell ⟨wa.heap.size,1,none⟩ (.int .i64 SD.2.1))):=Lib.hid (((Tb).setCell (p:=⟨wa.heap.size,0,none⟩) (Ta.size) _).setCell (p:=⟨wa.heap.size,1,none⟩) (Ta.size) _)
    have hT:=HSFF.out _ HBS.out
    refine hK.out _ _ (fun _=>hT) ?_
    clear hK K
    (try simp only [Act.put,Till.a,Till.b,Till.c])
    refine Till.step (i:=12) (by kernel_rfl) rfl ?_
    intro K hK
    go_simp
    refine hK.out _ _ (fun h=>absurd h (by decide)) ?_
    clear hK K
    (try simp only [Act.put,Till.a,Till.b,Till.c])
    refine Till.done (by kernel_rfl) ?_ _
    go_wp2_with fail
    go_meet
    exact ⟨wa.heap.size,rfl,rfl,Lib.hid (heap_set (heap_set HZ.out 0 _) 1 _),HBS⟩
  ·intro KK hKK
   go_simp
   have hBa:Below wk.heap.size wk (w5.alloc (.cells #[.int .i64 0,.int .i64 0] 31)).drew:=(HB9.out.alloc HB9.out.size _).drew
   have hT:=HSFF.out _ hBa
   refine hKK.out _ _ (fun _=>hT) ?_
   clear hKK KK
   (try simp only [Act.put,Till.a,Till.b,Till.c])
   refine Till.step (i:=3) (by kernel_rfl) rfl ?_
   intro K hK
   go_simp
   (go_at_call 34;refine (HIN2.out _ (HW2.out _ (hBa)).2.2.2.2.1).mono ?_;rintro _ wa ⟨Xa,ca,RAa,RCa,rfl,hrma,hba⟩;(have Ta:Below wk.heap.size wk wa:=below_then hba (hBa) (hBa).size))
   have hT:=HSFF.out _ Ta
   refine hK.out _ _ (fun _=>hT) ?_
   clear hK K
   (try simp only [Act.put,Till.a,Till.b,Till.c])
   refine Till.step (i:=6) (by kernel_rfl) rfl ?_
   intro K hK
   go_simp
   (go_at_call 37;refine (HSU2.out Xa ca RAa RCa _ (HW2.out _ (Ta)).2.2.2.1 (hrma)).mono ?_;rintro _ wb ⟨rfl,hbb⟩;(have Tb:Below wk.heap.size wk wb:=below_then hbb (Ta) (Ta).size))
   have hT:=HSFF.out _ Tb
   refine hK.out _ _ (fun _=>hT) ?_
   clear hK K
   (try simp only [Act.put,Till.a,Till.b,Till.c])
   refine Till.tk (i:=7) (v:=?_) rfl [9] hT (Or.inl ⟨by rfl,?_⟩) ?_
   rotate_left
   ·(intro w' hw';obtain ⟨u0,u1,u2,u3,u4,u5,u6⟩:=hw';go_simp;try with_reducible rfl)
   (try simp only [Act.put,Till.a,Till.b,Till.c])
   refine Till.tk (i:=8) (v:=?_) rfl [11] hT (Or.inl ⟨by rfl,?_⟩) ?_
   rotate_left
   ·(intro w' hw';obtain ⟨u0,u1,u2,u3,u4,u5,u6⟩:=hw';go_simp;try with_reducible rfl)
   (try simp only [Act.put,Till.a,Till.b,Till.c])
   refine Till.tk (i:=9) (v:=?_) rfl [] hT (Or.inl ⟨by rfl,?_⟩) ?_
   rotate_left
   ·(intro w' hw';obtain ⟨u0,u1,u2,u3,u4,u5,u6⟩:=hw';go_simp;try with_reducible rfl)
   (try simp only [Act.put,Till.a,Till.b,Till.c])
   have HZ:=Lib.hid (heap_below (heap_below (show (w5.alloc (.cells #[.int .i64 0,.int .i64 0] 31)).drew.heap[w5.heap.size]?=_ from heap_new w5 (.cells #[.int .i64 0,.int .i64 0] 31) rfl) hba) hbb)
   obtain ⟨z0,z1,z2,z3,z4⟩:=box2 HZ.out
   refine Till.step (i:=11) (by kernel_rfl) rfl ?_
   intro K hK
   go_simp
   have HBS:Hid (Below wk.heap.size wk ((wb.setCell ⟨w5.heap.size,0,none⟩ (.int .i64 SD.1)).setCell ⟨w5.heap.size,1,none⟩ (.int .i64 SD.2.1))):=Lib.hid (((Tb).setCell (p:=⟨w5.heap.size,0,none⟩) (HB9.out.size) _).setCell (p:=⟨w5.heap.size,1,none⟩) (HB9.out.size) _)
   have hT:=HSFF.out _ HBS.out
   refine hK.out _ _ (fun _=>hT) ?_
   clear hK K
   (try simp only [Act.put,Till.a,Till.b,Till.c])
   refine Till.step (i:=12) (by kernel_rfl) rfl ?_
   intro K hK
   go_simp
   refine hK.out _ _ (fun h=>absurd h (by decide)) ?_
   clear hK K
   (try simp only [Act.put,Till.a,Till.b,Till.c])
   refine Till.done (by kernel_rfl) ?_ _
   go_wp2_with fail
   go_meet
   exact ⟨w5.heap.size,rfl,rfl,Lib.hid (heap_set (heap_set HZ.out 0 _) 1 _),HBS⟩
 case rest=>
 clear HB9
 obtain ⟨DB,rfl,rfl,HD,HBD⟩:=hcut
 have QB:=Lib.hid (HW2.out _ HBD.out).2.2.2.2.2.2.2
 by_cases hse:SD.2.2=0
 case neg=>
  have HE:=Lib.hid (show R=(1,SD.2.2) by rw [<- HR6.out,if_pos hse])
  have h1:(SD.2.2 !=0)=true:=by simpa using hse
  clear hse
  go_wp2
  go_ret2
  exact ⟨by rw [HE.out];rfl,QB.out⟩
 have h1:(SD.2.2 !=0)=false:=by rw [hse];rfl
 have HR7:=Lib.hid ((if_neg (fun h=>h hse)).symm.trans HR6.out)
 obtain ⟨q1,q2,q3,-,-,-,qw,-⟩:=HW2.out _ HBD.out
 obtain ⟨vb,vo,rfl,hvb,hvc⟩:=(HRJ.out _ qw).vals (by show 0<TV.length;rw [HNV.out];omega)
 have hs0:=hvc SI (by show SI<TV.length;rw [HNV.out];exact hcv)
 simp only at hs0
 obtain ⟨sv,hsv⟩:∃ x,wd TV SI=x:=⟨_,rfl⟩
 rw [hsv] at hs0 HR7
 obtain ⟨X3,hX3⟩:∃ x,decide (sv=SS)=x:=⟨_,rfl⟩
 have HX3:=Lib.hid hX3
 have HTD:=Lib.hid (fun wx=>told6_c SD.1 SD.2.1 wx)
 have HP:=Lib.hid q1;have HKQ:=Lib.hid q2;have HTQ:=Lib.hid q3;have HV0:=Lib.hid hs0;have HVB:=Lib.hid hvb
 have HS17:=Lib.hid (show ∀ wx,Below wc.heap.size wc wx->(fun w':World=>w'.cell? ⟨TB,1,none⟩=some (.slice (some ⟨vb,vo,none⟩) nv CJ)/\w'.cell? ⟨KB,0,none⟩=some (.string kt)/\w'.cell? ⟨KB,1,none⟩=some (.slice KA nf KC)/\w'.cell? ⟨KB,2,none⟩=some (.int .i64 km)/\w'.cell? ⟨KB,3,none⟩=some (.string ku)/\w'.cell? ⟨w.heap.size,6,none⟩=some (.string sm)/\w'.cell? ⟨vb,vo+SI,none⟩=some (.string sv)/\w'.cell? ⟨DB,0,none⟩=some (.int .i64 SD.1)/\w'.cell? ⟨DB,1,none⟩=some (.int .i64 SD.2.1)) wx from fun wx h=>by
  obtain ⟨⟨-,-,-,-,-,-,a6⟩,-⟩:=obox7 (heap_below HP.out h)
  obtain ⟨⟨b0,b1,b2,b3⟩,-,-⟩:=obox4 (heap_below HKQ.out h)
  obtain ⟨-,c1,-,-,-⟩:=box2 (heap_below HTQ.out h)
  obtain ⟨d0,d1,-,-,-⟩:=box2 (heap_below HD.out h)
  exact ⟨c1,b0,b1,b2,b3,a6,(h.cell (p:=⟨vb,vo+SI,none⟩) HVB.out).trans HV0.out,d0,d1⟩)
 clear hse HR6 q1 q2 q3 qw hvb hvc hs0 hsv hX3 QB
 go_upto_region 17 with fail
 have hT:=HS17.out _ (Below.refl _ _).drew
 refine region_till 10 (fun w':World=>w'.cell? ⟨TB,1,none⟩=some (.slice (some ⟨vb,vo,none⟩) nv CJ)/\w'.cell? ⟨KB,0,none⟩=some (.string kt)/\w'.cell? ⟨KB,1,none⟩=some (.slice KA nf KC)/\w'.cell? ⟨KB,2,none⟩=some (.int .i64 km)/\w'.cell? ⟨KB,3,none⟩=some (.string ku)/\w'.cell? ⟨w.heap.size,6,none⟩=some (.string sm)/\w'.cell? ⟨vb,vo+SI,none⟩=some (.string sv)/\w'.cell? ⟨DB,0,none⟩=some (.int .i64 SD.1)/\w'.cell? ⟨DB,1,none⟩=some (.int .i64 SD.2.1)) (by kernel_rfl) ?_
 refine Till.tk (i:=0) (v:=?_) rfl [1,6,7] hT (Or.inl ⟨by rfl,?_⟩) ?_
 rotate_left
 ·(intro w' hw';obtain ⟨u0,u1,u2,u3,u4,u5,u6,u7,u8⟩:=hw';go_simp;try with_reducible rfl)
 (try simp only [Act.put,Till.a,Till.b,Till.c])
 refine Till.tk (i:=1) (v:=?_) rfl [6,7] hT (Or.inl ⟨by rfl,?_⟩) ?_
 rotate_left
 ·(intro w' hw';obtain ⟨u0,u1,u2,u3,u4,u5,u6,u7,u8⟩:=hw';go_simp;try with_reducible rfl)
 (try simp only [Act.put,Till.a,Till.b,Till.c])
 refine Till.tk (i:=2) (v:=?_) rfl [5,9] hT (Or.inl ⟨by rfl,?_⟩) ?_
 rotate_left
 ·(intro w' hw';obtain ⟨u0,u1,u2,u3,u4,u5,u6,u7,u8⟩:=hw';go_simp;try with_reducible rfl)
 (try simp only [Act.put,Till.a,Till.b,Till.c])
 refine Till.tk (i:=3) (v:=?_) rfl [4,5,9] hT (Or.inl ⟨by rfl,?_⟩) ?_
 rotate_left
 ·(intro w' hw';obtain ⟨u0,u1,u2,u3,u4,u5,u6,u7,u8⟩:=hw';go_simp;try with_reducible rfl)
 (try simp only [Act.put,Till.a,Till.b,Till.c])
 refine Till.tk (i:=4) (v:=?_) rfl [5,9] hT (Or.inl ⟨by rfl,?_⟩) ?_
 rotate_left
 ·(intro w' hw';obtain ⟨u0,u1,u2,u3,u4,u5,u6,u7,u8⟩:=hw';go_simp;try with_reducible rfl)
 (try simp only [Act.put,Till.a,Till.b,Till.c])
 refine Till.tk (i:=8) (v:=?_) rfl [9] hT (Or.inl ⟨by rfl,?_⟩) ?_
 rotate_left
 ·(intro w' hw';obtain ⟨u0,u1,u2,u3,u4,u5,u6,u7,u8⟩:=hw';go_simp;try with_reducible rfl)
 (try simp only [Act.put,Till.a,Till.b,Till.c])
 refine Till.step (i:=5) (by kernel_rfl) rfl ?_
 intro K hK
 go_simp
 (go_at_call 39;refine (HCS.out _ (HW2.out _ HBD.out.drew).2.2.2.2.2.2.1).mono ?_;rintro _ wa ⟨rfl,hba⟩;(have Ua:Below wc.heap.size wc wa:=⟨hba.os,hba.tape,hba.output,hba.size,hba.block⟩))
 have hT:=HS17.out _ Ua
 refine hK.out _ _ (fun _=>hT) ?_
 clear hK K
 (try simp only [Act.put,Till.a,Till.b,Till.c])
 have hbv:(SI:Int)<(nv:Int):=by omega
 have hb0:(0:Int)<=(SI:Int):=by omega
 refine Till.tk (i:=6) (v:=?_) rfl [7] hT (Or.inl ⟨by rfl,?_⟩) ?_
 rotate_left
 ·(intro w' hw';obtain ⟨u0,u1,u2,u3,u4,u5,u6,u7,u8⟩:=hw';go_simp;try with_reducible rfl)
 (try simp only [Act.put,Till.a,Till.b,Till.c])
 refine Till.tk (i:=7) (v:=?_) rfl [] hT (Or.inl ⟨by rfl,?_⟩) ?_
 rotate_left
 ·(intro w' hw';obtain ⟨u0,u1,u2,u3,u4,u5,u6,u7,u8⟩:=hw';go_simp;try with_reducible rfl)
 (try simp only [Act.put,Till.a,Till.b,Till.c])
 refine Till.step (i:=9) (by kernel_rfl) rfl ?_
 intro K hK
 go_simp
 (go_at_call 38;refine (HTD.out _).mono ?_;rintro _ wb ⟨tv,rfl,htv,hbb⟩;(have Ub:Below wc.heap.size wc wb:=below_then hbb Ua Ua.size))
 have hT:=HS17.out _ Ub
 refine hK.out _ _ (fun _=>hT) ?_
 clear hK K
 (try simp only [Act.put,Till.a,Till.b,Till.c])
 have htv2:tv=SS:=(bs_of htv).trans HSS.out
 have e3:=bytes_dec sv tv
 rw [htv2,HX3.out] at e3
 rw [htv2]
 refine Till.step (i:=10) (by kernel_rfl) rfl ?_
 intro K hK
 go_simp
 refine hK.out _ _ (fun _=>hT) ?_
 clear hK K
 (try simp only [Act.put,Till.a,Till.b,Till.c])
 refine Till.done (by kernel_rfl) ?_ _
 have HBU:=Lib.hid (below_then Ub HBD.out HBD.out.size)
 have QB:=Lib.hid (HW2.out _ HBU.out).2.2.2.2.2.2.2
 clear hT e3 hba hbb htv Ua Ub htv2
 cases hx:X3 with
 | true=>
  have hse:=of_decide_eq_true (HX3.out.trans hx)
  have HE:=Lib.hid (show R=(0,0) by rw [<- HR7.out];exact if_neg (fun h=>h hse))
  clear hx hse
  go_wp2
  go_ret2
  exact ⟨by rw [HE.out];rfl,QB.out⟩
 | false=>
  have hse:=of_decide_eq_false (HX3.out.trans hx)
  have HE:=Lib.hid (show R=(1,12) by rw [<- HR7.out];exact if_pos hse)
  clear hx hse
  go_wp2
  go_ret2
  exact ⟨by rw [HE.out];rfl,QB.out⟩
end Go.Proofs.YtbfbgappinilmaaGreatDoor
