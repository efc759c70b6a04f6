
/- The walk of the reference's CheckTotals. (Printed by genCH.py.) -/
import Derived.Test.YtaiabjiehpcaoaaGreatDoorCF
import Derived.Test.YtaiabjiehpcaoaaGreatDoorCD
import Derived.Test.YtaiabjiehpcaoaaGreatDoorC9
set_option maxHeartbeats 8000000
set_option maxRecDepth 100000
namespace Go.Proofs.YtaiabjiehpcaoaaGreatDoor
open Go.RowKit Limb Nmb Work
set_option linter.unusedVariables false
set_option linter.unusedSimpArgs false
theorem toldL_textR {z:Int} (h:(fewF z 9).2.2=0):toldL (fewF z 9)=QbV (fewF z 9).1 (fewF z 9).2.1:=by
 obtain ⟨u,q,e,hq,h1,h2⟩:=few_ok (Nat.le_refl 9) h
 rw [e]
 unfold toldL QbV
 rw [if_pos rfl,if_pos]
 unfold decB
 simp only [Bool.and_eq_true,decide_eq_true_eq]
 omega
theorem rCheckTotals_c (f:Fmt) (A:Option Addr) (cp:Nat) (FA:Nat->Option Addr) (FC:Nat->Nat) (L:Option Addr) (LC:Nat) (rs:List RowP) (RA:Nat->Option Addr) (RC:Nat->Nat) (w:World) (ho:Kinds w A f.kinds FA FC) (hl:RowsM w L rs RA RC) (hLC:rs.length<=LC) (hLM:LC<=9223372036854775807) (hlim:rs.length<=1000000000000000) (hcp:f.kinds.length<=cp) (hm:0<=f.mark/\f.mark<=255) (hq:0<=f.quote/\f.quote<=255) (ht:Tab w) :
  Calls Tryz.prog 15 #[fmtG f A cp,.slice L rs.length LC] w (Qbk (totF f rs).1 (totF f rs).2 w):=by
 have HOR:=Hd (fun w h h2 ht=>rCheckOrder_c f A cp FA FC L LC rs RA RC w h h2 hLC hLM hcp hm hq ht)
 have HOK:=Hd (fun h=>ordF_ok (f:=f) (rs:=rs) h)
 have HCN:=Hd (fun w h=>rcount_c f A cp L LC rs RA RC w h)
 have HKA:=Hd (fun w h=>Qbg f A cp FA FC f.tail w h)
 have HSU:=Hd (fun hrk hks w h h2=>rsum_c f A cp FA FC L LC rs RA RC w h h2 hcp hrk hlim hks)
 have HZB:=Hd (sznL_bd f hlim rs.length (Nat.le_refl _))
 rw [sznL_end] at HZB
 have HTO:=Hd (fun w s A n c h hz ht=>told_c w (s:=s) (A:=A) (n:=n) (c:=c) (z:=Qa8 f ⟨#[]⟩ f.sum (innL f rs) (innL f rs).length) h hz ht)
 have HTX:=Hd (fun h=>toldL_textR (z:=Qa8 f ⟨#[]⟩ f.sum (innL f rs) (innL f rs).length) h)
 have HKC:=Hd (QaX f FA FC f.tail)
 have HFK:=Hd (fun h=>checkF_ok (f:=f) h)
 have HEN:=Hd (fun h=>endsF_out (QbL (f:=f) h))
 have HRZ:=Hd (fun h=>QbG (f:=f) (rs:=rs) h)
 have HIL:=Hd (inn_len f rs)
 have HLA:=Hd (show QbM f rs=(decide (0<rs.length)&&decide ((rA rs (rs.length-1)).tag=f.tail)) from rfl)
 have HSBE:=Hd (show sumB f (innL f rs)=(decide (f.sum≠⟨#[]⟩)&&(innL f rs).any (badB f)) from rfl)
 have HK:=Hd ho;have HLM:=Hd hl;have HTB:=Hd ht
 obtain ⟨R,hR⟩:=ex_ (totF f rs)
 have HR:=Hd hR
 unfold totF cntI sumI cntS sumS sumD at HR
 rw [hR]
 clear hR ho hl ht
 obtain ⟨⟨OI,OE⟩,hOE⟩:=ex_ (ordF f rs)
 obtain ⟨Z,hZ⟩:=ex_ (Qa8 f ⟨#[]⟩ f.sum (innL f rs) (innL f rs).length)
 obtain ⟨AB,hAB⟩:=ex_ ((innL f rs).any (badB f))
 obtain ⟨SB,hSB⟩:=ex_ (sumB f (innL f rs))
 rw [hOE,hZ,hSB] at HR
 rw [hOE] at HOR HOK
 rw [hZ] at HSU HZB HTO HTX
 rw [hAB] at HSU HSBE
 rw [hSB] at HSBE
 obtain ⟨ni,hni⟩:=ex_ ((innL f rs).length)
 rw [hni] at HR HCN HIL
 obtain ⟨SD,hSD⟩:=ex_ (fewF Z 9)
 rw [hSD] at HR HTO HTX
 simp only at HR HOR HOK
 clear hOE hZ hAB hSB hni hSD
 unfold Qbk at HOR ⊢
 unfold RetI at HCN
 unfold RetSu at HSU
 unfold RetST at HTO
 obtain ⟨SF,hSF⟩:=ex_ ((if AB=true then (6:Int) else 0))
 rw [hSF] at HSU
 have HSFE:=Hd hSF
 clear hSF
 obtain ⟨m,q,ks,hd,tl,ct,sm⟩:=f
 unfold fmtG at HOR HCN HKA HSU ⊢
 simp only at HOR HCN HKA HSU HR HK HKC HEN HLA HSBE hcp hm ⊢
 have hnk:=HK.out.1.2
 obtain ⟨nk,hnk2⟩:=ex_ (ks.length)
 have HNK:=Hd hnk2
 rw [hnk2] at HOR HCN HKA HSU hcp hnk ⊢
 clear hnk2
 obtain ⟨nr,hnr2⟩:=ex_ (rs.length)
 have HNR:=Hd hnr2
 rw [hnr2] at HOR HCN HSU HR HLA HIL hLC hlim ⊢
 clear hnr2
 have hP:=Qac w (.cells #[.int .u8 m,.int .u8 q,.slice A nk cp,.string hd,.string tl,.string ct,.string sm] 24) rfl
 have hB1:Below w.heap.size w (w.alloc (.cells #[.int .u8 m,.int .u8 q,.slice A nk cp,.string hd,.string tl,.string ct,.string sm] 24)):=by go_grown
 go_enter Tryz.func15,Tryz.ntmps15
 go_upto_region 1 with fail
 generalize w.alloc (.cells #[.int .u8 m,.int .u8 q,.slice A nk cp,.string hd,.string tl,.string ct,.string sm] 24)=w1 at hP hB1 ⊢
 have HW:=Hd (show ∀ wx,Below w1.heap.size w1 wx->wx.heap[w.heap.size]?=some (.cells #[.int .u8 m,.int .u8 q,.slice A nk cp,.string hd,.string tl,.string ct,.string sm] 24 (0,0))/\Kinds wx A ks FA FC/\RowsM wx L rs RA RC/\Tab wx/\Below w.heap.size w wx from fun wx h=>by
  have h2:=Qab h hB1 hB1.size
  exact ⟨Qaa hP h,HK.out.below h2,HLM.out.below h2,HTB.out.below h2,h2⟩)
 clear hP hB1
 obtain ⟨q1,qk,ql,qt,-⟩:=HW.out _ (Below.refl _ _)
 obtain ⟨⟨p0,p1,p2,p3,p4,p5,p6⟩,-⟩:=Qai q1
 go_wp2_with fail
 refine (HOR.out _ qk ql qt).mono ?_
 rintro _ w2 ⟨rfl,hb2⟩
 have HB2:=Hd hb2
 clear q1 qk ql qt p0 p1 p2 p3 p4 p5 p6 hb2 HOR
 obtain ⟨q1,qk,ql,qt,qb⟩:=HW.out _ HB2.out
 obtain ⟨⟨p0,p1,p2,p3,p4,p5,p6⟩,-⟩:=Qai q1
 by_cases h0:OE=0
 case neg=>
  have HE:=Hd (show R=(0,OE) by rw [<- HR.out,if_pos h0])
  have h0a:(OE !=0)=true:=by simpa using h0
  clear h0 q1 qk ql qt
  go_wp2
  go_ret2
  exact ⟨by rw [HE.out];rfl,qb⟩
 have HR1:=Hd ((if_neg (fun h=>h h0)).symm.trans HR.out)
 obtain ⟨hok1,hok2,hok3⟩:=HOK.out h0
 subst h0
 have HFM:=Hd (HFK.out hok1)
 have HEN1:=Hd (HEN.out hok1)
 have HRZ1:=Hd (HRZ.out hok2)
 have HOK3:=Hd hok3
 have hks:0<nk:=by have:=HFM.out.some.1;rw [<- HNK.out];exact this
 have HSU1:=Hd (HSU.out (fun j hj=>QbY (HRZ1.out j (by rw [HNR.out];exact hj))) hks)
 clear HR HOK HFK HEN HRZ hok1 hok2 hok3 HSU
 have e1:=Qah tl
 by_cases h1:tl=⟨#[]⟩
 ·have HE:=Hd (show R=(0,9) by rw [<- HR1.out,if_pos h1])
  rw [decide_eq_true h1] at e1
  clear h1 q1 qk ql qt
  go_wp2
  go_ret2
  exact ⟨by rw [HE.out];rfl,qb⟩
 have HR2:=Hd ((if_neg h1).symm.trans HR1.out)
 rw [decide_eq_false h1] at e1
 go_upto_region 6 with fail
 have hla:=HLA.out
 rw [HOK3.out h1] at hla
 have hpos:0<nr:=by
  rcases Nat.eq_zero_or_pos nr with h | h
  ·rw [decide_eq_false (by omega)] at hla;cases hla
  ·exact h
 rw [decide_eq_true hpos,Bool.true_and] at hla
 have hlt:=of_decide_eq_true hla.symm
 have hkt:=HEN1.out.2.1 h1
 rcases HKC.out with ⟨g1,-⟩|⟨kk,hk,g1,g2,-,-⟩
 ·omega
 have g2:katK ⟨m,q,ks,hd,tl,ct,sm⟩ tl=kA ks kk:=g2
 have g1':ixF (Qav tl) ks=(kk:Int):=g1
 rw [g1'] at HKA
 have hk':kk<ks.length:=hk
 have hkn:kk<nk:=by rw [<- HNK.out];exact hk'
 have HCOL:=Hd (fun wx (h:Below w1.heap.size w1 wx)=>(HW.out wx h).2.1.2.2 kk hk')
 have hmany:=(HFM.out.kinds kk hk').many
 simp only at hmany
 have HRK:=Hd (QbY (HRZ1.out (nr-1) (by rw [HNR.out];omega)))
 have hrm:=HRK.out.many
 rw [hlt,g2] at hrm
 rw [g2] at HR2 HEN1
 obtain ⟨kb,ko,rfl,hkb,kc0,kc1,kc2,kc3⟩:=HK.out.cells hk'
 have HQB:=Hd qb;have HQK:=Hd qk
 clear h1 HR1 hla hkt hk HKC HLA HOK3 q1 qk ql qt qb p0 p1 p2 p3 p4 p5 p6 g1 g1' e1 hks
 have HKC:=Hd (show ∀ wx,Below w.heap.size w wx->wx.cell? ⟨kb,ko+kk*4,none⟩=some (.string (kA ks kk).tag)/\wx.cell? ⟨kb,ko+kk*4+1,none⟩=some (.slice (FA kk) (kA ks kk).fields.length (FC kk))/\wx.cell? ⟨kb,ko+kk*4+2,none⟩=some (.int .i64 (kA ks kk).most)/\wx.cell? ⟨kb,ko+kk*4+3,none⟩=some (.string (kA ks kk).under) from fun wx h=>
  ⟨(h.cell (p:=⟨kb,ko+kk*4,none⟩) hkb).trans kc0,(h.cell (p:=⟨kb,ko+kk*4+1,none⟩) hkb).trans kc1,(h.cell (p:=⟨kb,ko+kk*4+2,none⟩) hkb).trans kc2,(h.cell (p:=⟨kb,ko+kk*4+3,none⟩) hkb).trans kc3⟩)
 clear kc0 kc1 kc2 kc3 hkb g2 hk'
 obtain ⟨K,hK⟩:=ex_ (kA ks kk)
 rw [hK] at HCOL hmany HR2 HEN1 hrm HKC
 generalize FA kk=KA at HCOL HKC
 generalize FC kk=KC at HCOL HKC
 clear hK
 have HCA:=Hd (fun name wx (h:Below w1.heap.size w1 wx)=>QbQ K KA KC name wx (HCOL.out wx h).1)
 obtain ⟨kt,fs,km,ku⟩:=K
 unfold QaO at HCA
 simp only at HCA HCOL hmany HR2 HEN1 hrm HKC
 have HIXL:=Hd (fun t h=>ix_lt (cs:=fs) (t:=t) h)
 obtain ⟨nf,hnf⟩:=ex_ (fs.length)
 rw [hnf] at HCA hmany HIXL hrm HKC
 clear hnf
 have T1:Below w2.heap.size w2 w2:=Below.refl _ _
 have HSB:=Hd (show ∀ wx,Below w2.heap.size w2 wx->(fun w':World=>w'.cell? ⟨w.heap.size,0,none⟩=some (.int .u8 m)/\w'.cell? ⟨w.heap.size,1,none⟩=some (.int .u8 q)/\w'.cell? ⟨w.heap.size,2,none⟩=some (.slice (some ⟨kb,ko,none⟩) nk cp)/\w'.cell? ⟨w.heap.size,3,none⟩=some (.string hd)/\w'.cell? ⟨w.heap.size,4,none⟩=some (.string tl)/\w'.cell? ⟨w.heap.size,5,none⟩=some (.string ct)/\w'.cell? ⟨w.heap.size,6,none⟩=some (.string sm)/\w'.cell? ⟨kb,ko+kk*4,none⟩=some (.string kt)/\w'.cell? ⟨kb,ko+kk*4+1,none⟩=some (.slice KA nf KC)/\w'.cell? ⟨kb,ko+kk*4+2,none⟩=some (.int .i64 km)/\w'.cell? ⟨kb,ko+kk*4+3,none⟩=some (.string ku)) wx from fun wx h=>by
  have h2:=Qab h HB2.out HB2.out.size
  obtain ⟨⟨f0,f1,f2,f3,f4,f5,f6⟩,-⟩:=Qai (HW.out _ h2).1
  obtain ⟨g0,g1,g2,g3⟩:=HKC.out _ (HW.out _ h2).2.2.2.2
  exact ⟨f0,f1,f2,f3,f4,f5,f6,g0,g1,g2,g3⟩)
 go_cut [8] (fun c wx=>∃ h:Nat,c=.pointer (some ⟨h,0,none⟩)/\Hid (wx.heap[h]?=some (.cells #[.string kt,.slice KA nf KC,.int .i64 km,.string ku] 52 (0,0)))/\Hid (Below w1.heap.size w1 wx))
 case first=>
  go_region_held3 (fun w':World=>w'.cell? ⟨w.heap.size,0,none⟩=some (.int .u8 m)/\w'.cell? ⟨w.heap.size,1,none⟩=some (.int .u8 q)/\w'.cell? ⟨w.heap.size,2,none⟩=some (.slice (some ⟨kb,ko,none⟩) nk cp)/\w'.cell? ⟨w.heap.size,3,none⟩=some (.string hd)/\w'.cell? ⟨w.heap.size,4,none⟩=some (.string tl)/\w'.cell? ⟨w.heap.size,5,none⟩=some (.string ct)/\w'.cell? ⟨w.heap.size,6,none⟩=some (.string sm)/\w'.cell? ⟨kb,ko+kk*4,none⟩=some (.string kt)/\w'.cell? ⟨kb,ko+kk*4+1,none⟩=some (.slice KA nf KC)/\w'.cell? ⟨kb,ko+kk*4+2,none⟩=some (.int .i64 km)/\w'.cell? ⟨kb,ko+kk*4+3,none⟩=some (.string ku))
   (first | (with_reducible exact HSB.out _ T2) | (with_reducible exact HSB.out _ (T2.alloc T2.size _)) | (refine HSB.out _ ?_;go_grown))
   (first | (go_at_call 27;refine (HKA.out _ (by first | exact HQK.out | exact HQK.out.below (by go_grown))).mono ?_;rintro e w3 ⟨rfl,hb3'⟩;(have T2:Below w2.heap.size w2 w3:=Qab hb3' (by go_grown) (by first | exact Nat.le_refl _ | (simp only [World.size_alloc,World.size_drew];omega)));(first | (have hN3:=news1d hb3';obtain ⟨⟨y0,y1,y2,y3⟩,y5,y4⟩:=Qaw hN3) | skip)))
  ·go_wp2_with fail
   go_meet
   exact ⟨w3.heap.size,rfl,Hd (Qac _ _ rfl),Hd (Qab (T2.alloc T2.size _) HB2.out HB2.out.size)⟩
  ·go_wp2_with fail
   go_meet
   exact ⟨w2.heap.size,rfl,Hd (Qae (Qae (Qae (Qae hN3 0 _) 1 _) 2 _) 3 _),Hd (Qab ((((T2.setCell (p:=⟨w2.heap.size,0,none⟩) (Nat.le_refl _) _).setCell (p:=⟨w2.heap.size,1,none⟩) (Nat.le_refl _) _).setCell (p:=⟨w2.heap.size,2,none⟩) (Nat.le_refl _) _).setCell (p:=⟨w2.heap.size,3,none⟩) (Nat.le_refl _) _) HB2.out HB2.out.size)⟩
 case rest=>
 obtain ⟨KB,rfl,HKD,HB7⟩:=hcut
 clear T1 HSB HQK HQB HB2 HKA HKC
 generalize wc=w7 at HKD HB7 ⊢
 obtain ⟨n1,hn1⟩:=ex_ (nr-1)
 have hix:(nr:Int)-1=(n1:Int):=by omega
 have hwr:IntKind.i64.wrap ((n1:Nat):Int)=(n1:Int):=IntWalk.i64_in _ (by omega)
 have hnlt:n1<nr:=by omega
 have hi2:(n1:Int)<(nr:Int):=by omega
 have hi1:(0:Int)<=(n1:Int):=by omega
 rw [hn1] at HR2 hrm hlt
 obtain ⟨-,-,ql,-,-⟩:=HW.out _ HB7.out
 obtain ⟨b,off,rfl,hbk,c0,c1⟩:=ql.cells (j:=n1) (by rw [HNR.out];exact hnlt)
 have HRJ:=Hd (fun wx h=>(HW.out wx h).2.2.1.each n1 (by rw [HNR.out];exact hnlt))
 obtain ⟨r,hr⟩:=ex_ (rA rs n1)
 rw [hr] at c0 c1 HRJ HR2 hrm hlt
 generalize RA n1=RJ at c1 HRJ
 generalize RC n1=CJ at c1 HRJ
 obtain ⟨rt,TV⟩:=r
 simp only at c0 c1 HR2 hrm hlt
 subst hlt
 obtain ⟨nv,hnv⟩:=ex_ (TV.length)
 have HNV:=Hd hnv
 rw [hnv] at c1 hrm
 have HVN:=Hd hrm
 clear hrm
 have hTD:=Qac w7 (.cells #[.string rt,.slice RJ nv CJ] 49) rfl
 have hBt:Below w1.heap.size w1 (w7.alloc (.cells #[.string rt,.slice RJ nv CJ] 49)):=HB7.out.alloc HB7.out.size _
 have hKD:=Qad HKD.out (.cells #[.string rt,.slice RJ nv CJ] 49)
 clear hr hnv ql hn1
 go_upto_region 8 with fail
 obtain ⟨TB,hTBe⟩:=ex_ (w7.heap.size)
 rw [hTBe] at hTD
 try rw [hTBe]
 generalize w7.alloc (.cells #[.string rt,.slice RJ nv CJ] 49)=wk at hTD hBt hKD ⊢
 have HW2:=Hd (show ∀ wx,Below wk.heap.size wk wx->wx.heap[w.heap.size]?=some (.cells #[.int .u8 m,.int .u8 q,.slice (some ⟨kb,ko,none⟩) nk cp,.string hd,.string rt,.string ct,.string sm] 24 (0,0))/\wx.heap[KB]?=some (.cells #[.string kt,.slice KA nf KC,.int .i64 km,.string ku] 52 (0,0))/\wx.heap[TB]?=some (.cells #[.string rt,.slice RJ nv CJ] 49 (0,0))/\Kinds wx (some ⟨kb,ko,none⟩) ks FA FC/\RowsM wx (some ⟨b,off,none⟩) rs RA RC/\Tab wx/\Below w1.heap.size w1 wx/\Below w.heap.size w wx from fun wx h=>by
  have h2:=Qab h hBt hBt.size
  obtain ⟨g1,g2,g3,g4,g5⟩:=HW.out wx h2
  exact ⟨g1,Qaa hKD h,Qaa hTD h,g2,g3,g4,h2,g5⟩)
 clear hTD hBt hKD hTBe c0 c1 hbk HB7 HKD hix hwr hi1 hi2
 obtain ⟨CI,hCI⟩:=ex_ ((ixF (Qaj ct) fs).toNat)
 obtain ⟨SI,hSI⟩:=ex_ ((ixF (Qaj sm) fs).toNat)
 obtain ⟨SS,hSS⟩:=ex_ (bs (QbV SD.1 SD.2.1))
 have HCI:=Hd hCI;have HSI:=Hd hSI;have HSS:=Hd hSS
 rw [hCI,hSI,hSS] at HR2
 have hni2:ni<=nr:=HIL.out
 have HIT:=Hd (fun wx h=>vitoas_c (ni:Int) wx (by omega) h)
 clear hCI hSI hSS
 obtain ⟨B8,hB8⟩:=ex_ (decide (ct≠⟨#[]⟩/\wd TV CI≠bs (Lib.itoa (ni:Int))))
 have HB8e:=Hd hB8
 clear hB8
 go_cut [56] (fun v wx=>v=.bool B8/\Hid (Below wk.heap.size wk wx))
 case first=>
  obtain ⟨q1,q2,q3,-⟩:=HW2.out _ (Below.refl _ _)
  have e1:=Qah ct
  by_cases hc0:ct=⟨#[]⟩
  ·have HE:=Hd (show B8=false by rw [<- HB8e.out];exact decide_eq_false (fun h=>h.1 hc0))
   rw [decide_eq_true hc0] at e1
   obtain ⟨⟨p0,p1,p2,p3,p4,p5,p6⟩,-⟩:=Qai q1
   clear hc0 q1 q2 q3
   go_quiet (fail)
   go_wp2_with fail
   go_meet
   exact ⟨by rw [HE.out],Hd ⟨rfl,rfl,rfl,Nat.le_refl _,fun _ _=>rfl⟩⟩
  have hix0:=HEN1.out.2.2.2.2.1 hc0
  have hixl:=(HIXL.out ct hix0).1
  have hIXe:ixF (Qaj ct) fs=(CI:Int):=by have:=HCI.out;omega
  rw [hIXe,Int.toNat_natCast] at hixl
  have HCS:=Hd (fun wx h=>HCA.out ct wx h)
  rw [hIXe] at HCS
  have hcv:CI<nv:=by have:=HVN.out;omega
  obtain ⟨vb,vo,rfl,hvb,hvc⟩:=(HRJ.out _ (HW2.out _ (Below.refl _ _)).2.2.2.2.2.2.1).vals (by show 0<TV.length;rw [HNV.out];omega)
  have hs0:=hvc CI (by show CI<TV.length;rw [HNV.out];exact hcv)
  simp only at hs0
  obtain ⟨sv,hsv⟩:=ex_ (wd TV CI)
  rw [hsv] at hs0
  obtain ⟨X2,hX2⟩:=ex_ (decide (sv=⟨(Lib.itoa (ni:Int)).toArray⟩))
  have HX2:=Hd hX2
  have HE8:=Hd (show B8=!X2 by
   rw [<- HB8e.out,hsv,<- hX2]
   by_cases h:sv=⟨(Lib.itoa (ni:Int)).toArray⟩
   ·rw [decide_eq_true h];exact decide_eq_false (fun k=>k.2 h)
   ·rw [decide_eq_false h];exact decide_eq_true ⟨hc0,h⟩)
  have HP:=Hd q1;have HKQ:=Hd q2;have HTQ:=Hd q3;have HV0:=Hd hs0;have HVB:=Hd hvb
  rw [decide_eq_false hc0] at e1
  have HS8:=Hd (show ∀ wx,Below wk.heap.size wk wx->(fun w':World=>w'.cell? ⟨TB,1,none⟩=some (.slice (some ⟨vb,vo,none⟩) nv CJ)/\w'.cell? ⟨KB,0,none⟩=some (.string kt)/\w'.cell? ⟨KB,1,none⟩=some (.slice KA nf KC)/\w'.cell? ⟨KB,2,none⟩=some (.int .i64 km)/\w'.cell? ⟨KB,3,none⟩=some (.string ku)/\w'.cell? ⟨w.heap.size,0,none⟩=some (.int .u8 m)/\w'.cell? ⟨w.heap.size,1,none⟩=some (.int .u8 q)/\w'.cell? ⟨w.heap.size,2,none⟩=some (.slice (some ⟨kb,ko,none⟩) nk cp)/\w'.cell? ⟨w.heap.size,3,none⟩=some (.string hd)/\w'.cell? ⟨w.heap.size,4,none⟩=some (.string rt)/\w'.cell? ⟨w.heap.size,5,none⟩=some (.string ct)/\w'.cell? ⟨w.heap.size,6,none⟩=some (.string sm)/\w'.cell? ⟨vb,vo+CI,none⟩=some (.string sv)) wx from fun wx h=>by
   obtain ⟨⟨a0,a1,a2,a3,a4,a5,a6⟩,-⟩:=Qai (Qaa HP.out h)
   obtain ⟨⟨b0,b1,b2,b3⟩,-,-⟩:=Qaw (Qaa HKQ.out h)
   obtain ⟨-,c1,-,-,-⟩:=box2 (Qaa HTQ.out h)
   exact ⟨c1,b0,b1,b2,b3,a0,a1,a2,a3,a4,a5,a6,(h.cell (p:=⟨vb,vo+CI,none⟩) HVB.out).trans HV0.out⟩)
  clear hix0 hIXe hvb hvc hs0 hsv hX2 hc0 q1 q2 q3 hixl
  have hT:=HS8.out _ (Below.refl _ _).drew
  refine Qaq 17 (fun w':World=>w'.cell? ⟨TB,1,none⟩=some (.slice (some ⟨vb,vo,none⟩) nv CJ)/\w'.cell? ⟨KB,0,none⟩=some (.string kt)/\w'.cell? ⟨KB,1,none⟩=some (.slice KA nf KC)/\w'.cell? ⟨KB,2,none⟩=some (.int .i64 km)/\w'.cell? ⟨KB,3,none⟩=some (.string ku)/\w'.cell? ⟨w.heap.size,0,none⟩=some (.int .u8 m)/\w'.cell? ⟨w.heap.size,1,none⟩=some (.int .u8 q)/\w'.cell? ⟨w.heap.size,2,none⟩=some (.slice (some ⟨kb,ko,none⟩) nk cp)/\w'.cell? ⟨w.heap.size,3,none⟩=some (.string hd)/\w'.cell? ⟨w.heap.size,4,none⟩=some (.string rt)/\w'.cell? ⟨w.heap.size,5,none⟩=some (.string ct)/\w'.cell? ⟨w.heap.size,6,none⟩=some (.string sm)/\w'.cell? ⟨vb,vo+CI,none⟩=some (.string sv)) (by kernel_rfl) ?_
  refine Till.tk (i:=0) (v:=?_) rfl [1,2,3] hT (Or.inl ⟨by kernel_rfl,?_⟩) ?_
  rotate_left
  ·(intro w' hw';obtain ⟨u0,u1,u2,u3,u4,u5,u6,u7,u8,u9,u10,u11,u12⟩:=hw';go_simp;try with_reducible rfl)
  (try simp only [Act.put,Till.a,Till.b,Till.c])
  refine Till.tk (i:=1) (v:=?_) rfl [2,3] hT (Or.inl ⟨by kernel_rfl,?_⟩) ?_
  rotate_left
  ·(intro w' hw';obtain ⟨u0,u1,u2,u3,u4,u5,u6,u7,u8,u9,u10,u11,u12⟩:=hw';go_simp;try with_reducible rfl)
  (try simp only [Act.put,Till.a,Till.b,Till.c])
  refine Till.tk (i:=2) (v:=?_) rfl [3] hT (Or.inl ⟨by kernel_rfl,?_⟩) ?_
  rotate_left
  ·(intro w' hw';obtain ⟨u0,u1,u2,u3,u4,u5,u6,u7,u8,u9,u10,u11,u12⟩:=hw';go_simp;try with_reducible rfl)
  (try simp only [Act.put,Till.a,Till.b,Till.c])
  refine Till.tk (i:=3) (v:=?_) rfl [] hT (Or.inl ⟨by kernel_rfl,?_⟩) ?_
  rotate_left
  ·(intro w' hw';obtain ⟨u0,u1,u2,u3,u4,u5,u6,u7,u8,u9,u10,u11,u12⟩:=hw';go_simp;try with_reducible rfl)
  (try simp only [Act.put,Till.a,Till.b,Till.c])
  refine Till.tk (i:=4) (v:=?_) rfl [5,10,11,16] hT (Or.inl ⟨by kernel_rfl,?_⟩) ?_
  rotate_left
  ·(intro w' hw';obtain ⟨u0,u1,u2,u3,u4,u5,u6,u7,u8,u9,u10,u11,u12⟩:=hw';go_simp;try with_reducible rfl)
  (try simp only [Act.put,Till.a,Till.b,Till.c])
  refine Till.tk (i:=5) (v:=?_) rfl [10,11,16] hT (Or.inl ⟨by kernel_rfl,?_⟩) ?_
  rotate_left
  ·(intro w' hw';obtain ⟨u0,u1,u2,u3,u4,u5,u6,u7,u8,u9,u10,u11,u12⟩:=hw';go_simp;try with_reducible rfl)
  (try simp only [Act.put,Till.a,Till.b,Till.c])
  refine Till.tk (i:=6) (v:=?_) rfl [9,10,11,16] hT (Or.inl ⟨by kernel_rfl,?_⟩) ?_
  rotate_left
  ·(intro w' hw';obtain ⟨u0,u1,u2,u3,u4,u5,u6,u7,u8,u9,u10,u11,u12⟩:=hw';go_simp;try with_reducible rfl)
  (try simp only [Act.put,Till.a,Till.b,Till.c])
  refine Till.tk (i:=7) (v:=?_) rfl [8,9,10,11,16] hT (Or.inl ⟨by kernel_rfl,?_⟩) ?_
  rotate_left
  ·(intro w' hw';obtain ⟨u0,u1,u2,u3,u4,u5,u6,u7,u8,u9,u10,u11,u12⟩:=hw';go_simp;try with_reducible rfl)
  (try simp only [Act.put,Till.a,Till.b,Till.c])
  refine Till.tk (i:=8) (v:=?_) rfl [9,10,11,16] hT (Or.inl ⟨by kernel_rfl,?_⟩) ?_
  rotate_left
  ·(intro w' hw';obtain ⟨u0,u1,u2,u3,u4,u5,u6,u7,u8,u9,u10,u11,u12⟩:=hw';go_simp;try with_reducible rfl)
  (try simp only [Act.put,Till.a,Till.b,Till.c])
  refine Till.tk (i:=12) (v:=?_) rfl [14,15,16] hT (Or.inl ⟨by kernel_rfl,?_⟩) ?_
  rotate_left
  ·(intro w' hw';obtain ⟨u0,u1,u2,u3,u4,u5,u6,u7,u8,u9,u10,u11,u12⟩:=hw';go_simp;try with_reducible rfl)
  (try simp only [Act.put,Till.a,Till.b,Till.c])
  refine Till.tk (i:=13) (v:=?_) rfl [14,15,16] hT (Or.inl ⟨by kernel_rfl,?_⟩) ?_
  rotate_left
  ·(intro w' hw';obtain ⟨u0,u1,u2,u3,u4,u5,u6,u7,u8,u9,u10,u11,u12⟩:=hw';go_simp;try with_reducible rfl)
  (try simp only [Act.put,Till.a,Till.b,Till.c])
  refine Till.step (i:=9) (by kernel_rfl) rfl ?_
  intro K hK
  go_simp
  (go_at_call 33;refine (HCS.out _ (HW2.out _ (Below.refl _ _).drew).2.2.2.2.2.2.1).mono ?_;rintro _ wa ⟨rfl,hba⟩;(have Ua:Below wk.heap.size wk wa:=⟨hba.os,hba.tape,hba.output,hba.size,hba.block⟩))
  have hT:=HS8.out _ Ua
  refine hK.out _ _ (fun _=>hT) ?_
  clear hK K
  (try simp only [Act.put,Till.a,Till.b,Till.c])
  have hbv:(CI:Int)<(nv:Int):=by omega
  have hb0:(0:Int)<=(CI:Int):=by omega
  refine Till.tk (i:=10) (v:=?_) rfl [11,16] hT (Or.inl ⟨by kernel_rfl,?_⟩) ?_
  rotate_left
  ·(intro w' hw';obtain ⟨u0,u1,u2,u3,u4,u5,u6,u7,u8,u9,u10,u11,u12⟩:=hw';go_simp;try with_reducible rfl)
  (try simp only [Act.put,Till.a,Till.b,Till.c])
  refine Till.tk (i:=11) (v:=?_) rfl [16] hT (Or.inl ⟨by kernel_rfl,?_⟩) ?_
  rotate_left
  ·(intro w' hw';obtain ⟨u0,u1,u2,u3,u4,u5,u6,u7,u8,u9,u10,u11,u12⟩:=hw';go_simp;try with_reducible rfl)
  (try simp only [Act.put,Till.a,Till.b,Till.c])
  refine Till.step (i:=14) (by kernel_rfl) rfl ?_
  intro K hK
  go_simp
  (go_at_call 43;refine (HCN.out _ (HW2.out _ Ua).2.2.2.2.1).mono ?_;rintro _ wb ⟨rfl,hbb⟩;(have Ub:Below wk.heap.size wk wb:=Qab hbb Ua Ua.size))
  have hT:=HS8.out _ Ub
  refine hK.out _ _ (fun _=>hT) ?_
  clear hK K
  (try simp only [Act.put,Till.a,Till.b,Till.c])
  refine Till.step (i:=15) (by kernel_rfl) rfl ?_
  intro K hK
  go_simp
  (go_at_call 38;refine (HIT.out _ (HW2.out _ Ub).2.2.2.2.2.1).mono ?_;rintro _ wd ⟨rfl,hbd⟩;(have Ud:Below wk.heap.size wk wd:=Qab hbd Ub Ub.size))
  have hT:=HS8.out _ Ud
  refine hK.out _ _ (fun _=>hT) ?_
  clear hK K
  (try simp only [Act.put,Till.a,Till.b,Till.c])
  have e3:(sv.toList==Lib.itoa (ni:Int))=X2:=by
   have h:=Qap sv ⟨(Lib.itoa (ni:Int)).toArray⟩
   rw [HX2.out,Lib.toList_data ⟨(Lib.itoa (ni:Int)).toArray⟩] at h
   exact h
  refine Till.tk (i:=16) (v:=?_) rfl [] hT (Or.inl ⟨by kernel_rfl,?_⟩) ?_
  rotate_left
  ·(intro w' hw';obtain ⟨u0,u1,u2,u3,u4,u5,u6,u7,u8,u9,u10,u11,u12⟩:=hw';go_simp;try with_reducible rfl)
  (try simp only [Act.put,Till.a,Till.b,Till.c])
  refine Till.step (i:=17) (by kernel_rfl) rfl ?_
  intro K hK
  go_simp
  refine hK.out _ _ (fun _=>hT) ?_
  clear hK K
  (try simp only [Act.put,Till.a,Till.b,Till.c])
  refine Till.done (by kernel_rfl) ?_ _
  clear hT e3 hba hbb hbd Ua Ub
  go_wp2_with fail
  go_meet
  exact ⟨by rw [HE8.out],Hd Ud⟩
 case rest=>
 obtain ⟨rfl,HB8⟩:=hcut
 have QB:=Hd (HW2.out _ HB8.out).2.2.2.2.2.2.2
 cases hb8:B8 with
 | true=>
  have HE:=Hd (show R=(0,12) by rw [<- HR2.out];exact if_pos (of_decide_eq_true (HB8e.out.trans hb8)))
  clear hb8
  go_wp2
  go_ret2
  exact ⟨by rw [HE.out];rfl,QB.out⟩
 | false=>
 have HR3:=Hd ((if_neg (of_decide_eq_false (HB8e.out.trans hb8))).symm.trans HR2.out)
 clear hb8 HR2 HB8e
 obtain ⟨q1,-⟩:=HW2.out _ HB8.out
 obtain ⟨⟨p0,p1,p2,p3,p4,p5,p6⟩,-⟩:=Qai q1
 have e5:=Qah sm
 by_cases hs0:sm=⟨#[]⟩
 ·have HE:=Hd (show R=(0,0) by rw [<- HR3.out];exact if_pos hs0)
  rw [decide_eq_true hs0] at e5
  clear hs0 q1
  go_wp2
  go_ret2
  exact ⟨by rw [HE.out];rfl,QB.out⟩
 have HR5:=Hd ((if_neg hs0).symm.trans HR3.out)
 rw [decide_eq_false hs0] at e5
 have hix0:=(HEN1.out.2.2.2.2.2.1 hs0).1
 have hixl:=(HIXL.out sm hix0).1
 have hIXe:ixF (Qaj sm) fs=(SI:Int):=by have:=HSI.out;omega
 rw [hIXe,Int.toNat_natCast] at hixl
 have HCS:=Hd (fun wx h=>HCA.out sm wx h)
 rw [hIXe] at HCS
 have hcv:SI<nv:=by have:=HVN.out;omega
 have HSBA:=Hd (show SB=AB by rw [HSBE.out,decide_eq_true (p:=sm≠⟨#[]⟩) hs0,Bool.true_and])
 obtain ⟨-,-,-,qk,ql,-,-,-⟩:=HW2.out _ HB8.out
 clear hs0 hix0 hixl hIXe q1 HR3 QB
 go_wp2_with fail
 refine (HSU1.out _ qk ql).mono ?_
 rintro _ w5 ⟨s,SA,sn,sc,rfl,hbig,hb5⟩
 have HB5:=Hd (Qab hb5 HB8.out HB8.out.size)
 have HBG:=Hd hbig
 have HND:=Hd (Qac w5 (.cells #[.bool s,.slice SA sn sc] 77) rfl)
 have HB6:=Hd (HB5.out.alloc HB5.out.size (.cells #[.bool s,.slice SA sn sc] 77))
 clear qk ql hb5 hbig HB8 p0 p1 p2 p3 p4 p5 p6 e5
 go_upto_region 13 with fail
 have HBG6:=Hd (fun h=>(HBG.out h).alloc (.cells #[.bool s,.slice SA sn sc] 77))
 obtain ⟨NN,hNN⟩:=ex_ (w5.heap.size)
 rw [hNN] at HND
 try rw [hNN]
 generalize w5.alloc (.cells #[.bool s,.slice SA sn sc] 77)=w6 at HND HB6 HBG6 ⊢
 clear hNN HB5 HBG
 cases hAB:AB with
 | true=>
  have HE:=Hd (show R=(1,6) by rw [<- HR5.out,HSBA.out,hAB,if_pos rfl])
  have h6:SF=6:=by rw [<- HSFE.out,hAB];rfl
  have hB:=(HW2.out _ HB6.out).2.2.2.2.2.2.2
  subst h6
  clear hAB HSFE
  go_wp2
  go_ret2
  exact ⟨by rw [HE.out];rfl,hB⟩
 | false=>
 have HR6:=Hd (show (if SD.2.2≠0 then (1,SD.2.2) else if wd TV SI≠SS then (1,12) else (0,0))=R by rw [<- HR5.out,HSBA.out,hAB,if_neg (c:=false=true) (by decide)])
 have h6:SF=0:=by rw [<- HSFE.out,hAB];rfl
 have HBG7:=Hd (HBG6.out hAB)
 subst h6
 clear hAB HSFE HBG6 HR5 HSBA
 obtain ⟨n0,n2,-,-,-⟩:=box2 HND.out
 have HTO1:=Hd (HTO.out w6 s SA sn sc HBG7.out (by have:=HZB.out;omega) (HW2.out _ HB6.out).2.2.2.2.2.1)
 go_wp2_with fail
 refine HTO1.out.mono ?_
 rintro _ w9 ⟨tv,rfl,htv,hb9⟩
 have HTV:=Hd htv
 have HB9:=Hd (Qab hb9 HB6.out HB6.out.size)
 clear n0 n2 HTO1 HTO hb9 htv HBG7 HND HB6
 have QB:=Hd (HW2.out _ HB9.out).2.2.2.2.2.2.2
 by_cases hse:SD.2.2=0
 case neg=>
  have HE:=Hd (show R=(1,SD.2.2) by rw [<- HR6.out,if_pos hse])
  have h1:(SD.2.2 !=0)=true:=by simpa using hse
  clear hse
  go_wp2
  go_ret2
  exact ⟨by rw [HE.out];rfl,QB.out⟩
 have h1:(SD.2.2 !=0)=false:=by rw [hse];rfl
 have HR7:=Hd ((if_neg (fun h=>h hse)).symm.trans HR6.out)
 have HTS:=Hd (show tv=SS by rw [<- HSS.out,<- HTX.out hse];exact bs_of HTV.out)
 obtain ⟨q1,q2,q3,-,-,-,qw,-⟩:=HW2.out _ HB9.out
 obtain ⟨vb,vo,rfl,hvb,hvc⟩:=(HRJ.out _ qw).vals (by show 0<TV.length;rw [HNV.out];omega)
 have hs0:=hvc SI (by show SI<TV.length;rw [HNV.out];exact hcv)
 simp only at hs0
 obtain ⟨sv,hsv⟩:=ex_ (wd TV SI)
 rw [hsv] at hs0 HR7
 obtain ⟨X3,hX3⟩:=ex_ (decide (sv=SS))
 have HX3:=Hd hX3
 have HP:=Hd q1;have HKQ:=Hd q2;have HTQ:=Hd q3;have HV0:=Hd hs0;have HVB:=Hd hvb
 have HS18:=Hd (show ∀ wx,Below w9.heap.size w9 wx->(fun w':World=>w'.cell? ⟨TB,1,none⟩=some (.slice (some ⟨vb,vo,none⟩) nv CJ)/\w'.cell? ⟨KB,0,none⟩=some (.string kt)/\w'.cell? ⟨KB,1,none⟩=some (.slice KA nf KC)/\w'.cell? ⟨KB,2,none⟩=some (.int .i64 km)/\w'.cell? ⟨KB,3,none⟩=some (.string ku)/\w'.cell? ⟨w.heap.size,6,none⟩=some (.string sm)/\w'.cell? ⟨vb,vo+SI,none⟩=some (.string sv)) wx from fun wx h=>by
  obtain ⟨⟨-,-,-,-,-,-,a6⟩,-⟩:=Qai (Qaa HP.out h)
  obtain ⟨⟨b0,b1,b2,b3⟩,-,-⟩:=Qaw (Qaa HKQ.out h)
  obtain ⟨-,c1,-,-,-⟩:=box2 (Qaa HTQ.out h)
  exact ⟨c1,b0,b1,b2,b3,a6,(h.cell (p:=⟨vb,vo+SI,none⟩) HVB.out).trans HV0.out⟩)
 clear hse HR6 q1 q2 q3 qw hvb hvc hs0 hsv hX3 QB
 go_upto_region 18 with fail
 have hT:=HS18.out _ (Below.refl _ _).drew
 refine Qaq 9 (fun w':World=>w'.cell? ⟨TB,1,none⟩=some (.slice (some ⟨vb,vo,none⟩) nv CJ)/\w'.cell? ⟨KB,0,none⟩=some (.string kt)/\w'.cell? ⟨KB,1,none⟩=some (.slice KA nf KC)/\w'.cell? ⟨KB,2,none⟩=some (.int .i64 km)/\w'.cell? ⟨KB,3,none⟩=some (.string ku)/\w'.cell? ⟨w.heap.size,6,none⟩=some (.string sm)/\w'.cell? ⟨vb,vo+SI,none⟩=some (.string sv)) (by kernel_rfl) ?_
 refine Till.tk (i:=0) (v:=?_) rfl [1,6,7] hT (Or.inl ⟨by rfl,?_⟩) ?_
 rotate_left
 ·(intro w' hw';obtain ⟨u0,u1,u2,u3,u4,u5,u6⟩:=hw';go_simp;try with_reducible rfl)
 (try simp only [Act.put,Till.a,Till.b,Till.c])
 refine Till.tk (i:=1) (v:=?_) rfl [6,7] hT (Or.inl ⟨by rfl,?_⟩) ?_
 rotate_left
 ·(intro w' hw';obtain ⟨u0,u1,u2,u3,u4,u5,u6⟩:=hw';go_simp;try with_reducible rfl)
 (try simp only [Act.put,Till.a,Till.b,Till.c])
 refine Till.tk (i:=2) (v:=?_) rfl [5,6,7] hT (Or.inl ⟨by rfl,?_⟩) ?_
 rotate_left
 ·(intro w' hw';obtain ⟨u0,u1,u2,u3,u4,u5,u6⟩:=hw';go_simp;try with_reducible rfl)
 (try simp only [Act.put,Till.a,Till.b,Till.c])
 refine Till.tk (i:=3) (v:=?_) rfl [4,5,6,7] hT (Or.inl ⟨by rfl,?_⟩) ?_
 rotate_left
 ·(intro w' hw';obtain ⟨u0,u1,u2,u3,u4,u5,u6⟩:=hw';go_simp;try with_reducible rfl)
 (try simp only [Act.put,Till.a,Till.b,Till.c])
 refine Till.tk (i:=4) (v:=?_) rfl [5,6,7] hT (Or.inl ⟨by rfl,?_⟩) ?_
 rotate_left
 ·(intro w' hw';obtain ⟨u0,u1,u2,u3,u4,u5,u6⟩:=hw';go_simp;try with_reducible rfl)
 (try simp only [Act.put,Till.a,Till.b,Till.c])
 refine Till.tk (i:=8) (v:=?_) rfl [] hT (Or.inl ⟨by rfl,?_⟩) ?_
 rotate_left
 ·(intro w' hw';obtain ⟨u0,u1,u2,u3,u4,u5,u6⟩:=hw';go_simp;try with_reducible rfl)
 (try simp only [Act.put,Till.a,Till.b,Till.c])
 refine Till.step (i:=5) (by kernel_rfl) rfl ?_
 intro K hK
 go_simp
 (go_at_call 33;refine (HCS.out _ (HW2.out _ HB9.out.drew).2.2.2.2.2.2.1).mono ?_;rintro _ wa ⟨rfl,hba⟩;(have Ua:Below w9.heap.size w9 wa:=⟨hba.os,hba.tape,hba.output,hba.size,hba.block⟩))
 have hT:=HS18.out _ Ua
 refine hK.out _ _ (fun _=>hT) ?_
 clear hK K
 (try simp only [Act.put,Till.a,Till.b,Till.c])
 have hbv:(SI:Int)<(nv:Int):=by omega
 have hb0:(0:Int)<=(SI:Int):=by omega
 refine Till.tk (i:=6) (v:=?_) rfl [7] hT (Or.inl ⟨by rfl,?_⟩) ?_
 rotate_left
 ·(intro w' hw';obtain ⟨u0,u1,u2,u3,u4,u5,u6⟩:=hw';go_simp;try with_reducible rfl)
 (try simp only [Act.put,Till.a,Till.b,Till.c])
 refine Till.tk (i:=7) (v:=?_) rfl [] hT (Or.inl ⟨by rfl,?_⟩) ?_
 rotate_left
 ·(intro w' hw';obtain ⟨u0,u1,u2,u3,u4,u5,u6⟩:=hw';go_simp;try with_reducible rfl)
 (try simp only [Act.put,Till.a,Till.b,Till.c])
 have e3:=Qap sv tv
 rw [HTS.out,HX3.out] at e3
 try rw [HTS.out]
 refine Till.step (i:=9) (by kernel_rfl) rfl ?_
 intro K hK
 go_simp
 refine hK.out _ _ (fun _=>hT) ?_
 clear hK K
 (try simp only [Act.put,Till.a,Till.b,Till.c])
 refine Till.done (by kernel_rfl) ?_ _
 have HBU:=Hd (Qab Ua HB9.out HB9.out.size)
 have QB:=Hd (HW2.out _ HBU.out).2.2.2.2.2.2.2
 clear hT e3 hba Ua
 cases hx:X3 with
 | true=>
  have hse:=of_decide_eq_true (HX3.out.trans hx)
  have HE:=Hd (show R=(0,0) by rw [<- HR7.out];exact if_neg (fun h=>h hse))
  clear hx hse
  go_wp2
  go_ret2
  exact ⟨by rw [HE.out];rfl,QB.out⟩
 | false=>
  have hse:=of_decide_eq_false (HX3.out.trans hx)
  have HE:=Hd (show R=(1,12) by rw [<- HR7.out];exact if_pos hse)
  clear hx hse
  go_wp2
  go_ret2
  exact ⟨by rw [HE.out];rfl,QB.out⟩
end Go.Proofs.YtaiabjiehpcaoaaGreatDoor
