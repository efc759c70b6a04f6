/- The walks of checkOrder and CheckOrder. The walk of the reference's CheckOrder. -/
import Derived.Test.YtaiabjiehpcaoaaGreatDoorCE
import Derived.Test.YtaiabjiehpcaoaaGreatDoorCC
-- merged: C8 CD
set_option maxHeartbeats 4000000
set_option maxRecDepth 100000
namespace Go.Proofs.YtaiabjiehpcaoaaGreatDoor
open Go.RowKit Limb Nmb Work
set_option linter.unusedVariables false
set_option linter.unusedSimpArgs false
theorem chkorder_c (f:Fmt) (A:Option Addr) (cp:Nat) (FA:Nat->Option Addr) (FC:Nat->Nat) (L:Option Addr) (LC:Nat) (rs:List RowP) (RA:Nat->Option Addr) (RC:Nat->Nat) (w:World) (ho:Kinds w A f.kinds FA FC) (hf:Qao f=0) (hl:RowsM w L rs RA RC) (hLC:rs.length<=LC) (hLM:LC<=9223372036854775807) (hcp:f.kinds.length<=cp) (hm:0<=f.mark/\f.mark<=255) (ht:Tab w) :
  Calls Tryz.prog 36 #[fmtG f A cp,.slice L rs.length LC] w (Qbk (ordR f rs).1 (ordR f rs).2 w):=by
 have HCR:=Hd (fun w h h2 ht=>chkrows_c f A cp FA FC L LC rs RA RC w h h2 hcp hf hm ht)
 have HRO:=Hd (fun i (hi:i<rs.length) w h h2=>roworder_c f A cp FA FC L LC rs RA RC i w h hf h2 hLC hi hLM)
 have HKI:=Hd ho;have HLM:=Hd hl;have HTB:=Hd ht
 have hnr:=hl.len
 have HLB:=Hd (show QbM f rs=(decide (0<rs.length)&&decide ((rA rs (rs.length-1)).tag=f.tail)) from rfl)
 obtain ⟨R,hR⟩:=ex_ (ordR f rs)
 have HR:=Hd hR
 unfold ordR at HR
 rw [hR]
 clear ho hl ht hR hf
 obtain ⟨⟨RI,RE⟩,hRE⟩:=ex_ (QbX f rs)
 rw [hRE] at HCR HR
 obtain ⟨RO,hRO⟩:=ex_ (rowO f rs)
 rw [hRO] at HRO HR
 obtain ⟨LB,hLB⟩:=ex_ (QbM f rs)
 rw [hLB] at HLB HR
 clear hRE hRO hLB
 unfold Qbk at HCR ⊢
 unfold RetI at HRO
 obtain ⟨m,q,ks,hd,tl,ct,sm⟩:=f
 unfold fmtG at HCR HRO ⊢
 simp only at HCR HRO HKI HR HLB hcp ⊢
 obtain ⟨nk,hnk⟩:=ex_ (ks.length)
 rw [hnk] at HCR HRO ⊢
 obtain ⟨nr,hnr2⟩:=ex_ (rs.length)
 have HNR:=Hd hnr2
 rw [hnr2] at hnr hLC HCR HRO HR HLB ⊢
 clear hnk hnr2
 have hP:=Qac w (.cells #[.int .u8 m,.int .u8 q,.slice A nk cp,.string hd,.string tl,.string ct,.string sm] 24) rfl
 have hB1:Below w.heap.size w (w.alloc (.cells #[.int .u8 m,.int .u8 q,.slice A nk cp,.string hd,.string tl,.string ct,.string sm] 24)):=by go_grown
 go_enter Tryz.func36,Tryz.ntmps36
 go_upto_region 1 with fail
 generalize w.alloc (.cells #[.int .u8 m,.int .u8 q,.slice A nk cp,.string hd,.string tl,.string ct,.string sm] 24)=w1 at hP hB1 ⊢
 have HW:=Hd (show ∀ wx,Below w1.heap.size w1 wx->wx.heap[w.heap.size]?=some (.cells #[.int .u8 m,.int .u8 q,.slice A nk cp,.string hd,.string tl,.string ct,.string sm] 24 (0,0))/\Kinds wx A ks FA FC/\RowsM wx L rs RA RC/\Tab wx/\Below w.heap.size w wx from fun wx h=>by
  have h2:=Qab h hB1 hB1.size
  exact ⟨Qaa hP h,HKI.out.below h2,HLM.out.below h2,HTB.out.below h2,h2⟩)
 clear hP hB1
 obtain ⟨q1,qk,ql,qt,qb⟩:=HW.out _ (Below.refl _ _)
 obtain ⟨⟨p0,p1,p2,p3,p4,p5,p6⟩,-⟩:=Qai q1
 go_wp2_with fail
 refine (HCR.out _ qk ql qt).mono ?_
 rintro _ w2 ⟨rfl,hb2⟩
 have HB2:=Hd hb2
 clear q1 qk ql qt qb p0 p1 p2 p3 p4 p5 p6 hb2 HCR
 have QB:=Hd (HW.out _ HB2.out).2.2.2.2
 by_cases h3:RE=0
 case neg=>
  have HE:=Hd (show R=(RI,RE) by rw [<- HR.out,if_pos h3])
  have h3a:(RE !=0)=true:=by simpa using h3
  clear h3
  go_wp2
  go_ret2
  exact ⟨by rw [HE.out];rfl,QB.out⟩
 have HR1:=Hd ((if_neg (fun h=>h h3)).symm.trans HR.out)
 subst h3
 clear HR QB
 go_wp2_with fail
 go_loopw [22] (fun x wr=>∃ j:Nat,j<=nr/\x=.int .i64 (j:Int)/\Hid (Below w1.heap.size w1 wr)/\Hid (∀ t,t<j->RO t=0)) (fun x _=>nr-(intOf x).toNat)
 case atStart=>exact ⟨0,Nat.zero_le _,rfl,HB2,Hd (fun t h=>absurd h (Nat.not_lt_zero _))⟩
 case round=>
  clear HB2
  obtain ⟨j,hj,rfl,HB,HJ⟩:=hrel
  obtain ⟨q1,qk,ql,-,qb⟩:=HW.out _ HB.out
  have QK:=Hd qk;have QL:=Hd ql;have QB:=Hd qb
  obtain ⟨⟨p0,p1,p2,p3,p4,p5,p6⟩,-⟩:=Qai q1
  clear q1 qk ql qb
  rcases Nat.lt_or_ge j nr with hlt | hge
  ·have HRJ:=Hd (HRO.out j hlt)
   obtain ⟨e,he⟩:=ex_ (RO j)
   have HRE:=Hd he
   rw [he] at HRJ
   clear he
   go_wp2_with fail
   refine (HRJ.out _ QK.out QL.out).mono ?_
   rintro _ w5 ⟨rfl,hb5⟩
   have HB5:=Hd (Qab hb5 HB.out HB.out.size)
   have QB5:=Hd (HW.out _ HB5.out).2.2.2.2
   clear p0 p1 p2 p3 p4 p5 p6 hb5 HB QK QL QB
   by_cases h0:e=0
   ·subst h0
    have HJ2:=Hd (show ∀ t,t<j+1->RO t=0 from fun t ht=>by
     rcases Nat.lt_or_ge t j with h | h
     ·exact HJ.out t h
     ·obtain rfl:t=j:=by omega
      exact HRE.out)
    go_wp2
    go_roundw
    case rel=>exact ⟨j+1,by omega,by go_num,HB5,HJ2⟩
    case measure=>simp [intOf];omega
   ·have hfr:=Qb2 (g:=RO) (j:=j) HJ.out (by rw [HRE.out];exact h0) hlt
    rw [HRE.out] at hfr
    have HE:=Hd (show R=((j:Int),e) by rw [<- HR1.out,hfr];exact if_pos h0)
    have h0a:(e !=0)=true:=by simpa using h0
    clear h0 hfr
    go_wp2
    go_ret2
    exact ⟨by rw [HE.out];rfl,QB5.out⟩
  ·obtain rfl:j=nr:=by omega
   have HR2:=Hd (show (if tl≠⟨#[]⟩/\LB=false then ((j:Int),(8:Int)) else (0,0))=R by rw [<- HR1.out,frF_no HJ.out];exact (if_neg (fun h=>h rfl)).symm)
   have e5:=Qah tl
   by_cases ht0:tl=⟨#[]⟩
   ·have HE:=Hd (show R=(0,0) by rw [<- HR2.out];exact if_neg (fun h=>h.1 ht0))
    rw [decide_eq_true ht0] at e5
    clear ht0
    go_wp2_with fail
    go_quiet (fail)
    go_wp2
    go_ret2
    exact ⟨by rw [HE.out];rfl,QB.out.trans ⟨rfl,rfl,rfl,Nat.le_refl _,fun _ _=>rfl⟩⟩
   rw [decide_eq_false ht0] at e5
   rcases Nat.eq_zero_or_pos j with h0 | h0
   ·have HE:=Hd (show R=((j:Int),8) by rw [<- HR2.out];exact if_pos ⟨ht0,by rw [HLB.out,decide_eq_false (by omega)];rfl⟩)
    subst h0
    clear ht0
    go_wp2_with fail
    go_quiet (fail)
    go_wp2
    go_ret2
    exact ⟨by rw [HE.out];rfl,QB.out.trans ⟨rfl,rfl,rfl,Nat.le_refl _,fun _ _=>rfl⟩⟩
   ·obtain ⟨n1,hn1⟩:=ex_ (j-1)
    have hix:(j:Int)-1=(n1:Int):=by omega
    have hwr:IntKind.i64.wrap ((n1:Nat):Int)=(n1:Int):=IntWalk.i64_in _ (by omega)
    have hne:((j:Int)==0)=false:=beq_eq_false_iff_ne.2 (by omega)
    have hnlt:n1<j:=by omega
    have hla:=HLB.out
    rw [hn1,decide_eq_true h0,Bool.true_and] at hla
    obtain ⟨b,off,rfl,hbk,c0,c1⟩:=QL.out.cells (j:=n1) (by rw [HNR.out];exact hnlt)
    obtain ⟨rt,hrt⟩:=ex_ ((rA rs n1).tag)
    rw [hrt] at c0 hla
    have e4:=Qap rt tl
    have hlt3:(n1:Int)<(j:Int):=by omega
    have hlt4:(0:Int)<=(n1:Int):=by omega
    clear c1 hrt hn1
    by_cases h4:rt=tl
    ·have HE:=Hd (show R=(0,0) by rw [<- HR2.out];exact if_neg (fun h=>by rw [hla,decide_eq_true h4] at h;cases h.2))
     rw [decide_eq_true h4] at e4
     clear h4 hla ht0
     go_wp2_with fail
     go_quiet (fail)
     go_wp2
     go_ret2
     exact ⟨by rw [HE.out];rfl,QB.out.trans ⟨rfl,rfl,rfl,Nat.le_refl _,fun _ _=>rfl⟩⟩
    ·have HE:=Hd (show R=((j:Int),8) by rw [<- HR2.out];exact if_pos ⟨ht0,by rw [hla];exact decide_eq_false h4⟩)
     rw [decide_eq_false h4] at e4
     clear h4 hla ht0
     go_wp2_with fail
     go_quiet (fail)
     go_wp2
     go_ret2
     exact ⟨by rw [HE.out];rfl,QB.out.trans ⟨rfl,rfl,rfl,Nat.le_refl _,fun _ _=>rfl⟩⟩
theorem CheckOrder_c (f:Fmt) (A:Option Addr) (cp:Nat) (FA:Nat->Option Addr) (FC:Nat->Nat) (L:Option Addr) (LC:Nat) (rs:List RowP) (RA:Nat->Option Addr) (RC:Nat->Nat) (w:World) (ho:Kinds w A f.kinds FA FC) (hl:RowsM w L rs RA RC) (hLC:rs.length<=LC) (hLM:LC<=9223372036854775807) (hcp:f.kinds.length<=cp) (hm:0<=f.mark/\f.mark<=255) (hq:0<=f.quote/\f.quote<=255) (ht:Tab w) :
  Calls Tryz.prog 12 #[fmtG f A cp,.slice L rs.length LC] w (Qbk (ordF f rs).1 (ordF f rs).2 w):=by
 have HCH:=Hd (fun w h=>check_c f A cp FA FC w h hcp hm hq)
 have HCR:=Hd (fun hf w h h2 ht=>chkorder_c f A cp FA FC L LC rs RA RC w h hf h2 hLC hLM hcp hm ht)
 have HKI:=Hd ho;have HLM:=Hd hl;have HTB:=Hd ht
 obtain ⟨X,hX⟩:=ex_ (Qao f)
 obtain ⟨⟨i,e⟩,hY⟩:=ex_ (ordR f rs)
 obtain ⟨R,hR⟩:=ex_ (ordF f rs)
 have HR:=Hd (show (if X≠0 then (0,X) else (i,e))=R by rw [<- hR];unfold ordF;rw [hX,hY])
 rw [hX] at HCH HCR
 rw [hY] at HCR
 rw [hR]
 unfold Qbk at HCR ⊢
 unfold RetI at HCH
 simp only at HCR
 have hnr:=hl.len
 clear ho hl ht hX hY hR
 obtain ⟨m,q,ks,hd,tl,ct,sm⟩:=f
 unfold fmtG at HCH HCR ⊢
 simp only at HCH HCR HKI hcp ⊢
 obtain ⟨n,hn⟩:=ex_ (ks.length)
 rw [hn] at HCH HCR hcp ⊢
 clear hn
 have hF0:=Qac w (.cells #[.int .u8 m,.int .u8 q,.slice A n cp,.string hd,.string tl,.string ct,.string sm] 24) rfl
 have hB0:Below w.heap.size w (w.alloc (.cells #[.int .u8 m,.int .u8 q,.slice A n cp,.string hd,.string tl,.string ct,.string sm] 24)):=by go_grown
 obtain ⟨nr,hnr2⟩:=ex_ (rs.length)
 rw [hnr2] at HCR hnr ⊢
 clear hnr2
 go_enter Tryz.func12,Tryz.ntmps12
 obtain ⟨⟨f0,f1,f2,f3,f4,f5,f6⟩,f7⟩:=Qai hF0
 go_wp2_with fail
 refine (HCH.out _ (HKI.out.below hB0)).mono ?_
 rintro _ w2 ⟨rfl,hb2⟩
 have hF2:=Qaa hF0 hb2
 have hB2:=Qab hb2 hB0 hB0.size
 clear hF0 hb2 f0 f1 f2 f3 f4 f5 f6 f7 hB0
 obtain ⟨⟨f0,f1,f2,f3,f4,f5,f6⟩,f7⟩:=Qai hF2
 by_cases h0:X=0
 ·subst h0
  have HE:=Hd (show R=(i,e) by rw [<- HR.out,if_neg (fun h=>h rfl)])
  go_wp2_with fail
  refine (HCR.out trivial _ (HKI.out.below hB2) (HLM.out.below hB2) (HTB.out.below hB2)).mono ?_
  rintro _ w3 ⟨rfl,hb3⟩
  have hB3:=Qab hb3 hB2 hB2.size
  go_wp2
  go_ret2
  exact ⟨by rw [HE.out];rfl,hB3⟩
 ·have HE:=Hd (show R=(0,X) by rw [<- HR.out,if_pos h0])
  have h0a:(X !=0)=true:=by simpa using h0
  clear h0
  go_wp2
  go_ret2
  exact ⟨by rw [HE.out];rfl,hB2⟩
theorem rCheckOrder_c (f:Fmt) (A:Option Addr) (cp:Nat) (FA:Nat->Option Addr) (FC:Nat->Nat) (L:Option Addr) (LC:Nat) (rs:List RowP) (RA:Nat->Option Addr) (RC:Nat->Nat) (w:World) (ho:Kinds w A f.kinds FA FC) (hl:RowsM w L rs RA RC) (hLC:rs.length<=LC) (hLM:LC<=9223372036854775807) (hcp:f.kinds.length<=cp) (hm:0<=f.mark/\f.mark<=255) (hq:0<=f.quote/\f.quote<=255) (ht:Tab w) :
  Calls Tryz.prog 13 #[fmtG f A cp,.slice L rs.length LC] w (Qbk (ordF f rs).1 (ordF f rs).2 w):=by
 have HCH:=Hd (fun w h=>rcheck_c f A cp FA FC w h hcp hm hq)
 have HCR:=Hd (fun hf w h h2 ht=>rchkrows_c f A cp FA FC L LC rs RA RC w h h2 hcp hf hm ht)
 have HRO:=Hd (fun hf hkt i (hi:i<rs.length) w h h2=>rorder_c f A cp FA FC L LC rs RA RC i w h hf hcp h2 hLC hi hLM hkt)
 have HKT:=Hd (show (QbX f rs).2=0->∀ j,j<rs.length->0<=katI f (rA rs j).tag from fun h j hj=>(QbY (QbG h j hj)).kind)
 have HKI:=Hd ho;have HLM:=Hd hl;have HTB:=Hd ht
 have hnr:=hl.len
 have HLB:=Hd (show QbM f rs=(decide (0<rs.length)&&decide ((rA rs (rs.length-1)).tag=f.tail)) from rfl)
 obtain ⟨R,hR⟩:=ex_ (ordF f rs)
 have HR:=Hd hR
 unfold ordF ordR at HR
 rw [hR]
 clear ho hl ht hR
 obtain ⟨X,hX⟩:=ex_ (Qao f)
 rw [hX] at HCH HR
 rw [hX] at HCR HRO
 obtain ⟨⟨RI,RE⟩,hRE⟩:=ex_ (QbX f rs)
 rw [hRE] at HCR HR HKT
 obtain ⟨RO,hRO⟩:=ex_ (rowO f rs)
 rw [hRO] at HRO HR
 obtain ⟨LB,hLB⟩:=ex_ (QbM f rs)
 rw [hLB] at HLB HR
 generalize hKX:(∀ j,j<rs.length->0<=katI f (rA rs j).tag)=KX at HKT HRO
 clear hRE hRO hLB hX hKX
 unfold Qbk at HCR ⊢
 unfold RetI at HRO HCH
 obtain ⟨m,q,ks,hd,tl,ct,sm⟩:=f
 unfold fmtG at HCH HCR HRO ⊢
 simp only at HCH HCR HRO HKT HKI HR HLB hcp ⊢
 obtain ⟨nk,hnk⟩:=ex_ (ks.length)
 rw [hnk] at HCH HCR HRO ⊢
 obtain ⟨nr,hnr2⟩:=ex_ (rs.length)
 have HNR:=Hd hnr2
 rw [hnr2] at hnr hLC HCR HRO HR HLB ⊢
 clear hnk hnr2
 have hP:=Qac w (.cells #[.int .u8 m,.int .u8 q,.slice A nk cp,.string hd,.string tl,.string ct,.string sm] 24) rfl
 have hB1:Below w.heap.size w (w.alloc (.cells #[.int .u8 m,.int .u8 q,.slice A nk cp,.string hd,.string tl,.string ct,.string sm] 24)):=by go_grown
 go_enter Tryz.func13,Tryz.ntmps13
 go_upto_region 1 with fail
 generalize w.alloc (.cells #[.int .u8 m,.int .u8 q,.slice A nk cp,.string hd,.string tl,.string ct,.string sm] 24)=w1 at hP hB1 ⊢
 have HW:=Hd (show ∀ wx,Below w1.heap.size w1 wx->wx.heap[w.heap.size]?=some (.cells #[.int .u8 m,.int .u8 q,.slice A nk cp,.string hd,.string tl,.string ct,.string sm] 24 (0,0))/\Kinds wx A ks FA FC/\RowsM wx L rs RA RC/\Tab wx/\Below w.heap.size w wx from fun wx h=>by
  have h2:=Qab h hB1 hB1.size
  exact ⟨Qaa hP h,HKI.out.below h2,HLM.out.below h2,HTB.out.below h2,h2⟩)
 clear hP hB1
 obtain ⟨q1,qk,ql,qt,qb⟩:=HW.out _ (Below.refl _ _)
 obtain ⟨⟨p0,p1,p2,p3,p4,p5,p6⟩,-⟩:=Qai q1
 go_wp2_with fail
 refine (HCH.out _ qk).mono ?_
 rintro _ w0 ⟨rfl,hb0⟩
 have HB0:=Hd hb0
 clear q1 qk ql qt qb p0 p1 p2 p3 p4 p5 p6 hb0 HCH
 obtain ⟨q1,qk,ql,qt,qb⟩:=HW.out _ HB0.out
 obtain ⟨⟨p0,p1,p2,p3,p4,p5,p6⟩,-⟩:=Qai q1
 by_cases h0:X=0
 case neg=>
  have HE:=Hd (show R=(0,X) by rw [<- HR.out,if_pos h0])
  have h0a:(X !=0)=true:=by simpa using h0
  clear h0 q1 qk ql qt
  go_wp2
  go_ret2
  exact ⟨by rw [HE.out];rfl,qb⟩
 have HR0:=Hd ((if_neg (fun h=>h h0)).symm.trans HR.out)
 have HCR1:=Hd (HCR.out h0)
 have HRO1:=Hd (HRO.out h0)
 subst h0
 clear HR HCR HRO
 go_wp2_with fail
 refine (HCR1.out _ qk ql qt).mono ?_
 rintro _ w2 ⟨rfl,hb2⟩
 have HB2:=Hd (Qab hb2 HB0.out HB0.out.size)
 clear q1 qk ql qt qb p0 p1 p2 p3 p4 p5 p6 hb2 HCR1 HB0
 have QB:=Hd (HW.out _ HB2.out).2.2.2.2
 by_cases h3:RE=0
 case neg=>
  have HE:=Hd (show R=(RI,RE) by rw [<- HR0.out,if_pos h3])
  have h3a:(RE !=0)=true:=by simpa using h3
  clear h3
  go_wp2
  go_ret2
  exact ⟨by rw [HE.out];rfl,QB.out⟩
 have HR1:=Hd ((if_neg (fun h=>h h3)).symm.trans HR0.out)
 have HRO2:=Hd (HRO1.out (HKT.out h3))
 subst h3
 clear HR0 QB HRO1 HKT
 go_wp2_with fail
 go_loopw [28] (fun x wr=>∃ j:Nat,j<=nr/\x=.int .i64 (j:Int)/\Hid (Below w1.heap.size w1 wr)/\Hid (∀ t,t<j->RO t=0)) (fun x _=>nr-(intOf x).toNat)
 case atStart=>exact ⟨0,Nat.zero_le _,rfl,HB2,Hd (fun t h=>absurd h (Nat.not_lt_zero _))⟩
 case round=>
  clear HB2
  obtain ⟨j,hj,rfl,HB,HJ⟩:=hrel
  obtain ⟨q1,qk,ql,-,qb⟩:=HW.out _ HB.out
  have QK:=Hd qk;have QL:=Hd ql;have QB:=Hd qb
  obtain ⟨⟨p0,p1,p2,p3,p4,p5,p6⟩,-⟩:=Qai q1
  clear q1 qk ql qb
  rcases Nat.lt_or_ge j nr with hlt | hge
  ·have HRJ:=Hd (HRO2.out j hlt)
   obtain ⟨e,he⟩:=ex_ (RO j)
   have HRE:=Hd he
   rw [he] at HRJ
   clear he
   go_wp2_with fail
   refine (HRJ.out _ QK.out QL.out).mono ?_
   rintro _ w5 ⟨rfl,hb5⟩
   have HB5:=Hd (Qab hb5 HB.out HB.out.size)
   have QB5:=Hd (HW.out _ HB5.out).2.2.2.2
   clear p0 p1 p2 p3 p4 p5 p6 hb5 HB QK QL QB
   by_cases h0:e=0
   ·subst h0
    have HJ2:=Hd (show ∀ t,t<j+1->RO t=0 from fun t ht=>by
     rcases Nat.lt_or_ge t j with h | h
     ·exact HJ.out t h
     ·obtain rfl:t=j:=by omega
      exact HRE.out)
    go_wp2
    go_roundw
    case rel=>exact ⟨j+1,by omega,by go_num,HB5,HJ2⟩
    case measure=>simp [intOf];omega
   ·have hfr:=Qb2 (g:=RO) (j:=j) HJ.out (by rw [HRE.out];exact h0) hlt
    rw [HRE.out] at hfr
    have HE:=Hd (show R=((j:Int),e) by rw [<- HR1.out,hfr];exact if_pos h0)
    have h0a:(e !=0)=true:=by simpa using h0
    clear h0 hfr
    go_wp2
    go_ret2
    exact ⟨by rw [HE.out];rfl,QB5.out⟩
  ·obtain rfl:j=nr:=by omega
   have HR2:=Hd (show (if tl≠⟨#[]⟩/\LB=false then ((j:Int),(8:Int)) else (0,0))=R by rw [<- HR1.out,frF_no HJ.out];exact (if_neg (fun h=>h rfl)).symm)
   have e5:=Qah tl
   by_cases ht0:tl=⟨#[]⟩
   ·have HE:=Hd (show R=(0,0) by rw [<- HR2.out];exact if_neg (fun h=>h.1 ht0))
    rw [decide_eq_true ht0] at e5
    clear ht0
    go_wp2_with fail
    go_quiet (fail)
    go_wp2
    go_ret2
    exact ⟨by rw [HE.out];rfl,QB.out.trans ⟨rfl,rfl,rfl,Nat.le_refl _,fun _ _=>rfl⟩⟩
   rw [decide_eq_false ht0] at e5
   rcases Nat.eq_zero_or_pos j with h0 | h0
   ·have HE:=Hd (show R=((j:Int),8) by rw [<- HR2.out];exact if_pos ⟨ht0,by rw [HLB.out,decide_eq_false (by omega)];rfl⟩)
    subst h0
    clear ht0
    go_wp2_with fail
    go_quiet (fail)
    go_wp2
    go_ret2
    exact ⟨by rw [HE.out];rfl,QB.out.trans ⟨rfl,rfl,rfl,Nat.le_refl _,fun _ _=>rfl⟩⟩
   ·obtain ⟨n1,hn1⟩:=ex_ (j-1)
    have hix:(j:Int)-1=(n1:Int):=by omega
    have hwr:IntKind.i64.wrap ((n1:Nat):Int)=(n1:Int):=IntWalk.i64_in _ (by omega)
    have hne:((j:Int)==0)=false:=beq_eq_false_iff_ne.2 (by omega)
    have hnlt:n1<j:=by omega
    have hla:=HLB.out
    rw [hn1,decide_eq_true h0,Bool.true_and] at hla
    obtain ⟨b,off,rfl,hbk,c0,c1⟩:=QL.out.cells (j:=n1) (by rw [HNR.out];exact hnlt)
    obtain ⟨rt,hrt⟩:=ex_ ((rA rs n1).tag)
    rw [hrt] at c0 hla
    have e4:=Qap rt tl
    have hlt3:(n1:Int)<(j:Int):=by omega
    have hlt4:(0:Int)<=(n1:Int):=by omega
    clear c1 hrt hn1
    by_cases h4:rt=tl
    ·have HE:=Hd (show R=(0,0) by rw [<- HR2.out];exact if_neg (fun h=>by rw [hla,decide_eq_true h4] at h;cases h.2))
     rw [decide_eq_true h4] at e4
     clear h4 hla ht0
     go_wp2_with fail
     go_quiet (fail)
     go_wp2
     go_ret2
     exact ⟨by rw [HE.out];rfl,QB.out.trans ⟨rfl,rfl,rfl,Nat.le_refl _,fun _ _=>rfl⟩⟩
    ·have HE:=Hd (show R=((j:Int),8) by rw [<- HR2.out];exact if_pos ⟨ht0,by rw [hla];exact decide_eq_false h4⟩)
     rw [decide_eq_false h4] at e4
     clear h4 hla ht0
     go_wp2_with fail
     go_quiet (fail)
     go_wp2
     go_ret2
     exact ⟨by rw [HE.out];rfl,QB.out.trans ⟨rfl,rfl,rfl,Nat.le_refl _,fun _ _=>rfl⟩⟩
end Go.Proofs.YtaiabjiehpcaoaaGreatDoor
