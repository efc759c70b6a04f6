
/- The walks of checkOrder and CheckOrder. -/
import Derived.Test.YtbfbgappinilmaaGreatDoorC7
namespace Go.Proofs.YtbfbgappinilmaaGreatDoor
open Go.RowKit Limb Nmb Work
set_option linter.unusedVariables false
set_option linter.unusedSimpArgs false
set_option maxHeartbeats 4000000 in
set_option maxRecDepth 100000 in
theorem chkorder_c (f:Fmt) (A:Option Addr) (cp:Nat) (FA:Nat->Option Addr) (FC:Nat->Nat) (L:Option Addr) (LC:Nat) (rs:List RowP) (RA:Nat->Option Addr) (RC:Nat->Nat) (w:World) (ho:Kinds w A f.kinds FA FC) (hf:checkF f=0) (hl:RowsM w L rs RA RC) (hLC:rs.length<=LC) (hLM:LC<=9223372036854775807) (hcp:f.kinds.length<=cp) (hm:0<=f.mark/\f.mark<=255) (ht:Tab w) :
  Calls Tryz.prog 92 #[fmtG f A cp,.slice L rs.length LC] w (RetNF (ordR f rs).1 (ordR f rs).2 w):=by
 have HCR:=Lib.hid (fun w h h2 ht=>chkrows_c f A cp FA FC L LC rs RA RC w h h2 hcp hf hm ht)
 have HRO:=Lib.hid (fun i (hi:i<rs.length) w h h2=>roworder_c f A cp FA FC L LC rs RA RC i w h hf h2 hLC hi hLM)
 have HKI:=Lib.hid ho;have HLM:=Lib.hid hl;have HTB:=Lib.hid ht
 have hnr:=hl.len
 have HLB:=Lib.hid (show lastB f rs=(decide (0<rs.length)&&decide ((rA rs (rs.length-1)).tag=f.tail)) from rfl)
 obtain ⟨R,hR⟩:∃ x,ordR f rs=x:=⟨_,rfl⟩
 have HR:=Lib.hid hR
 unfold ordR at HR
 rw [hR]
 clear ho hl ht hR hf
 obtain ⟨⟨RI,RE⟩,hRE⟩:∃ x,rowsF f rs=x:=⟨_,rfl⟩
 rw [hRE] at HCR HR
 obtain ⟨RO,hRO⟩:∃ x,rowO f rs=x:=⟨_,rfl⟩
 rw [hRO] at HRO HR
 obtain ⟨LB,hLB⟩:∃ x,lastB f rs=x:=⟨_,rfl⟩
 rw [hLB] at HLB HR
 clear hRE hRO hLB
 unfold RetNF at HCR ⊢
 unfold RetI at HRO
 obtain ⟨m,q,ks,hd,tl,ct,sm⟩:=f
 unfold fmtG at HCR HRO ⊢
 simp only at HCR HRO HKI HR HLB hcp ⊢
 obtain ⟨nk,hnk⟩:∃ x,ks.length=x:=⟨_,rfl⟩
 rw [hnk] at HCR HRO ⊢
 obtain ⟨nr,hnr2⟩:∃ x,rs.length=x:=⟨_,rfl⟩
 have HNR:=Lib.hid hnr2
 rw [hnr2] at hnr hLC HCR HRO HR HLB ⊢
 clear hnk hnr2
 have hP:=heap_new w (.cells #[.int .u8 m,.int .u8 q,.slice A nk cp,.string hd,.string tl,.string ct,.string sm] 44) rfl
 have hB1:Below w.heap.size w (w.alloc (.cells #[.int .u8 m,.int .u8 q,.slice A nk cp,.string hd,.string tl,.string ct,.string sm] 44)):=by go_grown
 go_enter Tryz.func92,Tryz.ntmps92
 go_upto_region 1 with fail
 generalize w.alloc (.cells #[.int .u8 m,.int .u8 q,.slice A nk cp,.string hd,.string tl,.string ct,.string sm] 44)=w1 at hP hB1 ⊢
 have HW:=Lib.hid (show ∀ wx,Below w1.heap.size w1 wx->wx.heap[w.heap.size]?=some (.cells #[.int .u8 m,.int .u8 q,.slice A nk cp,.string hd,.string tl,.string ct,.string sm] 44 (0,0))/\Kinds wx A ks FA FC/\RowsM wx L rs RA RC/\Tab wx/\Below w.heap.size w wx from fun wx h=>by
  have h2:=below_then h hB1 hB1.size
  exact ⟨heap_below hP h,HKI.out.below h2,HLM.out.below h2,HTB.out.below h2,h2⟩)
 clear hP hB1
 obtain ⟨q1,qk,ql,qt,qb⟩:=HW.out _ (Below.refl _ _)
 obtain ⟨⟨p0,p1,p2,p3,p4,p5,p6⟩,-⟩:=obox7 q1
 go_wp2_with fail
 refine (HCR.out _ qk ql qt).mono ?_
 rintro _ w2 ⟨rfl,hb2⟩
 have HB2:=Lib.hid hb2
 clear q1 qk ql qt qb p0 p1 p2 p3 p4 p5 p6 hb2 HCR
 have QB:=Lib.hid (HW.out _ HB2.out).2.2.2.2
 by_cases h3:RE=0
 case neg=>
  have HE:=Lib.hid (show R=(RI,RE) by rw [<- HR.out,if_pos h3])
  have h3a:(RE !=0)=true:=by simpa using h3
  clear h3
  go_wp2
  go_ret2
  exact ⟨by rw [HE.out];rfl,QB.out⟩
 have HR1:=Lib.hid ((if_neg (fun h=>h h3)).symm.trans HR.out)
 subst h3
 clear HR QB
 go_wp2_with fail
 go_loopw [22] (fun x wr=>∃ j:Nat,j<=nr/\x=.int .i64 (j:Int)/\Hid (Below w1.heap.size w1 wr)/\Hid (∀ t,t<j->RO t=0)) (fun x _=>nr-(intOf x).toNat)
 case atStart=>exact ⟨0,Nat.zero_le _,rfl,HB2,Lib.hid (fun t h=>absurd h (Nat.not_lt_zero _))⟩
 case round=>
  clear HB2
  obtain ⟨j,hj,rfl,HB,HJ⟩:=hrel
  obtain ⟨q1,qk,ql,-,qb⟩:=HW.out _ HB.out
  have QK:=Lib.hid qk;have QL:=Lib.hid ql;have QB:=Lib.hid qb
  obtain ⟨⟨p0,p1,p2,p3,p4,p5,p6⟩,-⟩:=obox7 q1
  clear q1 qk ql qb
  rcases Nat.lt_or_ge j nr with hlt | hge
  ·have HRJ:=Lib.hid (HRO.out j hlt)
   obtain ⟨e,he⟩:∃ x,RO j=x:=⟨_,rfl⟩
   have HRE:=Lib.hid he
   rw [he] at HRJ
   clear he
   go_wp2_with fail
   refine (HRJ.out _ QK.out QL.out).mono ?_
   rintro _ w5 ⟨rfl,hb5⟩
   have HB5:=Lib.hid (below_then hb5 HB.out HB.out.size)
   have QB5:=Lib.hid (HW.out _ HB5.out).2.2.2.2
   clear p0 p1 p2 p3 p4 p5 p6 hb5 HB QK QL QB
   by_cases h0:e=0
   ·subst h0
    have HJ2:=Lib.hid (show ∀ t,t<j+1->RO t=0 from fun t ht=>by
     rcases Nat.lt_or_ge t j with h | h
     ·exact HJ.out t h
     ·obtain rfl:t=j:=by omega
      exact HRE.out)
    go_wp2
    go_roundw
    case rel=>exact ⟨j+1,by omega,by go_num,HB5,HJ2⟩
    case measure=>simp [intOf];omega
   ·have hfr:=frF_hit (g:=RO) (j:=j) HJ.out (by rw [HRE.out];exact h0) hlt
    rw [HRE.out] at hfr
    have HE:=Lib.hid (show R=((j:Int),e) by rw [<- HR1.out,hfr];exact if_pos h0)
    have h0a:(e !=0)=true:=by simpa using h0
    clear h0 hfr
    go_wp2
    go_ret2
    exact ⟨by rw [HE.out];rfl,QB5.out⟩
  ·obtain rfl:j=nr:=by omega
   have HR2:=Lib.hid (show (if tl≠⟨#[]⟩/\LB=false then ((j:Int),(8:Int)) else (0,0))=R by rw [<- HR1.out,frF_no HJ.out];exact (if_neg (fun h=>h rfl)).symm)
   have e5:=emp_dec tl
   by_cases ht0:tl=⟨#[]⟩
   ·have HE:=Lib.hid (show R=(0,0) by rw [<- HR2.out];exact if_neg (fun h=>h.1 ht0))
    rw [decide_eq_true ht0] at e5
    clear ht0
    go_wp2_with fail
    go_quiet (fail)
    go_wp2
    go_ret2
    exact ⟨by rw [HE.out];rfl,QB.out.trans ⟨rfl,rfl,rfl,Nat.le_refl _,fun _ _=>rfl⟩⟩
   rw [decide_eq_false ht0] at e5
   rcases Nat.eq_zero_or_pos j with h0 | h0
   ·have HE:=Lib.hid (show R=((j:Int),8) by rw [<- HR2.out];exact if_pos ⟨ht0,by rw [HLB.out,decide_eq_false (by omega)];rfl⟩)
    subst h0
    clear ht0
    go_wp2_with fail
    go_quiet (fail)
    go_wp2
    go_ret2
    exact ⟨by rw [HE.out];rfl,QB.out.trans ⟨rfl,rfl,rfl,Nat.le_refl _,fun _ _=>rfl⟩⟩
   ·obtain ⟨n1,hn1⟩:∃ x,j-1=x:=⟨_,rfl⟩
    have hix:(j:Int)-1=(n1:Int):=by omega
    have hwr:IntKind.i64.wrap ((n1:Nat):Int)=(n1:Int):=IntWalk.i64_in _ (by omega)
    have hne:((j:Int)==0)=false:=beq_eq_false_iff_ne.2 (by omega)
    have hnlt:n1<j:=by omega
    have hla:=HLB.out
    rw [hn1,decide_eq_true h0,Bool.true_and] at hla
    obtain ⟨b,off,rfl,hbk,c0,c1⟩:=QL.out.cells (j:=n1) (by rw [HNR.out];exact hnlt)
    obtain ⟨rt,hrt⟩:∃ x,(rA rs n1).tag=x:=⟨_,rfl⟩
    rw [hrt] at c0 hla
    have e4:=bytes_dec rt tl
    have hlt3:(n1:Int)<(j:Int):=by omega
    have hlt4:(0:Int)<=(n1:Int):=by omega
    clear c1 hrt hn1
    by_cases h4:rt=tl
    ·have HE:=Lib.hid (show R=(0,0) by rw [<- HR2.out];exact if_neg (fun h=>by rw [hla,decide_eq_true h4] at h;cases h.2))
     rw [decide_eq_true h4] at e4
     clear h4 hla ht0
     go_wp2_with fail
     go_quiet (fail)
     go_wp2
     go_ret2
     exact ⟨by rw [HE.out];rfl,QB.out.trans ⟨rfl,rfl,rfl,Nat.le_refl _,fun _ _=>rfl⟩⟩
    ·have HE:=Lib.hid (show R=((j:Int),8) by rw [<- HR2.out];exact if_pos ⟨ht0,by rw [hla];exact decide_eq_false h4⟩)
     rw [decide_eq_false h4] at e4
     clear h4 hla ht0
     go_wp2_with fail
     go_quiet (fail)
     go_wp2
     go_ret2
     exact ⟨by rw [HE.out];rfl,QB.out.trans ⟨rfl,rfl,rfl,Nat.le_refl _,fun _ _=>rfl⟩⟩
set_option maxHeartbeats 2000000 in
set_option maxRecDepth 100000 in
theorem CheckOrder_c (f:Fmt) (A:Option Addr) (cp:Nat) (FA:Nat->Option Addr) (FC:Nat->Nat) (L:Option Addr) (LC:Nat) (rs:List RowP) (RA:Nat->Option Addr) (RC:Nat->Nat) (w:World) (ho:Kinds w A f.kinds FA FC) (hl:RowsM w L rs RA RC) (hLC:rs.length<=LC) (hLM:LC<=9223372036854775807) (hcp:f.kinds.length<=cp) (hm:0<=f.mark/\f.mark<=255) (hq:0<=f.quote/\f.quote<=255) (ht:Tab w) :
  Calls Tryz.prog 51 #[fmtG f A cp,.slice L rs.length LC] w (RetNF (ordF f rs).1 (ordF f rs).2 w):=by
 have HCH:=Lib.hid (fun w h=>check_c f A cp FA FC w h hcp hm hq)
 have HCR:=Lib.hid (fun hf w h h2 ht=>chkorder_c f A cp FA FC L LC rs RA RC w h hf h2 hLC hLM hcp hm ht)
 have HKI:=Lib.hid ho;have HLM:=Lib.hid hl;have HTB:=Lib.hid ht
 obtain ⟨X,hX⟩:∃ x,checkF f=x:=⟨_,rfl⟩
 obtain ⟨⟨i,e⟩,hY⟩:∃ x,ordR f rs=x:=⟨_,rfl⟩
 obtain ⟨R,hR⟩:∃ x,ordF f rs=x:=⟨_,rfl⟩
 have HR:=Lib.hid (show (if X≠0 then (0,X) else (i,e))=R by rw [<- hR];unfold ordF;rw [hX,hY])
 rw [hX] at HCH HCR
 rw [hY] at HCR
 rw [hR]
 unfold RetNF at HCR ⊢
 unfold RetI at HCH
 simp only at HCR
 have hnr:=hl.len
 clear ho hl ht hX hY hR
 obtain ⟨m,q,ks,hd,tl,ct,sm⟩:=f
 unfold fmtG at HCH HCR ⊢
 simp only at HCH HCR HKI hcp ⊢
 obtain ⟨n,hn⟩:∃ x,ks.length=x:=⟨_,rfl⟩
 rw [hn] at HCH HCR hcp ⊢
 clear hn
 have hF0:=heap_new w (.cells #[.int .u8 m,.int .u8 q,.slice A n cp,.string hd,.string tl,.string ct,.string sm] 44) rfl
 have hB0:Below w.heap.size w (w.alloc (.cells #[.int .u8 m,.int .u8 q,.slice A n cp,.string hd,.string tl,.string ct,.string sm] 44)):=by go_grown
 obtain ⟨nr,hnr2⟩:∃ x,rs.length=x:=⟨_,rfl⟩
 rw [hnr2] at HCR hnr ⊢
 clear hnr2
 go_enter Tryz.func51,Tryz.ntmps51
 obtain ⟨⟨f0,f1,f2,f3,f4,f5,f6⟩,f7⟩:=obox7 hF0
 go_wp2_with fail
 refine (HCH.out _ (HKI.out.below hB0)).mono ?_
 rintro _ w2 ⟨rfl,hb2⟩
 have hF2:=heap_below hF0 hb2
 have hB2:=below_then hb2 hB0 hB0.size
 clear hF0 hb2 f0 f1 f2 f3 f4 f5 f6 f7 hB0
 obtain ⟨⟨f0,f1,f2,f3,f4,f5,f6⟩,f7⟩:=obox7 hF2
 by_cases h0:X=0
 ·subst h0
  have HE:=Lib.hid (show R=(i,e) by rw [<- HR.out,if_neg (fun h=>h rfl)])
  go_wp2_with fail
  refine (HCR.out trivial _ (HKI.out.below hB2) (HLM.out.below hB2) (HTB.out.below hB2)).mono ?_
  rintro _ w3 ⟨rfl,hb3⟩
  have hB3:=below_then hb3 hB2 hB2.size
  go_wp2
  go_ret2
  exact ⟨by rw [HE.out];rfl,hB3⟩
 ·have HE:=Lib.hid (show R=(0,X) by rw [<- HR.out,if_pos h0])
  have h0a:(X !=0)=true:=by simpa using h0
  clear h0
  go_wp2
  go_ret2
  exact ⟨by rw [HE.out];rfl,hB2⟩
end Go.Proofs.YtbfbgappinilmaaGreatDoor
