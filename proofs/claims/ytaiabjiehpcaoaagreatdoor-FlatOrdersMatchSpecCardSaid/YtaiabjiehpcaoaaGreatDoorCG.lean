
/- The walks of the reference's clone and Closed. (Printed by genCG.py.) -/
import Derived.Test.YtaiabjiehpcaoaaGreatDoorCF
import Derived.Test.YtaiabjiehpcaoaaGreatDoorCH
import Derived.Test.YtaiabjiehpcaoaaGreatDoorC6
set_option maxHeartbeats 8000000
set_option maxRecDepth 100000
namespace Go.Proofs.YtaiabjiehpcaoaaGreatDoor
open Go.RowKit Limb Nmb Work
set_option linter.unusedVariables false
set_option linter.unusedSimpArgs false
def tailC (f:Fmt) (rs:List RowP):List ByteArray:=if f.count≠⟨#[]⟩ then (Qbu f rs).set (cntI f) (cntS (innL f rs)) else Qbu f rs
theorem tail_comm {f:Fmt} {rs:List RowP} (hf:Qao f=0):QbO f rs=if f.sum≠⟨#[]⟩ then (tailC f rs).set (sumI f) (sumS f (innL f rs)) else tailC f rs:=by
 have he:=endsF_out (QbL hf)
 unfold QbO tailV1 tailC
 by_cases hc:f.count≠⟨#[]⟩
 ·by_cases hs:f.sum≠⟨#[]⟩
  ·simp only [if_pos hc,if_pos hs]
   refine (List.set_comm _ _ fun e=>?_)
   have h3:=ix_lt (he.2.2.2.2.2.1 hs).1
   have h4:=ix_lt (he.2.2.2.2.1 hc)
   have h6:f.count=f.sum:=by
    rw [<- h4.2,<- h3.2]
    unfold cntI sumI at e
    rw [e]
   exact hc (he.2.2.2.2.2.2 h6)
  ·simp only [if_pos hc,if_neg hs]
 ·by_cases hs:f.sum≠⟨#[]⟩
  ·simp only [if_neg hc,if_pos hs]
  ·simp only [if_neg hc,if_neg hs]
theorem TailSt.both {wk wx:World} {TB:Nat} {tl:ByteArray} {V U:List ByteArray} {Y:Option Addr} {e:Nat} (h:TailSt wk wx TB tl V) (ho:wx.ownsRow wk.heap.size 9 1 (.slice Y U.length e) U.length (Qbv U)):TailSt wk ((wx.setCell ⟨TB,0,none⟩ (.string tl)).setCell ⟨TB,1,none⟩ (.slice Y U.length e)) TB tl U:=by
 obtain ⟨TX,TC,h1,h2,h3,h4⟩:=h
 have h5:=Qae h2 0 (.string tl)
 exact ⟨Y,e,h1,Qae h5 1 _,own_set9 (own_set9 ho h2 (by decide) _) h5 (by decide) _,(h4.setCell (p:=⟨TB,0,none⟩) h1 _).setCell (p:=⟨TB,1,none⟩) h1 _⟩
def RetCln (r:RowP) (w:World) (e:Ending) (w':World):Prop:=∃ X d,e=.returned (.agg #[.string r.tag,.slice X r.vals.length d])/\w'.ownsRow w.heap.size 9 1 (.slice X r.vals.length d) r.vals.length (Qbv r.vals)/\Below w.heap.size w w'
theorem rclone_c (r:RowP) (RJ:Option Addr) (CJ:Nat) (w:World) (hs:Svs w RJ r.vals) (hz:r.vals.length<=1000000) :
  Calls Tryz.prog 49 #[rowG r RJ CJ] w (RetCln r w):=by
 have HCS:=Hd (fun wx (h:Below w.heap.size w wx)=>cloneS_c r.vals RJ CJ wx (hs.below h) hz)
 obtain ⟨rt,vs⟩:=r
 unfold rowG RetCln
 unfold RetCS at HCS
 simp only at HCS ⊢
 obtain ⟨nv,hnv⟩:=ex_ (vs.length)
 rw [hnv] at HCS ⊢
 clear hnv hs hz
 have hR:=Qad (Qac w (.cells #[.string rt,.slice RJ nv CJ] 49) rfl) (.cells #[.string ⟨#[]⟩,.slice none 0 0] 49)
 have hZ:=Qac (w.alloc (.cells #[.string rt,.slice RJ nv CJ] 49)) (.cells #[.string ⟨#[]⟩,.slice none 0 0] 49) (g:=w.heap.size+1) (by simp)
 have hB1:Below w.heap.size w ((w.alloc (.cells #[.string rt,.slice RJ nv CJ] 49)).alloc (.cells #[.string ⟨#[]⟩,.slice none 0 0] 49)):=by go_grown
 go_enter Tryz.func49,Tryz.ntmps49
 go_upto_region 1 with fail
 generalize (w.alloc (.cells #[.string rt,.slice RJ nv CJ] 49)).alloc (.cells #[.string ⟨#[]⟩,.slice none 0 0] 49)=w1 at hR hZ hB1 ⊢
 have HR:=Hd hR;have HZ:=Hd hZ;have HB1:=Hd hB1
 clear hR hZ hB1
 have HS:=Hd (show ∀ wx,Below w1.heap.size w1 wx->(fun w':World=>w'.cell? ⟨w.heap.size,0,none⟩=some (.string rt)/\w'.cell? ⟨w.heap.size,1,none⟩=some (.slice RJ nv CJ)) wx from fun wx h=>by
  obtain ⟨r0,r1,-,-,-⟩:=box2 (Qaa HR.out h)
  exact ⟨r0,r1⟩)
 have hT:=HS.out _ (Below.refl _ _).drew
 refine Qaq 6 (fun w':World=>w'.cell? ⟨w.heap.size,0,none⟩=some (.string rt)/\w'.cell? ⟨w.heap.size,1,none⟩=some (.slice RJ nv CJ)) (by kernel_rfl) ?_
 refine Till.tk (i:=0) (v:=?_) rfl [1,5] hT (Or.inl ⟨by rfl,?_⟩) ?_
 rotate_left
 ·(intro w' hw';obtain ⟨u0,u1⟩:=hw';go_simp;try with_reducible rfl)
 (try simp only [Act.put,Till.a,Till.b,Till.c])
 refine Till.tk (i:=1) (v:=?_) rfl [5] hT (Or.inl ⟨by rfl,?_⟩) ?_
 rotate_left
 ·(intro w' hw';obtain ⟨u0,u1⟩:=hw';go_simp;try with_reducible rfl)
 (try simp only [Act.put,Till.a,Till.b,Till.c])
 refine Till.tk (i:=2) (v:=?_) rfl [3,4,5] hT (Or.inl ⟨by rfl,?_⟩) ?_
 rotate_left
 ·(intro w' hw';obtain ⟨u0,u1⟩:=hw';go_simp;try with_reducible rfl)
 (try simp only [Act.put,Till.a,Till.b,Till.c])
 refine Till.tk (i:=3) (v:=?_) rfl [4,5] hT (Or.inl ⟨by rfl,?_⟩) ?_
 rotate_left
 ·(intro w' hw';obtain ⟨u0,u1⟩:=hw';go_simp;try with_reducible rfl)
 (try simp only [Act.put,Till.a,Till.b,Till.c])
 refine Till.step (i:=4) (by kernel_rfl) rfl ?_
 intro K hK
 go_simp
 (go_at_call 46;refine (HCS.out _ HB1.out.drew).mono ?_;rintro _ w9 ⟨Y,e,rfl,hown9,hb9⟩;(have T9:Below w1.heap.size w1 w9:=⟨hb9.os,hb9.tape,hb9.output,hb9.size,hb9.block⟩))
 have hT:=HS.out _ T9
 refine hK.out _ _ (fun _=>hT) ?_
 clear hK K
 (try simp only [Act.put,Till.a,Till.b,Till.c])
 refine Till.tk (i:=5) (v:=?_) rfl [] hT (Or.inl ⟨by rfl,?_⟩) ?_
 rotate_left
 ·(intro w' hw';obtain ⟨u0,u1⟩:=hw';go_simp;try with_reducible rfl)
 (try simp only [Act.put,Till.a,Till.b,Till.c])
 obtain ⟨z0,z1,z2,z3,z4⟩:=box2 (Qaa HZ.out T9)
 have HZ9:=Hd (Qaa HZ.out T9)
 refine Till.step (i:=6) (by kernel_rfl) rfl ?_
 intro K hK
 go_simp
 refine hK.out _ _ (fun h=>absurd h (by decide)) ?_
 clear hK K
 (try simp only [Act.put,Till.a,Till.b,Till.c])
 refine Till.done (by kernel_rfl) ?_ _
 have HO9:=Hd (own_mono hown9 (show w.heap.size<=w1.heap.size from HB1.out.size))
 have HB9:=Hd (Qab T9 HB1.out HB1.out.size)
 clear hT hown9 hb9 T9 HCS
 go_wp2
 have hz5:=Qae HZ9.out 0 (.string rt)
 have hz9:((w9.setCell ⟨w.heap.size+1,0,none⟩ (.string rt)).setCell ⟨w.heap.size+1,1,none⟩ (.slice Y nv e)).heap[w.heap.size+1]?=some (.cells #[.string rt,.slice Y nv e] 49 (0,0)):=Qae hz5 1 _
 obtain ⟨r0,r1,-,-,-⟩:=box2 hz9
 refine bodyPost_ret (v:=.agg #[.string rt,.slice Y nv e]) (by simp [results,Tryz.results49,go_sem,r0,r1]) rfl ⟨Y,e,rfl,?_,?_⟩
 ·exact own_set9 (own_set9 HO9.out HZ9.out (by decide) _) hz5 (by decide) _
 ·exact (HB9.out.setCell (p:=⟨w.heap.size+1,0,none⟩) (by show w.heap.size<=w.heap.size+1;omega) _).setCell (p:=⟨w.heap.size+1,1,none⟩) (by show w.heap.size<=w.heap.size+1;omega) _
theorem rClosed_c (f:Fmt) (A:Option Addr) (cp:Nat) (FA:Nat->Option Addr) (FC:Nat->Nat) (L:Option Addr) (LC:Nat) (rs:List RowP) (RA:Nat->Option Addr) (RC:Nat->Nat) (w:World) (ho:Kinds w A f.kinds FA FC) (hl:RowsM w L rs RA RC) (hLC:rs.length<=LC) (hcp:f.kinds.length<=cp) (hm:0<=f.mark/\f.mark<=255) (hq:0<=f.quote/\f.quote<=255) (ht:Tab w) :
  Calls Tryz.prog 17 #[fmtG f A cp,.slice L rs.length LC] w (RetCD (closedR f rs) w):=by
 have HCH:=Hd (fun w h=>rcheck_c f A cp FA FC w h hcp hm hq)
 have HCR:=Hd (fun hf w h h2 ht=>rchkrows_c f A cp FA FC L LC rs RA RC w h h2 hcp hf hm ht)
 have HKA:=Hd (fun w h=>Qbg f A cp FA FC f.tail w h)
 have HCW:=Hd (fun hf V X c w h h2 ht=>rcheckrow_c f A cp FA FC ⟨f.tail,V⟩ X c w h h2 hcp hf hm ht)
 have HKC:=Hd (QaX f FA FC f.tail)
 have HFK:=Hd (fun h=>checkF_ok (f:=f) h)
 have HEN:=Hd (fun h=>endsF_out (QbL (f:=f) h))
 have HRZ:=Hd (fun h=>QbG (f:=f) (rs:=rs) h)
 have HIL:=Hd (inn_len f rs)
 have HIR:=Hd (fun h=>inn_rest (f:=f) (rs:=rs) h)
 have HCN:=Hd (fun w h=>rcount_c f A cp L LC (QbZ f rs) RA RC w h)
 have HSU:=Hd (fun hrk hlim hks w h h2=>rsum_c f A cp FA FC L LC (QbZ f rs) RA RC w h h2 hcp hrk hlim hks)
 have HSZ:=Hd (sumZr_bd f ⟨#[]⟩ f.sum (innL f rs) (innL f rs).length)
 have HTO:=Hd (fun w s A n c h hz ht=>told_c w (s:=s) (A:=A) (n:=n) (c:=c) (z:=Qa8 f ⟨#[]⟩ f.sum (innL f rs) (innL f rs).length) h hz ht)
 have HTX:=Hd (fun h=>toldL_textR (z:=Qa8 f ⟨#[]⟩ f.sum (innL f rs) (innL f rs).length) h)
 have HSBE:=Hd (show sumB f (innL f rs)=(decide (f.sum≠⟨#[]⟩)&&(innL f rs).any (badB f)) from rfl)
 have HT0:=Hd (fun h=>tail0_len (f:=f) (rs:=rs) h)
 have HLA:=Hd (show QbM f rs=(decide (0<rs.length)&&decide ((rA rs (rs.length-1)).tag=f.tail)) from rfl)
 have HRL:=Hd (show QbZ f rs=if QbM f rs=true then rs.take (rs.length-1) else rs from rfl)
 have HRR:=Hd (fun j h=>rest_rA (f:=f) (rs:=rs) (j:=j) h)
 have HV0:=Hd (show Qbu f rs=if QbM f rs=true then (rA rs (rs.length-1)).vals else List.replicate (katK f f.tail).fields.length ⟨#[]⟩ from rfl)
 have HV1:=Hd (show tailC f rs=if f.count≠⟨#[]⟩ then (Qbu f rs).set (ixF (Qaj f.count) (katK f f.tail).fields).toNat (bs (Lib.itoa ((innL f rs).length:Int))) else Qbu f rs from rfl)
 have HV2:=Hd (show Qao f=0->QbO f rs=if f.sum≠⟨#[]⟩ then (tailC f rs).set (ixF (Qaj f.sum) (katK f f.tail).fields).toNat (bs (QbV (sumD f (innL f rs)).1 (sumD f (innL f rs)).2.1)) else tailC f rs from fun h=>tail_comm h)
 have HVS:=Hd (show ∀ N:Nat,(∀ s∈Qbu f rs,s.size<=N)->(bs (QbV (sumD f (innL f rs)).1 (sumD f (innL f rs)).2.1)).size<=N->(bs (Lib.itoa ((innL f rs).length:Int))).size<=N->∀ s∈QbO f rs,s.size<=N from fun N h1 h2 h3=>by
  have h4:∀ s∈tailV1 f rs,s.size<=N:=by
   unfold tailV1
   split
   ·exact set_size h1 h2
   ·exact h1
  unfold QbO
  split
  ·exact set_size h4 h3
  ·exact h4)
 have HS1:=Hd (sumS_size (sumD f (innL f rs)))
 have HS2:=Hd (fun h=>cntS_size (innL f rs) h)
 have HRM:=Hd (fun w h=>RowsM.rest (w:=w) (L:=L) (f:=f) (rs:=rs) (RA:=RA) (RC:=RC) h)
 have HQL:=Hd (rest_len f rs)
 have HK:=Hd ho;have HLM:=Hd hl;have HTB:=Hd ht
 have hnr':=hl.len
 obtain ⟨R,hR⟩:=ex_ (closedR f rs)
 have HR:=Hd ((closedR_eq f rs).symm.trans hR)
 rw [hR]
 clear hR ho hl ht
 obtain ⟨F1,hF1⟩:=ex_ (Qao f)
 obtain ⟨⟨RI,RE⟩,hRE⟩:=ex_ (QbX f rs)
 obtain ⟨V0,hV0⟩:=ex_ (Qbu f rs)
 obtain ⟨V1,hV1⟩:=ex_ (tailC f rs)
 obtain ⟨V2,hV2⟩:=ex_ (QbO f rs)
 obtain ⟨RL,hRL⟩:=ex_ (QbZ f rs)
 obtain ⟨LB,hLB⟩:=ex_ (QbM f rs)
 unfold sumD at HR HV2 HVS HS1
 obtain ⟨Z,hZ⟩:=ex_ (Qa8 f ⟨#[]⟩ f.sum (innL f rs) (innL f rs).length)
 obtain ⟨AB,hAB⟩:=ex_ ((innL f rs).any (badB f))
 obtain ⟨SB,hSB⟩:=ex_ (sumB f (innL f rs))
 rw [hRL] at HIR HCN HSU HRR HRM HQL
 have HCN2:Hid (f.tail≠⟨#[]⟩->∀ w,RowsM w L RL RA RC->Calls Tryz.prog 43 #[fmtG f A cp,.slice L RL.length LC] w (RetI ((innL f rs).length:Int) w)):=Hd (fun h w h2=>by
  have:=HCN.out w h2
  rw [HIR.out h] at this
  exact this)
 have HSU2:Hid (f.tail≠⟨#[]⟩->(∀ j,j<RL.length->RowK f (rA RL j))->RL.length<=1000000000000000->0<f.kinds.length->∀ w,Kinds w A f.kinds FA FC->RowsM w L RL RA RC->Calls Tryz.prog 44 #[fmtG f A cp,.slice L RL.length LC] w (RetSu AB Z w)):=Hd (fun h hrk hlim hks w h2 h3=>by
  have:=HSU.out hrk hlim hks w h2 h3
  rw [HIR.out h,hZ,hAB] at this
  exact this)
 clear HIR HCN HSU
 rw [hF1,hRE,hSB,hZ,hV2,hRL] at HR
 rw [hF1] at HCH HCR HCW HFK HEN HV2
 rw [hRE] at HCR HRZ HT0
 rw [hZ] at HSZ HTO HTX HV2 HVS HS1
 rw [hAB,hSB] at HSBE
 obtain ⟨ni,hni⟩:=ex_ ((innL f rs).length)
 rw [hni] at HSZ HCN2 HIL HV1 HVS
 have HNI:=Hd hni
 rw [hV0,hV2] at HVS
 rw [hV0] at HT0 HV0 HV1
 rw [hV1] at HV1 HV2
 rw [hV2] at HV2
 rw [hRL,hLB] at HRL
 rw [hLB] at HLA HV0
 obtain ⟨SD,hSD⟩:=ex_ (fewF Z 9)
 obtain ⟨⟨WI,WE⟩,hWE⟩:=ex_ (rowF f ⟨f.tail,V2⟩)
 have HWE:=Hd hWE
 rw [hSD,hWE] at HR
 rw [hSD] at HTO HTX HV2 HVS HS1
 simp only at HR HCR
 obtain ⟨nq,hnq⟩:=ex_ (RL.length)
 have HNQ:=Hd hnq
 rw [hnq] at HR HQL HCN2 HSU2 HRR
 clear hF1 hRE hV0 hV1 hV2 hRL hLB hSB hSD hWE hnq hZ hAB hni
 unfold RetI at HCH HCN2
 unfold Qbk at HCR HCW
 unfold RetSu at HSU2
 unfold RetST at HTO
 obtain ⟨SF,hSF⟩:=ex_ ((if AB=true then (6:Int) else 0))
 rw [hSF] at HSU2
 have HSFE:=Hd hSF
 clear hSF
 have HRK:Hid (∀ r,RowK f r->RowK f r):=Hd (fun _ h=>h)
 obtain ⟨m,q,ks,hd,tl,ct,sm⟩:=f
 unfold fmtG at HCH HCR HCN2 HSU2 HKA HCW ⊢
 simp only at HCH HCR HCN2 HSU2 HKA HCW HR HK HKC HEN HLA HV1 HV2 HRL HV0 HSBE hcp hm ⊢
 have hnk:=HK.out.1.2
 obtain ⟨nk,hn⟩:=ex_ (ks.length)
 have HNK:=Hd hn
 rw [hn] at HCH HCR HCN2 HSU2 HKA HCW hcp hnk ⊢
 clear hn
 obtain ⟨nr,hnr⟩:=ex_ (rs.length)
 have HNR:=Hd hnr
 rw [hnr] at HCR HR HLA HV0 HRL HIL HQL hnr' hLC ⊢
 clear hnr
 have hP:=Qac w (.cells #[.int .u8 m,.int .u8 q,.slice A nk cp,.string hd,.string tl,.string ct,.string sm] 24) rfl
 have hB1:Below w.heap.size w (w.alloc (.cells #[.int .u8 m,.int .u8 q,.slice A nk cp,.string hd,.string tl,.string ct,.string sm] 24)):=by go_grown
 go_enter Tryz.func17,Tryz.ntmps17
 go_upto_region 1 with fail
 generalize w.alloc (.cells #[.int .u8 m,.int .u8 q,.slice A nk cp,.string hd,.string tl,.string ct,.string sm] 24)=w1 at hP hB1 ⊢
 have HW:=Hd (show ∀ wx,Below w1.heap.size w1 wx->wx.heap[w.heap.size]?=some (.cells #[.int .u8 m,.int .u8 q,.slice A nk cp,.string hd,.string tl,.string ct,.string sm] 24 (0,0))/\Kinds wx A ks FA FC/\RowsM wx L rs RA RC/\Tab wx/\Below w.heap.size w wx from fun wx h=>by
  have h2:=Qab h hB1 hB1.size
  exact ⟨Qaa hP h,HK.out.below h2,HLM.out.below h2,HTB.out.below h2,h2⟩)
 clear hP hB1
 obtain ⟨q1,qk,-,-,-⟩:=HW.out _ (Below.refl _ _)
 obtain ⟨⟨p0,p1,p2,p3,p4,p5,p6⟩,-⟩:=Qai q1
 go_wp2_with fail
 refine (HCH.out _ qk).mono ?_
 rintro _ w2 ⟨rfl,hb2⟩
 have HB2:=Hd hb2
 clear q1 qk p0 p1 p2 p3 p4 p5 p6 hb2
 obtain ⟨q1,qk,ql,qt,qb⟩:=HW.out _ HB2.out
 obtain ⟨⟨p0,p1,p2,p3,p4,p5,p6⟩,-⟩:=Qai q1
 by_cases h0:F1=0
 case neg=>
  have HE:=Hd (show R=([],F1) by rw [<- HR.out,if_pos h0])
  have h0a:(F1 !=0)=true:=by simpa using h0
  clear h0 q1 qk ql qt
  go_wp2
  go_ret2
  rw [HE.out]
  exact RetCD.no qb
 have HR1:=Hd ((if_neg (fun h=>h h0)).symm.trans HR.out)
 subst h0
 have e1:=Qah tl
 by_cases h1:tl=⟨#[]⟩
 ·have HE:=Hd (show R=([],9) by rw [<- HR1.out,if_pos h1])
  rw [decide_eq_true h1] at e1
  clear h1 q1 qk ql qt
  go_wp2
  go_ret2
  rw [HE.out]
  exact RetCD.no qb
 have HR2:=Hd ((if_neg h1).symm.trans HR1.out)
 rw [decide_eq_false h1] at e1
 have HTL:=Hd h1
 have HCN3:=Hd (HCN2.out h1)
 have HSU3:=Hd (HSU2.out h1)
 clear h1 HR HR1 HCN2 HSU2
 by_cases h2:2000<nr
 ·have HE:=Hd (show R=([],2) by rw [<- HR2.out,if_pos h2])
  have h2a:(2000:Int)<(nr:Int):=by omega
  clear h2 q1 qk ql qt
  go_wp2
  go_ret2
  rw [HE.out]
  exact RetCD.no qb
 have HR3:=Hd ((if_neg h2).symm.trans HR2.out)
 have h2a:¬ (2000:Int)<(nr:Int):=by omega
 have hnr:nr<=2000:=by omega
 clear h2 HR2 hnr'
 go_wp2_with fail
 refine (HCR.out trivial _ qk ql qt).mono ?_
 rintro _ w3 ⟨rfl,hb3⟩
 have HB3:=Hd (Qab hb3 HB2.out HB2.out.size)
 clear q1 qk ql qt qb p0 p1 p2 p3 p4 p5 p6 hb3 HB2 HCR e1 h2a
 obtain ⟨q1,qk,ql,qt,qb⟩:=HW.out _ HB3.out
 by_cases h3:RE=0
 case neg=>
  have HE:=Hd (show R=([],RE) by rw [<- HR3.out,if_pos h3])
  have h3a:(RE !=0)=true:=by simpa using h3
  clear h3 q1 qk ql qt
  go_wp2
  go_ret2
  rw [HE.out]
  exact RetCD.no qb
 have HR4:=Hd ((if_neg (fun h=>h h3)).symm.trans HR3.out)
 subst h3
 clear HR3 HCH
 go_upto_region 11 with fail
 have hEN:=HEN.out trivial
 have HFM:=Hd (HFK.out trivial)
 have hkt:=hEN.2.1 HTL.out
 rcases HKC.out with ⟨e1,-⟩|⟨kk,hk,e1,e2,-,-⟩
 ·omega
 have e2:katK ⟨m,q,ks,hd,tl,ct,sm⟩ tl=kA ks kk:=e2
 have e1':ixF (Qav tl) ks=(kk:Int):=e1
 rw [e1'] at HKA
 have htg:(kA ks kk).tag=tl:=by
  obtain ⟨k2,_,g1,_,g3⟩:=kat_at (f:=⟨m,q,ks,hd,tl,ct,sm⟩) (t:=tl) (by omega)
  have:k2=kk:=by omega
  subst this
  exact g3
 have hk':kk<ks.length:=hk
 have hkn:kk<nk:=by rw [<- HNK.out];exact hk'
 have hks:0<nk:=by omega
 have HCOL:=Hd (fun wx (h:Below w1.heap.size w1 wx)=>(HW.out wx h).2.1.2.2 kk hk')
 have hmany:=(HFM.out.kinds kk hk').many
 have htz:=(HFM.out.kinds kk hk').tag.2
 simp only at hmany htz
 rw [htg] at htz
 have HTZ:=Hd htz
 have HEN2:=Hd hEN
 have HV2':=Hd (HV2.out trivial)
 rw [e2] at HV0 HV1 HV2' HEN2
 have HT1':=Hd (show V0.length=(kA ks kk).fields.length by have:=HT0.out (by trivial);rw [e2] at this;exact this)
 have HSU4:=Hd (HSU3.out (fun j hj=>by
  rw [HRR.out j hj]
  exact QbY (HRZ.out (by trivial) j (by rw [HNR.out];have:=HQL.out;omega))) (by have:=HQL.out;omega) hks)
 obtain ⟨kb,ko,rfl,hkb,kc0,kc1,kc2,kc3⟩:=HK.out.cells hk'
 have HQB:=Hd qb;have HQK:=Hd qk
 clear htg htz hEN HEN HT0 HKC hkt hk HSU3 HV2 q1 qk ql qt qb e1 e1' hks
 have HKC:=Hd (show ∀ wx,Below w.heap.size w wx->wx.cell? ⟨kb,ko+kk*4,none⟩=some (.string (kA ks kk).tag)/\wx.cell? ⟨kb,ko+kk*4+1,none⟩=some (.slice (FA kk) (kA ks kk).fields.length (FC kk))/\wx.cell? ⟨kb,ko+kk*4+2,none⟩=some (.int .i64 (kA ks kk).most)/\wx.cell? ⟨kb,ko+kk*4+3,none⟩=some (.string (kA ks kk).under) from fun wx h=>
  ⟨(h.cell (p:=⟨kb,ko+kk*4,none⟩) hkb).trans kc0,(h.cell (p:=⟨kb,ko+kk*4+1,none⟩) hkb).trans kc1,(h.cell (p:=⟨kb,ko+kk*4+2,none⟩) hkb).trans kc2,(h.cell (p:=⟨kb,ko+kk*4+3,none⟩) hkb).trans kc3⟩)
 clear kc0 kc1 kc2 kc3 hkb e2 hk'
 obtain ⟨K,hK⟩:=ex_ (kA ks kk)
 rw [hK] at HCOL hmany HV0 HV1 HV2' HEN2 HT1' HKC
 generalize FA kk=KA at HCOL HKC
 generalize FC kk=KC at HCOL HKC
 clear hK
 have HCA:=Hd (fun name wx (h:Below w1.heap.size w1 wx)=>QbQ K KA KC name wx (HCOL.out wx h).1)
 obtain ⟨kt,fs,km,ku⟩:=K
 unfold QaO at HCA
 simp only at HCA HCOL hmany HV0 HV1 HV2' HEN2 HT1' HKC
 have HIXL:=Hd (fun t h=>ix_lt (cs:=fs) (t:=t) h)
 obtain ⟨nf,hnf⟩:=ex_ (fs.length)
 rw [hnf] at HCA hmany HV0 HT1' HIXL HKC
 have HNF:=Hd hnf
 clear hnf
 have T1:Below w3.heap.size w3 w3:=Below.refl _ _
 have HSB:=Hd (show ∀ wx,Below w3.heap.size w3 wx->(fun w':World=>w'.cell? ⟨w.heap.size,0,none⟩=some (.int .u8 m)/\w'.cell? ⟨w.heap.size,1,none⟩=some (.int .u8 q)/\w'.cell? ⟨w.heap.size,2,none⟩=some (.slice (some ⟨kb,ko,none⟩) nk cp)/\w'.cell? ⟨w.heap.size,3,none⟩=some (.string hd)/\w'.cell? ⟨w.heap.size,4,none⟩=some (.string tl)/\w'.cell? ⟨w.heap.size,5,none⟩=some (.string ct)/\w'.cell? ⟨w.heap.size,6,none⟩=some (.string sm)/\w'.cell? ⟨kb,ko+kk*4,none⟩=some (.string kt)/\w'.cell? ⟨kb,ko+kk*4+1,none⟩=some (.slice KA nf KC)/\w'.cell? ⟨kb,ko+kk*4+2,none⟩=some (.int .i64 km)/\w'.cell? ⟨kb,ko+kk*4+3,none⟩=some (.string ku)) wx from fun wx h=>by
  have h2:=Qab h HB3.out HB3.out.size
  obtain ⟨⟨f0,f1,f2,f3,f4,f5,f6⟩,-⟩:=Qai (HW.out _ h2).1
  obtain ⟨g0,g1,g2,g3⟩:=HKC.out _ (HW.out _ h2).2.2.2.2
  exact ⟨f0,f1,f2,f3,f4,f5,f6,g0,g1,g2,g3⟩)
 go_cut [9] (fun c wx=>∃ h:Nat,c=.pointer (some ⟨h,0,none⟩)/\Hid (wx.heap[h]?=some (.cells #[.string kt,.slice KA nf KC,.int .i64 km,.string ku] 52 (0,0)))/\Hid (Below w1.heap.size w1 wx))
 case first=>
  go_region_held3 (fun w':World=>w'.cell? ⟨w.heap.size,0,none⟩=some (.int .u8 m)/\w'.cell? ⟨w.heap.size,1,none⟩=some (.int .u8 q)/\w'.cell? ⟨w.heap.size,2,none⟩=some (.slice (some ⟨kb,ko,none⟩) nk cp)/\w'.cell? ⟨w.heap.size,3,none⟩=some (.string hd)/\w'.cell? ⟨w.heap.size,4,none⟩=some (.string tl)/\w'.cell? ⟨w.heap.size,5,none⟩=some (.string ct)/\w'.cell? ⟨w.heap.size,6,none⟩=some (.string sm)/\w'.cell? ⟨kb,ko+kk*4,none⟩=some (.string kt)/\w'.cell? ⟨kb,ko+kk*4+1,none⟩=some (.slice KA nf KC)/\w'.cell? ⟨kb,ko+kk*4+2,none⟩=some (.int .i64 km)/\w'.cell? ⟨kb,ko+kk*4+3,none⟩=some (.string ku))
   (first | (with_reducible exact HSB.out _ T2) | (with_reducible exact HSB.out _ (T2.alloc T2.size _)) | (refine HSB.out _ ?_;go_grown))
   (first | (go_at_call 27;refine (HKA.out _ (by first | exact HQK.out | exact HQK.out.below (by go_grown))).mono ?_;rintro e w4 ⟨rfl,hb4'⟩;(have T2:Below w3.heap.size w3 w4:=Qab hb4' (by go_grown) (by first | exact Nat.le_refl _ | (simp only [World.size_alloc,World.size_drew];omega)));(first | (have hN3:=news1d hb4';obtain ⟨⟨y0,y1,y2,y3⟩,y5,y4⟩:=Qaw hN3) | skip)))
  ·go_wp2_with fail
   go_meet
   exact ⟨w4.heap.size,rfl,Hd (Qac _ _ rfl),Hd (Qab (T2.alloc T2.size _) HB3.out HB3.out.size)⟩
  ·go_wp2_with fail
   go_meet
   exact ⟨w3.heap.size,rfl,Hd (Qae (Qae (Qae (Qae hN3 0 _) 1 _) 2 _) 3 _),Hd (Qab ((((T2.setCell (p:=⟨w3.heap.size,0,none⟩) (Nat.le_refl _) _).setCell (p:=⟨w3.heap.size,1,none⟩) (Nat.le_refl _) _).setCell (p:=⟨w3.heap.size,2,none⟩) (Nat.le_refl _) _).setCell (p:=⟨w3.heap.size,3,none⟩) (Nat.le_refl _) _) HB3.out HB3.out.size)⟩
 case rest=>
 obtain ⟨KB,rfl,HKD,HBk⟩:=hcut
 clear T1 HSB HQK HQB HB3 HKA HKC
 generalize wc=wk at HKD HBk ⊢
 have HW2:=Hd (show ∀ wx,Below wk.heap.size wk wx->wx.heap[w.heap.size]?=some (.cells #[.int .u8 m,.int .u8 q,.slice (some ⟨kb,ko,none⟩) nk cp,.string hd,.string tl,.string ct,.string sm] 24 (0,0))/\wx.heap[KB]?=some (.cells #[.string kt,.slice KA nf KC,.int .i64 km,.string ku] 52 (0,0))/\Kinds wx (some ⟨kb,ko,none⟩) ks FA FC/\RowsM wx L rs RA RC/\Tab wx/\Below w1.heap.size w1 wx/\Below w.heap.size w wx from fun wx h=>by
  have h2:=Qab h HBk.out HBk.out.size
  obtain ⟨g1,g2,g3,g4,g5⟩:=HW.out wx h2
  exact ⟨g1,Qaa HKD.out h,g2,g3,g4,h2,g5⟩)
 clear HKD HBk
 have hmk:=run_make_row' (P:=Tryz.prog) 47 9 (.string ⟨#[]⟩) 16 Tryz.underlying47 Tryz.infoStr rfl .i64 .i64 nf (by omega) (by omega)
 go_upto_region 12 with fail
 go_cut [10] (fun v wx=>∃ TB,v=.pointer (some ⟨TB,0,none⟩)/\Hid (TailSt wk wx TB tl (List.replicate nf ⟨#[]⟩)))
 case first=>
  obtain ⟨q1,q2,-⟩:=HW2.out _ (Below.refl _ _)
  obtain ⟨⟨p0,p1,p2,p3,p4,p5,p6⟩,-⟩:=Qai q1
  obtain ⟨⟨k0,k1,k2,k3⟩,-,-⟩:=Qaw q2
  have p4a:∀ o,(wk.alloc o).cell? ⟨w.heap.size,4,none⟩=some (.string tl):=fun o=>(World.cell?_alloc_some wk _ o (by rw [p4];rfl)).trans p4
  have k1a:∀ o,(wk.alloc o).cell? ⟨KB,1,none⟩=some (.slice KA nf KC):=fun o=>(World.cell?_alloc_some wk _ o (by rw [k1];rfl)).trans k1
  have p4b:∀ o o',((wk.alloc o).alloc o').cell? ⟨w.heap.size,4,none⟩=some (.string tl):=fun o o'=>(World.cell?_alloc_some _ _ o' (by rw [p4a];rfl)).trans (p4a o)
  have k1b:∀ o o',((wk.alloc o).alloc o').cell? ⟨KB,1,none⟩=some (.slice KA nf KC):=fun o o'=>(World.cell?_alloc_some _ _ o' (by rw [k1a];rfl)).trans (k1a o)
  clear q1 q2
  go_region
  all_goals
   go_wp2_with fail
   go_meet
   first
    | exact ⟨wk.heap.size+1,rfl,Hd (TailSt.made1 wk tl nf hmany)⟩
    | exact ⟨wk.heap.size,rfl,Hd (TailSt.made2 wk tl nf hmany)⟩
 case rest=>
 obtain ⟨TB,rfl,HT0⟩:=hcut
 clear hmk
 go_upto_region 14 with fail
 go_cut [68] (fun v wx=>v=.bool LB/\Hid (TailSt wk wx TB tl (List.replicate nf ⟨#[]⟩)))
 case first=>
  obtain ⟨q1,-,-,ql,-,-,-⟩:=HW2.out _ HT0.out.bel
  obtain ⟨⟨p0,p1,p2,p3,p4,p5,p6⟩,-⟩:=Qai q1
  rcases Nat.eq_zero_or_pos nr with h0 | h0
  ·have HLB:=Hd (show LB=false by rw [HLA.out,decide_eq_false (by omega)];rfl)
   subst h0
   clear ql
   go_quiet (fail)
   go_wp2_with fail
   go_meet
   exact ⟨by rw [HLB.out],Hd (HT0.out.drewN _)⟩
  ·obtain ⟨n1,hn1⟩:=ex_ (nr-1)
   have hix:(nr:Int)-1=(n1:Int):=by omega
   have hnlt:n1<nr:=by omega
   have hpos:(0:Int)<(nr:Int):=by omega
   obtain ⟨b,off,rfl,hbk,c0,c1⟩:=ql.cells (j:=n1) (by rw [HNR.out];exact hnlt)
   have hla:=HLA.out
   rw [hn1,decide_eq_true h0,Bool.true_and] at hla
   obtain ⟨rt,hrt⟩:=ex_ ((rA rs n1).tag)
   rw [hrt] at c0 hla
   have e4:=Qap rt tl
   rw [<- hla] at e4
   clear hrt ql q1 hn1 c1 hla
   go_quiet (fail)
   go_wp2_with fail
   go_meet
   exact ⟨rfl,Hd (HT0.out.drewN _)⟩
 case rest=>
 clear HT0
 obtain ⟨rfl,HT0⟩:=hcut
 go_upto_if 68 with fail
 go_cut [11] (fun v wx=>v=.slice L nq LC/\Hid (TailSt wk wx TB tl V0))
 case first=>
  cases hLB:LB with
  | false=>
   have HE1:=Hd (show nq=nr by rw [<- HNQ.out,HRL.out,hLB,if_neg (by decide),HNR.out])
   have HE2:=Hd (show V0=List.replicate nf ⟨#[]⟩ by rw [HV0.out,hLB,if_neg (by decide)])
   clear hLB
   go_wp2_with fail
   go_meet
   exact ⟨by rw [HE1.out],Hd (by rw [HE2.out];exact HT0.out)⟩
  | true=>
   have hla:=HLA.out
   have hv0:=HV0.out
   have hrl:=HRL.out
   rw [hLB] at hla hv0 hrl
   have h0:0<nr:=by
    rcases Nat.eq_zero_or_pos nr with h | h
    ·rw [decide_eq_false (by omega)] at hla;cases hla
    ·exact h
   obtain ⟨n1,hn1⟩:=ex_ (nr-1)
   have hix:(nr:Int)-1=(n1:Int):=by omega
   have hnlt:n1<nr:=by omega
   have hwr:IntKind.i64.wrap ((n1:Nat):Int)=(n1:Int):=IntWalk.i64_in _ (by omega)
   have hi1:(0:Int)<=(n1:Int):=by omega
   have hi2:(n1:Int)<(nr:Int):=by omega
   have hi3:(n1:Int)<=(LC:Int):=by omega
   rw [hn1] at hv0 hrl hla
   rw [decide_eq_true h0,Bool.true_and] at hla
   obtain ⟨q1,-,-,ql,-,-,-⟩:=HW2.out _ (Below.refl _ _)
   obtain ⟨b,off,rfl,hbk,c0,c1⟩:=ql.cells (j:=n1) (by rw [HNR.out];exact hnlt)
   have HRJ:=Hd (fun wx h=>(HW2.out wx h).2.2.2.1.each n1 (by rw [HNR.out];exact hnlt))
   obtain ⟨r,hr⟩:=ex_ (rA rs n1)
   rw [hr] at hv0 c0 c1 HRJ hla
   generalize RA n1=RJ at c1 HRJ
   generalize RC n1=CJ at c1 HRJ
   obtain ⟨rt,vs⟩:=r
   simp only at hv0 c0 c1 hla
   have hrt:rt=tl:=of_decide_eq_true hla.symm
   subst hrt
   have HE2:=Hd (show V0=vs by rw [hv0];exact if_pos trivial)
   have hv50:vs.length<=1000000:=by
    have h1:=HT1'.out
    rw [HE2.out] at h1
    omega
   have HCS:=Hd (fun w h=>rclone_c ⟨rt,vs⟩ RJ CJ w h hv50)
   unfold RetCln rowG at HCS
   simp only at HCS
   obtain ⟨nv,hnv⟩:=ex_ (vs.length)
   rw [hnv] at c1 HCS
   have HNV:=Hd hnv
   have HE1:=Hd (show nq=n1 by rw [<- HNQ.out,hrl];simp only [if_true];rw [List.length_take,HNR.out];omega)
   clear hr hnv ql q1 hla hv0 hrl hn1 hLB hv50
   go_upto_region 15 with fail
   have HST:=Hd (show ∀ wx,Below wk.heap.size wk wx->(fun w':World=>w'.cell? ⟨b,off+n1*2,none⟩=some (.string rt)/\w'.cell? ⟨b,off+n1*2+1,none⟩=some (.slice RJ nv CJ)) wx from fun wx h=>⟨(h.cell (p:=⟨b,off+n1*2,none⟩) hbk).trans c0,(h.cell (p:=⟨b,off+n1*2+1,none⟩) hbk).trans c1⟩)
   have hT:=HST.out _ HT0.out.bel.drew
   clear c0 c1 hbk
   refine Qaq 13 (fun w':World=>w'.cell? ⟨b,off+n1*2,none⟩=some (.string rt)/\w'.cell? ⟨b,off+n1*2+1,none⟩=some (.slice RJ nv CJ)) (by kernel_rfl) ?_
   refine Till.tk (i:=0) (v:=?_) rfl [4,5,6,12] hT (Or.inl ⟨by rfl,?_⟩) ?_
   rotate_left
   ·(intro w' hw';obtain ⟨u0,u1⟩:=hw';go_simp;try with_reducible rfl)
   (try simp only [Act.put,Till.a,Till.b,Till.c])
   refine Till.tk (i:=1) (v:=?_) rfl [2,3,4,5,6,12] hT (Or.inl ⟨by rfl,?_⟩) ?_
   rotate_left
   ·(intro w' hw';obtain ⟨u0,u1⟩:=hw';go_simp;try with_reducible rfl)
   (try simp only [Act.put,Till.a,Till.b,Till.c])
   refine Till.tk (i:=2) (v:=?_) rfl [3,4,5,6,12] hT (Or.inl ⟨by rfl,?_⟩) ?_
   rotate_left
   ·(intro w' hw';obtain ⟨u0,u1⟩:=hw';go_simp;try with_reducible rfl)
   (try simp only [Act.put,Till.a,Till.b,Till.c])
   refine Till.tk (i:=3) (v:=?_) rfl [4,5,6,12] hT (Or.inl ⟨by rfl,?_⟩) ?_
   rotate_left
   ·(intro w' hw';obtain ⟨u0,u1⟩:=hw';go_simp;try with_reducible rfl)
   (try simp only [Act.put,Till.a,Till.b,Till.c])
   refine Till.tk (i:=4) (v:=?_) rfl [5,6,12] hT (Or.inl ⟨by rfl,?_⟩) ?_
   rotate_left
   ·(intro w' hw';obtain ⟨u0,u1⟩:=hw';go_simp;try with_reducible rfl)
   (try simp only [Act.put,Till.a,Till.b,Till.c])
   refine Till.tk (i:=5) (v:=?_) rfl [6,12] hT (Or.inl ⟨by rfl,?_⟩) ?_
   rotate_left
   ·(intro w' hw';obtain ⟨u0,u1⟩:=hw';go_simp;try with_reducible rfl)
   (try simp only [Act.put,Till.a,Till.b,Till.c])
   refine Till.tk (i:=7) (v:=?_) rfl [11] hT (Or.inl ⟨by rfl,?_⟩) ?_
   rotate_left
   ·(intro w' hw';obtain ⟨u0,u1⟩:=hw';go_simp;try with_reducible rfl)
   (try simp only [Act.put,Till.a,Till.b,Till.c])
   refine Till.tk (i:=8) (v:=?_) rfl [9,10,11] hT (Or.inl ⟨by rfl,?_⟩) ?_
   rotate_left
   ·(intro w' hw';obtain ⟨u0,u1⟩:=hw';go_simp;try with_reducible rfl)
   (try simp only [Act.put,Till.a,Till.b,Till.c])
   refine Till.tk (i:=9) (v:=?_) rfl [10,11] hT (Or.inl ⟨by rfl,?_⟩) ?_
   rotate_left
   ·(intro w' hw';obtain ⟨u0,u1⟩:=hw';go_simp;try with_reducible rfl)
   (try simp only [Act.put,Till.a,Till.b,Till.c])
   refine Till.tk (i:=10) (v:=?_) rfl [11] hT (Or.inl ⟨by rfl,?_⟩) ?_
   rotate_left
   ·(intro w' hw';obtain ⟨u0,u1⟩:=hw';go_simp;try with_reducible rfl)
   (try simp only [Act.put,Till.a,Till.b,Till.c])
   refine Till.tk (i:=11) (v:=?_) rfl [] hT (Or.inl ⟨by rfl,?_⟩) ?_
   rotate_left
   ·(intro w' hw';obtain ⟨u0,u1⟩:=hw';go_simp;try with_reducible rfl)
   (try simp only [Act.put,Till.a,Till.b,Till.c])
   refine Till.step (i:=6) (by kernel_rfl) rfl ?_
   intro K hK
   go_simp
   (go_at_call 49;refine (HCS.out _ (HRJ.out _ HT0.out.bel.drew).vals).mono ?_;rintro _ w9 ⟨Y,e,rfl,hown9,hb9⟩;(have T9:Below wc.heap.size wc w9:=⟨hb9.os,hb9.tape,hb9.output,hb9.size,hb9.block⟩))
   have hT:=HST.out _ (Qab T9 HT0.out.bel HT0.out.bel.size)
   refine hK.out _ _ (fun _=>hT) ?_
   clear hK K
   (try simp only [Act.put,Till.a,Till.b,Till.c])
   obtain ⟨TX,TC,t1,t2,t3,t4⟩:=HT0.out
   have HT9:=Hd (TailSt.below HT0.out T9)
   have HO9:=Hd (own_mono hown9 (show wk.heap.size<=wc.heap.size from t4.size))
   obtain ⟨z0,z1,z2,z3,z4⟩:=box2 (Qaa t2 T9)
   refine Till.step (i:=12) (by kernel_rfl) rfl ?_
   intro K hK
   go_simp
   have hT:=HST.out _ (((Qab T9 HT0.out.bel HT0.out.bel.size).setCell (p:=⟨TB,0,none⟩) t1 (.string rt)).setCell (p:=⟨TB,1,none⟩) t1 (.slice Y nv e))
   refine hK.out _ _ (fun _=>hT) ?_
   clear hK K
   (try simp only [Act.put,Till.a,Till.b,Till.c])
   refine Till.step (i:=13) (by kernel_rfl) rfl ?_
   intro K hK
   go_simp
   refine hK.out _ _ (fun h=>absurd h (by decide)) ?_
   clear hK K
   (try simp only [Act.put,Till.a,Till.b,Till.c])
   refine Till.done (by kernel_rfl) ?_ _
   go_wp2_with fail
   go_meet
   exact ⟨by rw [HE1.out],Hd (by rw [HE2.out,<- HNV.out];exact HT9.out.both (by rw [HNV.out];exact HO9.out))⟩
 case rest=>
 have HRZ2:=Hd (HRZ.out (by trivial))
 have HV0':=HV0;have HLA':=HLA
 clear HT0 HLA HRL HV0 HRZ
 obtain ⟨rfl,HT1⟩:=hcut
 obtain ⟨q1,-,-,-,-,-,-⟩:=HW2.out _ HT1.out.bel
 obtain ⟨⟨p0,p1,p2,p3,p4,p5,p6⟩,-⟩:=Qai q1
 have e5:=Qah ct
 obtain ⟨S0,hS0⟩:=ex_ (decide (ct=⟨#[]⟩))
 rw [hS0] at e5
 have HS0:=Hd hS0
 clear q1 hS0
 go_upto_if 83 with fail
 clear p0 p1 p2 p3 p4 p5 p6 e5
 go_cut [] (fun wx=>Hid (TailSt wk wx TB tl V1))
 case first=>
  cases hS:S0 with
  | true=>
   have hse:=of_decide_eq_true (HS0.out.trans hS)
   have HE1:=Hd (show V1=V0 by rw [HV1.out,if_neg (fun h=>h hse)])
   clear hS hse
   go_wp2_with fail
   go_meet
   exact Hd (by rw [HE1.out];exact HT1.out)
  | false=>
  have hsn:=of_decide_eq_false (HS0.out.trans hS)
  have hix:=HIXL.out ct (HEN2.out.2.2.2.2.1 hsn)
  have hix0:=(HEN2.out.2.2.2.2.1 hsn)
  have HE1:=HV1.out
  rw [if_pos hsn] at HE1
  obtain ⟨IX,hIX⟩:=ex_ ((ixF (Qaj ct) fs).toNat)
  have hIXe:ixF (Qaj ct) fs=(IX:Int):=by omega
  rw [hIX] at hix HE1
  have HCS:=Hd (fun wx h=>HCA.out ct wx h)
  rw [hIXe] at HCS
  have HE1:=Hd HE1
  have hixl:IX<nf:=hix.1
  clear hS hsn hix hix0 hIX hIXe
  obtain ⟨TX,TC,t1,t2,t3,t4⟩:=HT1.out
  have hVL:V0.length=nf:=HT1'.out
  obtain ⟨nv,hnv⟩:=ex_ (V0.length)
  obtain ⟨g,hg,hgb,hgs,hcells⟩:=own_rowF t3 (by omega)
  subst hg
  have HBW:=Hd t4
  have HTBo:=Hd t2;have HOWN:=Hd t3;have HTB1:=Hd t1
  rw [hnv] at HTBo HOWN
  have HNV:=Hd hnv
  have hixv:IX<nv:=by omega
  clear t1 t2 t3 t4 hcells hnv hVL
  have hni2:ni<=2000:=by have:=HIL.out;omega
  have HIT:=Hd (fun wx h=>vitoas_c (ni:Int) wx (by omega) h)
  have HSF3:=Hd (show ∀ wx,Below wc.heap.size wc wx->(fun w':World=>w'.cell? ⟨TB,1,none⟩=some (.slice (some ⟨g,0,none⟩) nv TC)/\w'.cell? ⟨KB,0,none⟩=some (.string kt)/\w'.cell? ⟨KB,1,none⟩=some (.slice KA nf KC)/\w'.cell? ⟨KB,2,none⟩=some (.int .i64 km)/\w'.cell? ⟨KB,3,none⟩=some (.string ku)/\w'.cell? ⟨w.heap.size,0,none⟩=some (.int .u8 m)/\w'.cell? ⟨w.heap.size,1,none⟩=some (.int .u8 q)/\w'.cell? ⟨w.heap.size,2,none⟩=some (.slice (some ⟨kb,ko,none⟩) nk cp)/\w'.cell? ⟨w.heap.size,3,none⟩=some (.string hd)/\w'.cell? ⟨w.heap.size,4,none⟩=some (.string tl)/\w'.cell? ⟨w.heap.size,5,none⟩=some (.string ct)/\w'.cell? ⟨w.heap.size,6,none⟩=some (.string sm)) wx from fun wx h=>by
   have hk:=Qab h HBW.out HBW.out.size
   obtain ⟨g1,g2,-⟩:=HW2.out wx hk
   obtain ⟨⟨a0,a1,a2,a3,a4,a5,a6⟩,-⟩:=Qai g1
   obtain ⟨⟨b0,b1,b2,b3⟩,-,-⟩:=Qaw g2
   obtain ⟨-,c1,-,-,-⟩:=box2 (Qaa HTBo.out h)
   exact ⟨c1,b0,b1,b2,b3,a0,a1,a2,a3,a4,a5,a6⟩)
  go_upto_region 17 with fail
  have hT:=HSF3.out _ (Below.refl _ _).drew
  refine Qaq 11 (fun w':World=>w'.cell? ⟨TB,1,none⟩=some (.slice (some ⟨g,0,none⟩) nv TC)/\w'.cell? ⟨KB,0,none⟩=some (.string kt)/\w'.cell? ⟨KB,1,none⟩=some (.slice KA nf KC)/\w'.cell? ⟨KB,2,none⟩=some (.int .i64 km)/\w'.cell? ⟨KB,3,none⟩=some (.string ku)/\w'.cell? ⟨w.heap.size,0,none⟩=some (.int .u8 m)/\w'.cell? ⟨w.heap.size,1,none⟩=some (.int .u8 q)/\w'.cell? ⟨w.heap.size,2,none⟩=some (.slice (some ⟨kb,ko,none⟩) nk cp)/\w'.cell? ⟨w.heap.size,3,none⟩=some (.string hd)/\w'.cell? ⟨w.heap.size,4,none⟩=some (.string tl)/\w'.cell? ⟨w.heap.size,5,none⟩=some (.string ct)/\w'.cell? ⟨w.heap.size,6,none⟩=some (.string sm)) (by kernel_rfl) ?_
  refine Till.tk (i:=0) (v:=?_) rfl [1,10] hT (Or.inl ⟨by rfl,?_⟩) ?_
  rotate_left
  ·(intro w' hw';obtain ⟨u0,u1,u2,u3,u4,u5,u6,u7,u8,u9,u10,u11⟩:=hw';go_simp;try with_reducible rfl)
  (try simp only [Act.put,Till.a,Till.b,Till.c])
  refine Till.tk (i:=1) (v:=?_) rfl [10] hT (Or.inl ⟨by rfl,?_⟩) ?_
  rotate_left
  ·(intro w' hw';obtain ⟨u0,u1,u2,u3,u4,u5,u6,u7,u8,u9,u10,u11⟩:=hw';go_simp;try with_reducible rfl)
  (try simp only [Act.put,Till.a,Till.b,Till.c])
  refine Till.tk (i:=2) (v:=?_) rfl [5,10] hT (Or.inl ⟨by rfl,?_⟩) ?_
  rotate_left
  ·(intro w' hw';obtain ⟨u0,u1,u2,u3,u4,u5,u6,u7,u8,u9,u10,u11⟩:=hw';go_simp;try with_reducible rfl)
  (try simp only [Act.put,Till.a,Till.b,Till.c])
  refine Till.tk (i:=3) (v:=?_) rfl [4,5,10] hT (Or.inl ⟨by rfl,?_⟩) ?_
  rotate_left
  ·(intro w' hw';obtain ⟨u0,u1,u2,u3,u4,u5,u6,u7,u8,u9,u10,u11⟩:=hw';go_simp;try with_reducible rfl)
  (try simp only [Act.put,Till.a,Till.b,Till.c])
  refine Till.tk (i:=4) (v:=?_) rfl [5,10] hT (Or.inl ⟨by rfl,?_⟩) ?_
  rotate_left
  ·(intro w' hw';obtain ⟨u0,u1,u2,u3,u4,u5,u6,u7,u8,u9,u10,u11⟩:=hw';go_simp;try with_reducible rfl)
  (try simp only [Act.put,Till.a,Till.b,Till.c])
  refine Till.tk (i:=6) (v:=?_) rfl [8,9] hT (Or.inl ⟨by rfl,?_⟩) ?_
  rotate_left
  ·(intro w' hw';obtain ⟨u0,u1,u2,u3,u4,u5,u6,u7,u8,u9,u10,u11⟩:=hw';go_simp;try with_reducible rfl)
  (try simp only [Act.put,Till.a,Till.b,Till.c])
  refine Till.tk (i:=7) (v:=?_) rfl [8,9] hT (Or.inl ⟨by rfl,?_⟩) ?_
  rotate_left
  ·(intro w' hw';obtain ⟨u0,u1,u2,u3,u4,u5,u6,u7,u8,u9,u10,u11⟩:=hw';go_simp;try with_reducible rfl)
  (try simp only [Act.put,Till.a,Till.b,Till.c])
  refine Till.step (i:=5) (by kernel_rfl) rfl ?_
  intro K hK
  go_simp
  (go_at_call 33;refine (HCS.out _ (HW2.out _ HBW.out.drew).2.2.2.2.2.1).mono ?_;rintro _ wa ⟨rfl,hba⟩;(have Ua:Below wc.heap.size wc wa:=⟨hba.os,hba.tape,hba.output,hba.size,hba.block⟩))
  have hT:=HSF3.out _ Ua
  refine hK.out _ _ (fun _=>hT) ?_
  clear hK K
  (try simp only [Act.put,Till.a,Till.b,Till.c])
  refine Till.step (i:=8) (by kernel_rfl) rfl ?_
  intro K hK
  go_simp
  (go_at_call 43;refine (HCN3.out _ (HRM.out _ (HW2.out _ (Qab Ua HBW.out HBW.out.size)).2.2.2.1)).mono ?_;rintro _ wb ⟨rfl,hbb⟩;(have Ub:Below wc.heap.size wc wb:=Qab hbb Ua Ua.size))
  have hT:=HSF3.out _ Ub
  refine hK.out _ _ (fun _=>hT) ?_
  clear hK K
  (try simp only [Act.put,Till.a,Till.b,Till.c])
  refine Till.step (i:=9) (by kernel_rfl) rfl ?_
  intro K hK
  go_simp
  (go_at_call 38;refine (HIT.out _ (HW2.out _ (Qab Ub HBW.out HBW.out.size)).2.2.2.2.1).mono ?_;rintro _ wd ⟨rfl,hbd⟩;(have Ud:Below wc.heap.size wc wd:=Qab hbd Ub Ub.size))
  have hT:=HSF3.out _ Ud
  refine hK.out _ _ (fun _=>hT) ?_
  clear hK K
  (try simp only [Act.put,Till.a,Till.b,Till.c])
  have hbv:(IX:Int)<(nv:Int):=by omega
  have hb0:(0:Int)<=(IX:Int):=by omega
  refine Till.step (i:=10) (by kernel_rfl) rfl ?_
  intro K hK
  go_simp
  refine hK.out _ _ (fun _=>hT) ?_
  clear hK K
  (try simp only [Act.put,Till.a,Till.b,Till.c])
  have HOb:=Hd (QaM HOWN.out Ud)
  have hcb:=HOb.out.cellAt IX (by omega)
  have hfz:=HOb.out.frozenAt IX
  rw [ystrV_get (by rw [HNV.out];exact hixv)] at hcb
  refine Till.step (i:=11) (by kernel_rfl) rfl ?_
  intro K hK
  go_simp
  refine hK.out _ _ (fun h=>absurd h (by decide)) ?_
  clear hK K
  (try simp only [Act.put,Till.a,Till.b,Till.c])
  refine Till.done (by kernel_rfl) ?_ _
  have HSV:=Hd (show V1=V0.set IX ⟨(Lib.itoa (ni:Int)).toArray⟩ by rw [HE1.out];rfl)
  have HTF:=Hd (show TailSt wk (wd.setCell ⟨g,IX,none⟩ (.string ⟨(Lib.itoa (ni:Int)).toArray⟩)) TB tl V1 by
   rw [HSV.out]
   refine TailSt.put HTB1.out (TC:=TC) ?_ ?_ (Qab Ud HBW.out HBW.out.size) (by rw [HNV.out];exact hixv)
   ·rw [HNV.out];exact Qaa HTBo.out Ud
   ·rw [HNV.out];exact HOb.out)
  clear hT hcb hfz Ub Ua Ud hba hbb hbd
  go_wp2_with fail
  go_meet
  exact HTF
 case rest=>
 clear HT1 HS0
 have HT2:=hcut
 clear hcut
 obtain ⟨q1,-,-,-,-,-,-⟩:=HW2.out _ HT2.out.bel
 obtain ⟨⟨p0,p1,p2,p3,p4,p5,p6⟩,-⟩:=Qai q1
 have e5:=Qah sm
 obtain ⟨S0,hS0⟩:=ex_ (decide (sm=⟨#[]⟩))
 rw [hS0] at e5
 have HS0:=Hd hS0
 clear q1 hS0
 go_upto_if 97 with fail
 clear p0 p1 p2 p3 p4 p5 p6 e5
 go_cut [] (fun wx=>Hid ((SB=false/\(sm≠⟨#[]⟩->SD.2.2=0))/\TailSt wk wx TB tl V2))
 case first=>
  cases hS:S0 with
  | true=>
   have hse:=of_decide_eq_true (HS0.out.trans hS)
   have HE1:=Hd (show V2=V1 by rw [HV2'.out,if_neg (fun h=>h hse)])
   have HE2:=Hd (show SB=false/\(sm≠⟨#[]⟩->SD.2.2=0) from ⟨by rw [HSBE.out,decide_eq_false (p:=sm≠⟨#[]⟩) (fun h=>h hse)];rfl,fun h=>absurd hse h⟩)
   clear hS hse
   go_wp2_with fail
   go_meet
   exact Hd ⟨HE2.out,by rw [HE1.out];exact HT2.out⟩
  | false=>
  have hsn:=of_decide_eq_false (HS0.out.trans hS)
  have HSN:=Hd hsn
  have hix:=HIXL.out sm (HEN2.out.2.2.2.2.2.1 hsn).1
  have hix0:=(HEN2.out.2.2.2.2.2.1 hsn).1
  have HE1:=HV2'.out
  rw [if_pos hsn] at HE1
  have HSBA:=Hd (show SB=AB by rw [HSBE.out,decide_eq_true (p:=sm≠⟨#[]⟩) hsn,Bool.true_and])
  obtain ⟨IX,hIX⟩:=ex_ ((ixF (Qaj sm) fs).toNat)
  have hIXe:ixF (Qaj sm) fs=(IX:Int):=by omega
  rw [hIX] at hix HE1
  have HCS:=Hd (fun wx h=>HCA.out sm wx h)
  rw [hIXe] at HCS
  have HE1:=Hd HE1
  have hixl:IX<nf:=hix.1
  clear hS hsn hix hix0 hIX hIXe
  obtain ⟨q1,-,qk,ql,-,-,-⟩:=HW2.out _ HT2.out.bel
  obtain ⟨⟨p0,p1,p2,p3,p4,p5,p6⟩,-⟩:=Qai q1
  go_wp2_with fail
  refine (HSU4.out _ qk (HRM.out _ ql)).mono ?_
  rintro _ w5 ⟨s,SA,sn,sc,rfl,hbig,hb5⟩
  have HT5:=Hd ((HT2.out.below hb5).below (show Below w5.heap.size w5 (w5.alloc (.cells #[.bool s,.slice SA sn sc] 77)) by go_grown))
  have HND:=Hd (Qac w5 (.cells #[.bool s,.slice SA sn sc] 77) rfl)
  have HBG:=Hd hbig
  clear q1 qk ql hb5 hbig HT2 p0 p1 p2 p3 p4 p5 p6
  go_upto_region 20 with fail
  have HBG6:=Hd (fun h=>(HBG.out h).alloc (.cells #[.bool s,.slice SA sn sc] 77))
  obtain ⟨NN,hNN⟩:=ex_ (w5.heap.size)
  rw [hNN] at HND
  try rw [hNN]
  generalize w5.alloc (.cells #[.bool s,.slice SA sn sc] 77)=w6 at HND HT5 HBG6 ⊢
  clear hNN HBG
  cases hAB:AB with
  | true=>
   have HE:=Hd (show R=([],6) by rw [<- HR4.out,HSBA.out,hAB,if_pos rfl])
   have h6:SF=6:=by rw [<- HSFE.out,hAB];rfl
   have hB:=(HW2.out _ HT5.out.bel).2.2.2.2.2.2
   subst h6
   clear hAB HSFE
   go_wp2
   go_ret2
   rw [HE.out]
   exact RetCD.no hB
  | false=>
  have HSBF:=Hd (HSBA.out.trans hAB)
  have h6:SF=0:=by rw [<- HSFE.out,hAB];rfl
  have HBG7:=Hd (HBG6.out hAB)
  subst h6
  clear hAB HSFE HBG6 HSBA
  obtain ⟨n0,n2,-,-,-⟩:=box2 HND.out
  have hni3:ni<=2000:=by have:=HIL.out;omega
  have HTO1:=Hd (HTO.out w6 s SA sn sc HBG7.out (by have:=HSZ.out;omega) (HW2.out _ HT5.out.bel).2.2.2.2.1)
  go_wp2_with fail
  refine HTO1.out.mono ?_
  rintro _ w9 ⟨tv,rfl,htv,hb9⟩
  have HTV:=Hd htv
  have HT9:=Hd (HT5.out.below hb9)
  clear n0 n2 HTO1 HTO hb9 htv HBG7 HND HT5
  by_cases hse:SD.2.2=0
  case neg=>
   have HE:=Hd (show R=([],SD.2.2) by rw [<- HR4.out,HSBF.out,if_neg (c:=false=true) (by decide),if_pos ⟨HSN.out,hse⟩])
   have h1:(SD.2.2 !=0)=true:=by simpa using hse
   have hB:=(HW2.out _ HT9.out.bel).2.2.2.2.2.2
   clear hse
   go_wp2
   go_ret2
   rw [HE.out]
   exact RetCD.no hB
  have h1:(SD.2.2 !=0)=false:=by rw [hse];rfl
  have HSE:=Hd hse
  have HTS:=Hd (show tv=bs (QbV SD.1 SD.2.1) by rw [<- HTX.out hse];exact bs_of HTV.out)
  clear hse
  obtain ⟨TX,TC,t1,t2,t3,t4⟩:=HT9.out
  have hVL:V1.length=nf:=by
   rw [HV1.out]
   split
   ·rw [List.length_set];exact HT1'.out
   ·exact HT1'.out
  obtain ⟨nv,hnv⟩:=ex_ (V1.length)
  obtain ⟨g,hg,hgb,hgs,hcells⟩:=own_rowF t3 (by omega)
  subst hg
  have HBW:=Hd t4
  have HTBo:=Hd t2;have HOWN:=Hd t3;have HTB1:=Hd t1
  rw [hnv] at HTBo HOWN
  have HNV:=Hd hnv
  have hixv:IX<nv:=by omega
  clear t1 t2 t3 t4 hcells hnv hVL HT9
  have HSF3:=Hd (show ∀ wx,Below w9.heap.size w9 wx->(fun w':World=>w'.cell? ⟨TB,1,none⟩=some (.slice (some ⟨g,0,none⟩) nv TC)/\w'.cell? ⟨KB,0,none⟩=some (.string kt)/\w'.cell? ⟨KB,1,none⟩=some (.slice KA nf KC)/\w'.cell? ⟨KB,2,none⟩=some (.int .i64 km)/\w'.cell? ⟨KB,3,none⟩=some (.string ku)/\w'.cell? ⟨w.heap.size,6,none⟩=some (.string sm)) wx from fun wx h=>by
   have hk:=Qab h HBW.out HBW.out.size
   obtain ⟨g1,g2,-⟩:=HW2.out wx hk
   obtain ⟨⟨-,-,-,-,-,-,a6⟩,-⟩:=Qai g1
   obtain ⟨⟨b0,b1,b2,b3⟩,-,-⟩:=Qaw g2
   obtain ⟨-,c1,-,-,-⟩:=box2 (Qaa HTBo.out h)
   exact ⟨c1,b0,b1,b2,b3,a6⟩)
  go_upto_region 25 with fail
  have hT:=HSF3.out _ (Below.refl _ _).drew
  refine Qaq 8 (fun w':World=>w'.cell? ⟨TB,1,none⟩=some (.slice (some ⟨g,0,none⟩) nv TC)/\w'.cell? ⟨KB,0,none⟩=some (.string kt)/\w'.cell? ⟨KB,1,none⟩=some (.slice KA nf KC)/\w'.cell? ⟨KB,2,none⟩=some (.int .i64 km)/\w'.cell? ⟨KB,3,none⟩=some (.string ku)/\w'.cell? ⟨w.heap.size,6,none⟩=some (.string sm)) (by kernel_rfl) ?_
  refine Till.tk (i:=0) (v:=?_) rfl [1,7] hT (Or.inl ⟨by rfl,?_⟩) ?_
  rotate_left
  ·(intro w' hw';obtain ⟨u0,u1,u2,u3,u4,u5⟩:=hw';go_simp;try with_reducible rfl)
  (try simp only [Act.put,Till.a,Till.b,Till.c])
  refine Till.tk (i:=1) (v:=?_) rfl [7] hT (Or.inl ⟨by rfl,?_⟩) ?_
  rotate_left
  ·(intro w' hw';obtain ⟨u0,u1,u2,u3,u4,u5⟩:=hw';go_simp;try with_reducible rfl)
  (try simp only [Act.put,Till.a,Till.b,Till.c])
  refine Till.tk (i:=2) (v:=?_) rfl [5,7] hT (Or.inl ⟨by rfl,?_⟩) ?_
  rotate_left
  ·(intro w' hw';obtain ⟨u0,u1,u2,u3,u4,u5⟩:=hw';go_simp;try with_reducible rfl)
  (try simp only [Act.put,Till.a,Till.b,Till.c])
  refine Till.tk (i:=3) (v:=?_) rfl [4,5,7] hT (Or.inl ⟨by rfl,?_⟩) ?_
  rotate_left
  ·(intro w' hw';obtain ⟨u0,u1,u2,u3,u4,u5⟩:=hw';go_simp;try with_reducible rfl)
  (try simp only [Act.put,Till.a,Till.b,Till.c])
  refine Till.tk (i:=4) (v:=?_) rfl [5,7] hT (Or.inl ⟨by rfl,?_⟩) ?_
  rotate_left
  ·(intro w' hw';obtain ⟨u0,u1,u2,u3,u4,u5⟩:=hw';go_simp;try with_reducible rfl)
  (try simp only [Act.put,Till.a,Till.b,Till.c])
  refine Till.tk (i:=6) (v:=?_) rfl [] hT (Or.inl ⟨by rfl,?_⟩) ?_
  rotate_left
  ·(intro w' hw';obtain ⟨u0,u1,u2,u3,u4,u5⟩:=hw';go_simp;try with_reducible rfl)
  (try simp only [Act.put,Till.a,Till.b,Till.c])
  refine Till.step (i:=5) (by kernel_rfl) rfl ?_
  intro K hK
  go_simp
  (go_at_call 33;refine (HCS.out _ (HW2.out _ HBW.out.drew).2.2.2.2.2.1).mono ?_;rintro _ wa ⟨rfl,hba⟩;(have Ua:Below w9.heap.size w9 wa:=⟨hba.os,hba.tape,hba.output,hba.size,hba.block⟩))
  have hT:=HSF3.out _ Ua
  refine hK.out _ _ (fun _=>hT) ?_
  clear hK K
  (try simp only [Act.put,Till.a,Till.b,Till.c])
  have hbv:(IX:Int)<(nv:Int):=by omega
  have hb0:(0:Int)<=(IX:Int):=by omega
  refine Till.step (i:=7) (by kernel_rfl) rfl ?_
  intro K hK
  go_simp
  refine hK.out _ _ (fun _=>hT) ?_
  clear hK K
  (try simp only [Act.put,Till.a,Till.b,Till.c])
  have HOb:=Hd (QaM HOWN.out Ua)
  have hcb:=HOb.out.cellAt IX (by omega)
  have hfz:=HOb.out.frozenAt IX
  rw [ystrV_get (by rw [HNV.out];exact hixv)] at hcb
  refine Till.step (i:=8) (by kernel_rfl) rfl ?_
  intro K hK
  go_simp
  refine hK.out _ _ (fun h=>absurd h (by decide)) ?_
  clear hK K
  (try simp only [Act.put,Till.a,Till.b,Till.c])
  refine Till.done (by kernel_rfl) ?_ _
  have HSV:=Hd (show V2=V1.set IX tv by rw [HE1.out,HTS.out])
  have HTF:=Hd (show TailSt wk (wa.setCell ⟨g,IX,none⟩ (.string tv)) TB tl V2 by
   rw [HSV.out]
   refine TailSt.put HTB1.out (TC:=TC) ?_ ?_ (Qab Ua HBW.out HBW.out.size) (by rw [HNV.out];exact hixv)
   ·rw [HNV.out];exact Qaa HTBo.out Ua
   ·rw [HNV.out];exact HOb.out)
  clear hT hcb hfz Ua hba
  go_wp2_with fail
  go_meet
  exact Hd ⟨⟨HSBF.out,fun _=>HSE.out⟩,HTF.out⟩
 case rest=>
 clear HT2
 obtain ⟨⟨hsb,hso⟩,ht3⟩:=hcut.out
 have HR5:=Hd (show (if sm≠⟨#[]⟩/\SD.2.2≠0 then ([],SD.2.2) else if WE≠0 then ([],WE) else if 2000<nq+1 then ([],2) else (RL++[⟨tl,V2⟩],0))=R by rw [<- HR4.out,hsb,if_neg (c:=false=true) (by decide)])
 have HR6:=Hd ((if_neg (c:=sm≠⟨#[]⟩/\SD.2.2≠0) (fun h=>h.2 (hso h.1))).symm.trans HR5.out)
 have HT3:=Hd ht3
 clear hcut hsb hso ht3 HR5 HR4 HSU4 HTO HTX HSBE HSFE
 obtain ⟨TX,TC,t1,t2,t3,t4⟩:=HT3.out
 have HV2S:=Hd (HVS.out 9223372036854775807 (fun s hs=>by
  have hv:=HV0'.out
  rw [hv] at hs
  split at hs
  ·rename_i hlb
   have h0:0<nr:=by
    have hla:=HLA'.out
    rw [hlb] at hla
    rcases Nat.eq_zero_or_pos nr with h | h
    ·rw [decide_eq_false (by omega)] at hla;cases hla
    ·exact h
   exact ((HW2.out _ HT3.out.bel).2.2.2.1.each (nr-1) (by rw [HNR.out];omega)).size s hs
  ·rw [(List.mem_replicate.1 hs).2]
   exact Nat.zero_le _) HS1.out (by have:=HS2.out (by rw [HNI.out];exact Nat.le_trans HIL.out hnr);rw [HNI.out] at this;exact this))
 have HRS:=Hd (own_rowS (r:=⟨tl,V2⟩) t3 HV2S.out (by have:=HTZ.out;show tl.size<=_;omega))
 obtain ⟨nv,hnv⟩:=ex_ (V2.length)
 have HTBo:=Hd t2;have HBW:=Hd t4;have HTB1:=Hd t1
 rw [hnv] at HTBo
 have HCW2:=Hd (fun wx h h2 ht=>HCW.out trivial V2 TX TC wx h h2 ht)
 have hwe:=HWE.out
 rw [hwe] at HCW2
 unfold rowG at HCW2
 simp only at HCW2
 rw [hnv] at HCW2
 have HNV:=Hd hnv
 clear t1 t2 t3 t4 hnv hwe
 obtain ⟨q1,-,qk,-,qt,-,qb⟩:=HW2.out _ HBW.out
 obtain ⟨⟨p0,p1,p2,p3,p4,p5,p6⟩,-⟩:=Qai q1
 obtain ⟨r0,r1,-,-,-⟩:=box2 HTBo.out
 go_wp2_with fail
 refine (HCW2.out _ qk HRS.out.rowM qt).mono ?_
 rintro _ w8 ⟨rfl,hb8⟩
 have HB8:=Hd (Qab hb8 HBW.out HBW.out.size)
 have HT8:=Hd (Qaa HTBo.out hb8)
 have HRS8:=Hd (show RowS w8 ⟨tl,V2⟩ TX TC from ⟨HRS.out.vals.below hb8,HRS.out.len,HRS.out.size,HRS.out.tag⟩)
 clear q1 qk qt qb p0 p1 p2 p3 p4 p5 p6 r0 r1 hb8 HTBo HBW HRS HT3
 obtain ⟨q1,-,-,ql,-,-,qb⟩:=HW2.out _ HB8.out
 by_cases hwe:WE=0
 case neg=>
  have HE:=Hd (show R=([],WE) by rw [<- HR6.out,if_pos hwe])
  have h1:(WE !=0)=true:=by simpa using hwe
  clear hwe q1 ql
  go_wp2
  go_ret2
  rw [HE.out]
  exact RetCD.no qb
 have HR7:=Hd ((if_neg (fun h=>h hwe)).symm.trans HR6.out)
 have h1:(WE !=0)=false:=by rw [hwe];rfl
 have hq2:nq<=2000:=by have:=HQL.out;omega
 have HLR:=Hd (HRM.out)
 clear HR6 q1 ql qb hwe
 have HCL:=Hd (fun wx h=>cloneR_c RL RA RC L LC wx h (by rw [HNQ.out];omega))
 unfold RetCR at HCL
 rw [HNQ.out] at HCL
 have hzt:TB<w8.heap.size:=Qan HT8.out
 have HSF3:=Hd (show ∀ wx,Below w8.heap.size w8 wx->(fun w':World=>w'.cell? ⟨TB,0,none⟩=some (.string tl)/\w'.cell? ⟨TB,1,none⟩=some (.slice TX nv TC)) wx from fun wx h=>by
  obtain ⟨c0,c1,-,-,-⟩:=box2 (Qaa HT8.out h)
  exact ⟨c0,c1⟩)
 obtain ⟨i0,hi,hz0,hz1,hz2⟩:=info_parts Tryz.infoRow
 have HI:=Hd hi;have HZ0:=Hd hz0;have HZ1:=Hd hz1;have HZ2:=Hd hz2
 clear hi hz0 hz1 hz2 hzt
 go_upto_region 29 with fail
 go_cut [17] (fun v wx=>∃ X c,v=.slice X (nq+1) c/\(nq+1<=c/\c<=9223372036854775807)/\Hid (∃ RA' RC',RowsM wx X (RL++[⟨tl,V2⟩]) RA' RC')/\Hid (Below w.heap.size w wx))
 case first=>
  have hT:=HSF3.out _ (Below.refl _ _).drew
  refine Qaq 5 (fun w':World=>w'.cell? ⟨TB,0,none⟩=some (.string tl)/\w'.cell? ⟨TB,1,none⟩=some (.slice TX nv TC)) (by kernel_rfl) ?_
  refine Till.tk (i:=0) (v:=?_) rfl [1,4] hT (Or.inl ⟨by rfl,?_⟩) ?_
  rotate_left
  ·(intro w' hw';obtain ⟨u0,u1⟩:=hw';go_simp;try with_reducible rfl)
  (try simp only [Act.put,Till.a,Till.b,Till.c])
  refine Till.tk (i:=2) (v:=?_) rfl [3,4] hT (Or.inl ⟨by rfl,?_⟩) ?_
  rotate_left
  ·(intro w' hw';obtain ⟨u0,u1⟩:=hw';go_simp;try with_reducible rfl)
  (try simp only [Act.put,Till.a,Till.b,Till.c])
  refine Till.forkC (i:=1) (j:=3) (by kernel_rfl) rfl rfl ?_ ?_
  ·intro KK hKK
   go_simp
   (go_at_call 51;refine (HCL.out _ (by have h:=(HRM.out _ (HW2.out _ HB8.out.drew).2.2.2.1).rows;rw [HNQ.out] at h;exact h)).mono ?_;rintro _ wa ⟨Xa,ca,rfl,a2,a4⟩;(have Ua:Below w8.heap.size w8 wa:=⟨a4.os,a4.tape,a4.output,a4.size,a4.block⟩))
   have hT:=HSF3.out _ Ua
   refine hKK.out _ _ (fun _=>hT) ?_
   clear hKK KK
   (try simp only [Act.put,Till.a,Till.b,Till.c])
   have HBb:=Hd HB8.out.drew
   have HUb:=Hd ((Below.refl w8.heap.size w8).drew)
   have HMA:=Hd (show ∀ j,j<RL.length->∀ wx,Below w8.drew.heap.size w8.drew wx->RowM wx (rA RL j) (RA j) (RC j) from fun j hj wx h=>(HRM.out _ (HW2.out _ (Qab h HBb.out HBb.out.size)).2.2.2.1).each j hj)
   have HRSa:=Hd (show ∀ wx,Below w8.drew.heap.size w8.drew wx->RowM wx ⟨tl,V2⟩ TX TC from fun wx h=>(show RowS wx ⟨tl,V2⟩ TX TC from ⟨HRS8.out.vals.below (Qab h HUb.out HUb.out.size),HRS8.out.len,HRS8.out.size,HRS8.out.tag⟩).rowM)
   have hzA:w8.drew.heap.size<=wa.heap.size:=a4.size
   refine Till.step (i:=3) (by kernel_rfl) rfl ?_
   intro K hK
   go_simp
   have hT:=HSF3.out _ (Ua.alloc Ua.size (.cells #[.string tl,.slice TX nv TC] 49))
   refine hK.out _ _ (fun _=>hT) ?_
   clear hK K
   (try simp only [Act.put,Till.a,Till.b,Till.c])
   refine Till.step (i:=4) (by kernel_rfl) rfl ?_
   intro K hK
   refine step_append_lies _ rfl (.tmp 133) (.tmp 135) 25 rfl w8.drew.heap.size 49 i0 (.agg #[.string ⟨#[]⟩,.slice none 0 0]) 2 40 Tryz.underlying25 HI.out HZ0.out HZ1.out HZ2.out rfl (by decide) (.slice Xa nq ca) nq (QaL 2 nq (rowV RL RA RC)) rfl (by exact a2.alloc (.cells #[.string tl,.slice TX nv TC] 49)) ⟨wa.heap.size,0,none⟩ 1 1 [.string tl,.slice TX nv TC] rfl rfl (by exact k_cellsF wa [.string tl,.slice TX nv TC] 49) (by intro u hu;simp at hu;rcases hu with rfl | rfl<;>rfl) (by decide) (by unfold maxLen;omega) (by omega) (by simp;exact Nat.le_succ_of_le hzA) _ rfl ?_
   intro G cap w9 hown9 hg9 hat9 hlt9
   have hg9:wa.grownBy w9 (Value.slice Xa nq ca).ownBlock:=Qbc hg9
   have HRI:=Hd (RwsI.push (w1:=w8.drew) HNQ.out a2 HMA.out a4 HRSa.out (by unfold rwL;simp only;rw [HNV.out];exact hown9) hg9)
   have HB9:=Hd (Qab HRI.out.bel HBb.out HBb.out.size)
   have HCP:=Hd (Qal hown9)
   have hT:=HSF3.out _ (Qab HRI.out.bel HUb.out HUb.out.size)
   refine hK.out _ _ (fun _=>hT) ?_
   clear hK K hown9 hg9 hat9 hlt9 a2 a4 hT
   (try simp only [Act.put,Till.a,Till.b,Till.c])
   refine Till.step (i:=5) (by kernel_rfl) rfl ?_
   intro K hK
   go_simp
   refine hK.out _ _ (fun h=>absurd h (by decide)) ?_
   clear hK K
   (try simp only [Act.put,Till.a,Till.b,Till.c])
   refine Till.done (by kernel_rfl) ?_ _
   go_wp2_with fail
   go_meet
   exact ⟨some ⟨G,0,none⟩,cap,rfl,by have:=HCP.out;unfold maxLen at this;exact this,Hd HRI.out.rowsM,Hd (HW2.out _ HB9.out).2.2.2.2.2.2⟩
  ·intro KK hKK
   go_simp
   have hBa:Below w8.heap.size w8 (w8.alloc (.cells #[.string tl,.slice TX nv TC] 49)).drew:=((Below.refl w8.heap.size w8).alloc (Nat.le_refl _) _).drew
   have hT:=HSF3.out _ hBa
   refine hKK.out _ _ (fun _=>hT) ?_
   clear hKK KK
   (try simp only [Act.put,Till.a,Till.b,Till.c])
   refine Till.step (i:=1) (by kernel_rfl) rfl ?_
   intro K hK
   go_simp
   (go_at_call 51;refine (HCL.out _ (by have h:=(HRM.out _ (HW2.out _ (Qab hBa HB8.out HB8.out.size)).2.2.2.1).rows;rw [HNQ.out] at h;exact h)).mono ?_;rintro _ wa ⟨Xa,ca,rfl,a2,a4⟩;(have Ua:Below w8.heap.size w8 wa:=Qab a4 hBa hBa.size))
   have hT:=HSF3.out _ Ua
   refine hK.out _ _ (fun _=>hT) ?_
   clear hK K
   (try simp only [Act.put,Till.a,Till.b,Till.c])
   have HBb:=Hd (Qab hBa HB8.out HB8.out.size)
   have HUb:=Hd hBa
   have HMA:=Hd (show ∀ j,j<RL.length->∀ wx,Below (w8.alloc (.cells #[.string tl,.slice TX nv TC] 49)).drew.heap.size (w8.alloc (.cells #[.string tl,.slice TX nv TC] 49)).drew wx->RowM wx (rA RL j) (RA j) (RC j) from fun j hj wx h=>(HRM.out _ (HW2.out _ (Qab h HBb.out HBb.out.size)).2.2.2.1).each j hj)
   have HRSa:=Hd (show ∀ wx,Below (w8.alloc (.cells #[.string tl,.slice TX nv TC] 49)).drew.heap.size (w8.alloc (.cells #[.string tl,.slice TX nv TC] 49)).drew wx->RowM wx ⟨tl,V2⟩ TX TC from fun wx h=>(show RowS wx ⟨tl,V2⟩ TX TC from ⟨HRS8.out.vals.below (Qab h HUb.out HUb.out.size),HRS8.out.len,HRS8.out.size,HRS8.out.tag⟩).rowM)
   have HNB:=Hd (Qaa (show (w8.alloc (.cells #[.string tl,.slice TX nv TC] 49)).drew.heap[w8.heap.size]?=some (.cells #[.string tl,.slice TX nv TC] 49 (0,0)) from Qac w8 (.cells #[.string tl,.slice TX nv TC] 49) rfl) a4)
   have hzA:(w8.alloc (.cells #[.string tl,.slice TX nv TC] 49)).drew.heap.size<=wa.heap.size:=a4.size
   refine Till.step (i:=4) (by kernel_rfl) rfl ?_
   intro K hK
   refine step_append_lies _ rfl (.tmp 133) (.tmp 135) 25 rfl (w8.alloc (.cells #[.string tl,.slice TX nv TC] 49)).drew.heap.size 49 i0 (.agg #[.string ⟨#[]⟩,.slice none 0 0]) 2 40 Tryz.underlying25 HI.out HZ0.out HZ1.out HZ2.out rfl (by decide) (.slice Xa nq ca) nq (QaL 2 nq (rowV RL RA RC)) rfl (by exact a2) ⟨w8.heap.size,0,none⟩ 1 1 [.string tl,.slice TX nv TC] rfl rfl (by exact World.news_of_block (cs:=#[.string tl,.slice TX nv TC]) (t:=49) (fr:=(0,0)) HNB.out) (by intro u hu;simp at hu;rcases hu with rfl | rfl<;>rfl) (by decide) (by unfold maxLen;omega) (by omega) (by exact hzA) _ rfl ?_
   intro G cap w9 hown9 hg9 hat9 hlt9
   have hg9:wa.grownBy w9 (Value.slice Xa nq ca).ownBlock:=hg9
   have HRI:=Hd (RwsI.push (w1:=(w8.alloc (.cells #[.string tl,.slice TX nv TC] 49)).drew) HNQ.out a2 HMA.out a4 HRSa.out (by unfold rwL;simp only;rw [HNV.out];exact hown9) hg9)
   have HB9:=Hd (Qab HRI.out.bel HBb.out HBb.out.size)
   have HCP:=Hd (Qal hown9)
   have hT:=HSF3.out _ (Qab HRI.out.bel HUb.out HUb.out.size)
   refine hK.out _ _ (fun _=>hT) ?_
   clear hK K hown9 hg9 hat9 hlt9 a2 a4 hT
   (try simp only [Act.put,Till.a,Till.b,Till.c])
   refine Till.step (i:=5) (by kernel_rfl) rfl ?_
   intro K hK
   go_simp
   refine hK.out _ _ (fun h=>absurd h (by decide)) ?_
   clear hK K
   (try simp only [Act.put,Till.a,Till.b,Till.c])
   refine Till.done (by kernel_rfl) ?_ _
   go_wp2_with fail
   go_meet
   exact ⟨some ⟨G,0,none⟩,cap,rfl,by have:=HCP.out;unfold maxLen at this;exact this,Hd HRI.out.rowsM,Hd (HW2.out _ HB9.out).2.2.2.2.2.2⟩
 case rest=>
 obtain ⟨X,c,rfl,hcap,HRX,HBX⟩:=hcut
 have HCAP:=Hd hcap
 clear hcap
 by_cases hlg:2000<nq+1
 ·have HE:=Hd (show R=([],2) by rw [<- HR7.out,if_pos hlg])
  have h3:(2000:Int)<(nq:Int)+1:=by omega
  clear hlg
  go_wp2
  go_ret2
  rw [HE.out]
  exact RetCD.no HBX.out
 ·have HE:=Hd (show R=(RL++[⟨tl,V2⟩],0) by rw [<- HR7.out,if_neg hlg])
  have h3:¬ (2000:Int)<(nq:Int)+1:=by omega
  clear hlg
  go_wp2
  go_ret2
  rw [HE.out]
  have HLN:=Hd (show ((RL++[⟨tl,V2⟩],(0:Int)):List RowP×Int).1.length=nq+1 by rw [<- HNQ.out];simp)
  refine ⟨X,c,?_,HRX.out,by rw [HLN.out];exact HCAP.out,HBX.out⟩
  rw [HLN.out]
  rfl
end Go.Proofs.YtaiabjiehpcaoaaGreatDoor
