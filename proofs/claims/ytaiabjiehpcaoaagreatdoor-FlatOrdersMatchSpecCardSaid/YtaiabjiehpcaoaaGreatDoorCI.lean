
/- The walk of the law FlatOrdersMatchSpec. -/
import Derived.Test.YtaiabjiehpcaoaaGreatDoorCG
import Derived.Test.YtaiabjiehpcaoaaGreatDoorZ1
import Derived.Test.YtaiabjiehpcaoaaGreatDoorUN
set_option maxHeartbeats 4000000
set_option maxRecDepth 100000
namespace Go.Proofs.YtaiabjiehpcaoaaGreatDoor
open Go.RowKit Limb Nmb Work
set_option linter.unusedVariables false
set_option linter.unusedSimpArgs false
theorem law_orders (f:Fmt) (A:Option Addr) (cp:Nat) (FA:Nat->Option Addr) (FC:Nat->Nat) (L:Option Addr) (LC:Nat) (rs:List RowP) (RA:Nat->Option Addr) (RC:Nat->Nat) (m0:Int) (w:World) (ho:Kinds w A f.kinds FA FC) (hl:RowsM w L rs RA RC) (hLC:rs.length<=LC) (hLM:LC<=9223372036854775807) (hLB:LC*40<=140737488351232) (hcp:f.kinds.length<=cp) (hm:0<=f.mark/\f.mark<=255) (hq:0<=f.quote/\f.quote<=255) (ht:Tab w) (hm0:w.cell? ⟨2,0,none⟩=some (.int .i64 m0)) :
  Calls Tryz.prog 4 #[fmtG f A cp,.slice L rs.length LC] w fun e w'=>e=.returned (.bool true)/\Below w.heap.size w w':=by
 have HO1:=Hd (fun w h h2 ht=>CheckOrder_c f A cp FA FC L LC rs RA RC w h h2 hLC hLM hcp hm hq ht)
 have HO2:=Hd (fun w h h2 ht=>rCheckOrder_c f A cp FA FC L LC rs RA RC w h h2 hLC hLM hcp hm hq ht)
 have HT1:=Hd (fun w h h2 ht=>CheckTotals_c f A cp FA FC L LC rs RA RC w h h2 hLC hLM (by omega) hcp hm hq ht)
 have HT2:=Hd (fun w h h2 ht=>rCheckTotals_c f A cp FA FC L LC rs RA RC w h h2 hLC hLM (by omega) hcp hm hq ht)
 have HC1:=Hd (fun w h h2 ht=>Closed_c f A cp FA FC L LC rs RA RC w h h2 hLC hcp hm hq ht)
 have HC2:=Hd (fun w h h2 ht=>rClosed_c f A cp FA FC L LC rs RA RC w h h2 hLC hcp hm hq ht)
 have HSA:=Hd (fun x X Y c d RA' RC' RB RD w h h2=>same_c X Y c d x RA' RB RC' RD w h h2)
 have HK:=Hd ho;have HRM:=Hd hl;have HT:=Hd ht;have HM:=Hd hm0
 obtain ⟨⟨OI,OE⟩,hOE⟩:=ex_ (ordF f rs)
 obtain ⟨⟨TI,TE⟩,hTE⟩:=ex_ (totF f rs)
 obtain ⟨⟨CL,CE⟩,hCE⟩:=ex_ (closedR f rs)
 rw [hOE] at HO1 HO2
 rw [hTE] at HT1 HT2
 rw [hCE] at HC1 HC2
 unfold Qbk at HO1 HO2 HT1 HT2
 unfold RetCD at HC1 HC2
 unfold RetB at HSA
 clear hOE hTE hCE ho hl ht hm0
 obtain ⟨m,q,ks,hd,tl,ct,sm⟩:=f
 unfold fmtG at HO1 HO2 HT1 HT2 HC1 HC2 ⊢
 simp only at HO1 HO2 HT1 HT2 HC1 HC2 HK hcp ⊢
 obtain ⟨nk,hnk⟩:=ex_ (ks.length)
 obtain ⟨nr,hnr⟩:=ex_ (rs.length)
 rw [hnk] at HO1 HO2 HT1 HT2 HC1 HC2 hcp ⊢
 rw [hnr] at HO1 HO2 HT1 HT2 HC1 HC2 ⊢
 obtain ⟨nc,hnc⟩:=ex_ (CL.length)
 have HNC:=Hd hnc
 rw [hnc] at HC1 HC2
 clear hnk hnr hnc
 have HP:=Hd (Qac w (.cells #[.int .u8 m,.int .u8 q,.slice A nk cp,.string hd,.string tl,.string ct,.string sm] 24) rfl)
 have HB1:Hid (Below w.heap.size w (w.alloc (.cells #[.int .u8 m,.int .u8 q,.slice A nk cp,.string hd,.string tl,.string ct,.string sm] 24))):=Hd (by go_grown)
 go_enter Tryz.func4,Tryz.ntmps4
 go_upto_region 1 with fail
 generalize w.alloc (.cells #[.int .u8 m,.int .u8 q,.slice A nk cp,.string hd,.string tl,.string ct,.string sm] 24)=w1 at HP HB1 ⊢
 have HW:=Hd (show ∀ wx,Below w1.heap.size w1 wx->wx.heap[w.heap.size]?=some (.cells #[.int .u8 m,.int .u8 q,.slice A nk cp,.string hd,.string tl,.string ct,.string sm] 24 (0,0))/\Kinds wx A ks FA FC/\RowsM wx L rs RA RC/\Tab wx/\wx.cell? ⟨2,0,none⟩=some (.int .i64 m0)/\Below w.heap.size w wx from fun wx h=>by
  have h2:=Qab h HB1.out HB1.out.size
  exact ⟨Qaa HP.out h,HK.out.below h2,HRM.out.below h2,HT.out.below h2,(h2.cell (p:=⟨2,0,none⟩) (World.block_lt_of_cell? _ _ HM.out)).trans HM.out,h2⟩)
 have HB0:=Hd (Below.refl w1.heap.size w1)
 clear HP HB1 HK HRM HT HM
 obtain ⟨q1,qk,ql,qt,-,-⟩:=HW.out _ HB0.out
 obtain ⟨⟨f0,f1,f2,f3,f4,f5,f6⟩,-⟩:=Qai q1
 go_wp2_with fail
 refine (HO1.out _ qk ql qt).mono ?_
 rintro _ w2 ⟨rfl,hb0⟩
 have HB2:=Hd (Qab hb0 HB0.out HB0.out.size)
 clear q1 qk ql qt f0 f1 f2 f3 f4 f5 f6 hb0 HO1 HB0
 obtain ⟨q1,qk,ql,qt,-,-⟩:=HW.out _ HB2.out
 obtain ⟨⟨f0,f1,f2,f3,f4,f5,f6⟩,-⟩:=Qai q1
 go_wp2_with fail
 refine (HO2.out _ qk ql qt).mono ?_
 rintro _ w3 ⟨rfl,hb1⟩
 have HB3:=Hd (Qab hb1 HB2.out HB2.out.size)
 clear q1 qk ql qt f0 f1 f2 f3 f4 f5 f6 hb1 HO2 HB2
 obtain ⟨q1,qk,ql,qt,-,-⟩:=HW.out _ HB3.out
 obtain ⟨⟨f0,f1,f2,f3,f4,f5,f6⟩,-⟩:=Qai q1
 go_wp2_with fail
 refine (HT1.out _ qk ql qt).mono ?_
 rintro _ w4 ⟨rfl,hb2⟩
 have HB4:=Hd (Qab hb2 HB3.out HB3.out.size)
 clear q1 qk ql qt f0 f1 f2 f3 f4 f5 f6 hb2 HT1 HB3
 obtain ⟨q1,qk,ql,qt,-,-⟩:=HW.out _ HB4.out
 obtain ⟨⟨f0,f1,f2,f3,f4,f5,f6⟩,-⟩:=Qai q1
 go_wp2_with fail
 refine (HT2.out _ qk ql qt).mono ?_
 rintro _ w5 ⟨rfl,hb3⟩
 have HB5:=Hd (Qab hb3 HB4.out HB4.out.size)
 clear q1 qk ql qt f0 f1 f2 f3 f4 f5 f6 hb3 HT2 HB4
 have hne1:(OE !=OE)=false:=by simp
 have hne2:(OI !=OI)=false:=by simp
 have hne3:(TE !=TE)=false:=by simp
 have hne4:(TI !=TI)=false:=by simp
 have heq:(CE==CE)=true:=by simp
 obtain ⟨q1,qk,ql,qt,-,-⟩:=HW.out _ HB5.out
 obtain ⟨⟨f0,f1,f2,f3,f4,f5,f6⟩,-⟩:=Qai q1
 go_wp2_with fail
 refine (HC1.out _ qk ql qt).mono ?_
 rintro _ w6 ⟨X,c,rfl,⟨RX,RCX,hrx⟩,-,hb6⟩
 have HRX:=Hd hrx
 have HB6:=Hd (Qab hb6 HB5.out HB5.out.size)
 clear q1 qk ql qt f0 f1 f2 f3 f4 f5 f6 hrx hb6 HC1 HB5
 obtain ⟨q1,qk,ql,qt,-,-⟩:=HW.out _ HB6.out
 obtain ⟨⟨f0,f1,f2,f3,f4,f5,f6⟩,-⟩:=Qai q1
 go_wp2_with fail
 refine (HC2.out _ qk ql qt).mono ?_
 rintro _ w7 ⟨Y,d,rfl,⟨RB,RD,hry⟩,-,hb7⟩
 have HRY:=Hd hry
 have HRX7:=Hd (HRX.out.below hb7)
 have HB7:=Hd (Qab hb7 HB6.out HB6.out.size)
 have HS3:=Hd (HSA.out CL X Y c d RX RCX RB RD w7 HRX7.out HRY.out)
 rw [HNC.out] at HS3
 clear q1 qk ql qt f0 f1 f2 f3 f4 f5 f6 hry hb7 HC2 HB6 HRX
 go_wp2_with fail
 refine HS3.out.mono ?_
 rintro _ w8 ⟨rfl,hb8⟩
 have HB8:=Hd (Qab hb8 HB7.out HB7.out.size)
 obtain ⟨-,-,-,-,qm,-⟩:=HW.out _ HB8.out
 have QM:=Hd qm
 clear hb8 HB7 HRX7 HRY HS3 qm
 go_wp2_with fail
 refine (awake6_c m0 w8 QM.out).mono ?_
 rintro _ w9 ⟨rfl,hb9⟩
 have hB9:=(HW.out _ (Qab hb9 HB8.out HB8.out.size)).2.2.2.2.2
 go_wp2
 go_ret
 exact ⟨rfl,hB9⟩
theorem law_orders_i (f:Fmt) (A:Option Addr) (cp:Nat) (FA:Nat->Option Addr) (FC:Nat->Nat) (L:Option Addr) (LC:Nat) (rs:List RowP) (RA:Nat->Option Addr) (RC:Nat->Nat) (w:World) (ho:Kinds w A f.kinds FA FC) (hl:RowsM w L rs RA RC) (hLC:rs.length<=LC) (hLM:LC<=9223372036854775807) (hLB:LC*40<=140737488351232) (hcp:f.kinds.length<=cp) (hm:0<=f.mark/\f.mark<=255) (hq:0<=f.quote/\f.quote<=255) (ht:Tab w) (hm0:∃ m,w.cell? ⟨2,0,none⟩=some (.int .i64 m)) :
  Calls Tryz.prog 4 #[fmtG f A cp,.slice L rs.length LC] w fun e w'=>e=.returned (.bool true)/\Below w.heap.size w w':=by
 obtain ⟨m0,h⟩:=hm0
 exact law_orders f A cp FA FC L LC rs RA RC m0 w ho hl hLC hLM hLB hcp hm hq ht h
end Go.Proofs.YtaiabjiehpcaoaaGreatDoor
