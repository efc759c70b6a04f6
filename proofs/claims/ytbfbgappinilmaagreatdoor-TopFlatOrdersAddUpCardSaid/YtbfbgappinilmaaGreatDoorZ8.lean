
/- The walks of typeFault and turned. (Printed by genZ8.py.) -/
import Derived.Test.YtbfbgappinilmaaGreatDoorG1
import Derived.Test.YtbfbgappinilmaaGreatDoorYP
namespace Go.Proofs.YtbfbgappinilmaaGreatDoor
open Go.RowKit Limb Nmb Work
set_option linter.unusedVariables false
set_option linter.unusedSimpArgs false
theorem kat_any {g:Fmt} {GA:Nat->Option Addr} {GC:Nat->Nat} {W:World->Prop} {B:Option Addr} (t:ByteArray) (hg:∀ w,W w->Kinds w B g.kinds GA GC) :
  ∃ (ok:Bool) (O:RKd) (OA:Option Addr) (OC:Nat),(decide (0<=katI g t)=ok/\katK g t=O/\katA g GA t=OA/\katC g GC t=OC)/\(∀ w,W w->Cols w OA O.fields)/\(ok=true↔¬ katI g t<0):=by
 rcases kat_cases g GA GC t with ⟨e1,e2,e3,e4⟩|⟨k,hk,e1,e2,e3,e4⟩
 ·refine ⟨false,kind0,none,0,⟨by rw [e1];decide,e2,e3,e4⟩,fun w _=>⟨⟨fun c hc=>(by cases hc),by decide⟩,fun h=>absurd h (Nat.not_lt_zero _)⟩,⟨fun h=>(by cases h),fun h=>absurd (by rw [e1];decide) h⟩⟩
 ·exact ⟨true,kA g.kinds k,GA k,GC k,⟨by rw [e1];exact decide_eq_true (by omega),e2,e3,e4⟩,fun w h=>((hg w h).2.2 k hk).1,⟨fun _=>by omega,fun _=>rfl⟩⟩
def typeB2 (o:RKd) (c:Col):Bool:=decide (0<=ixF (nameIs c.name) o.fields)&&decide ((cA o.fields (ixF (nameIs c.name) o.fields).toNat).kind≠c.kind)
def typeB1 (g:Fmt) (k:RKd):Bool:=k.fields.any (typeB2 (katK g k.tag))
theorem any_hit {α:Type} {q:α->Bool} {l:List α} {x:α} (h:x∈l) (hq:q x=true):l.any q=true:=List.any_eq_true.2 ⟨x,h,hq⟩
theorem any_miss {α:Type} {q:α->Bool} {l:List α} (h:∀ j (hj:j<l.length),q l[j]=false):l.any q=false:=by
 rw [Bool.eq_false_iff]
 intro h2
 obtain ⟨x,hx,h3⟩:=List.any_eq_true.1 h2
 obtain ⟨j,hj,rfl⟩:=List.getElem_of_mem hx
 rw [h j hj] at h3
 cases h3
set_option maxHeartbeats 8000000 in
set_option maxRecDepth 100000 in
theorem typefault_c (f g:Fmt) (A B:Option Addr) (cp cq:Nat) (FA GA:Nat->Option Addr) (FC GC:Nat->Nat) (w:World) (ho:Kinds w A f.kinds FA FC) (hg:Kinds w B g.kinds GA GC) (hf:checkF f=0) :
  Calls Tryz.prog 49 #[fmtG f A cp,fmtG g B cq] w (RetB (typeB f g) w):=by
 have HKF:=Lib.hid ho;have HKG:=Lib.hid hg
 have HKA2:=Lib.hid (fun t w h=>kindat_c g B cq GA GC t w h)
 have HFM:=Lib.hid (checkF_ok hf)
 obtain ⟨R,hR⟩:∃ x,typeB f g=x:=⟨_,rfl⟩
 have HR:=Lib.hid (show f.kinds.any (typeB1 g)=R from hR)
 rw [hR]
 clear hR ho hg hf
 obtain ⟨fm,fq,fks,fd,ft,fc,fs0⟩:=f
 obtain ⟨gm,gq,gks,gd,gt,gc,gs⟩:=g
 unfold fmtG at HKA2 ⊢
 unfold RetB
 simp only at HKA2 HKF HKG HR ⊢
 obtain ⟨nk,hnk⟩:∃ x,fks.length=x:=⟨_,rfl⟩
 obtain ⟨ng,hng⟩:∃ x,gks.length=x:=⟨_,rfl⟩
 have HNK:=Lib.hid hnk
 rw [hnk]
 rw [hng] at HKA2 ⊢
 have hnk30:nk<=30:=by rw [<- hnk];exact HFM.out.some.2
 clear hnk hng
 have hP1:=heap_old (heap_new w (.cells #[.int .u8 fm,.int .u8 fq,.slice A nk cp,.string fd,.string ft,.string fc,.string fs0] 44) rfl) (.cells #[.int .u8 gm,.int .u8 gq,.slice B ng cq,.string gd,.string gt,.string gc,.string gs] 44)
 have hP2:=heap_new (w.alloc (.cells #[.int .u8 fm,.int .u8 fq,.slice A nk cp,.string fd,.string ft,.string fc,.string fs0] 44)) (.cells #[.int .u8 gm,.int .u8 gq,.slice B ng cq,.string gd,.string gt,.string gc,.string gs] 44) (g:=w.heap.size+1) (by simp)
 have hB1:Below w.heap.size w ((w.alloc (.cells #[.int .u8 fm,.int .u8 fq,.slice A nk cp,.string fd,.string ft,.string fc,.string fs0] 44)).alloc (.cells #[.int .u8 gm,.int .u8 gq,.slice B ng cq,.string gd,.string gt,.string gc,.string gs] 44)):=by go_grown
 go_enter Tryz.func49,Tryz.ntmps49
 go_upto_region 1 with fail
 generalize (w.alloc (.cells #[.int .u8 fm,.int .u8 fq,.slice A nk cp,.string fd,.string ft,.string fc,.string fs0] 44)).alloc (.cells #[.int .u8 gm,.int .u8 gq,.slice B ng cq,.string gd,.string gt,.string gc,.string gs] 44)=w1 at hP1 hP2 hB1 ⊢
 have HW:=Lib.hid (show ∀ wx,Below w1.heap.size w1 wx->wx.heap[w.heap.size+1]?=some (.cells #[.int .u8 gm,.int .u8 gq,.slice B ng cq,.string gd,.string gt,.string gc,.string gs] 44 (0,0))/\Kinds wx A fks FA FC/\Kinds wx B gks GA GC/\Below w.heap.size w wx from fun wx h=>by
  have h2:=below_then h hB1 hB1.size
  exact ⟨heap_below hP2 h,HKF.out.below h2,HKG.out.below h2,h2⟩)
 obtain ⟨⟨p0,p1,p2,p3,p4,p5,p6⟩,-⟩:=obox7 hP1
 clear hP2 hB1
 go_wp2_with fail
 go_loopw [15] (fun i wr=>∃ (j:Nat),j<=nk/\i=.int .i64 j/\Hid (∀ x,x<j->typeB1 ⟨gm,gq,gks,gd,gt,gc,gs⟩ (kA fks x)=false)/\Hid (Below w1.heap.size w1 wr)) (fun i _=>nk-(intOf i).toNat)
 case atStart=>exact ⟨0,by omega,rfl,Lib.hid (fun x h=>absurd h (Nat.not_lt_zero _)),Lib.hid (Below.refl _ _)⟩
 case round=>
  clear hP1 p0 p1 p2 p3 p4 p5 p6
  obtain ⟨j,hj,rfl,HT,HB⟩:=hrel
  have hzr:=HB.out.size
  rcases Nat.lt_or_ge j nk with hlt | hge
  ·have tk:decide ((j:Int)<(nk:Int))=true:=decide_eq_true (by omega)
   have hjl:j<fks.length:=by rw [HNK.out];exact hlt
   obtain ⟨b,off,rfl,hbw,c0,c1,c2,c3⟩:=(HW.out _ HB.out).2.1.cells hjl
   have HCO:=Lib.hid (fun wx h=>kinds_cols (HW.out wx h).2.1 hjl)
   have hmny:=(HFM.out.kinds j hjl).many
   simp only at hmny
   have HHIT:=Lib.hid (show typeB1 ⟨gm,gq,gks,gd,gt,gc,gs⟩ (kA fks j)=true->R=true from fun h=>HR.out.symm.trans (any_hit (by rw [<- kA_get hjl];exact List.getElem_mem hjl) h))
   have HMISS:=Lib.hid (show typeB1 ⟨gm,gq,gks,gd,gt,gc,gs⟩ (kA fks j)=false->∀ x,x<j+1->typeB1 ⟨gm,gq,gks,gd,gt,gc,gs⟩ (kA fks x)=false from fun h x hx=>by
    rcases Nat.lt_or_ge x j with h2 | h2
    ·exact HT.out x h2
    ·obtain rfl:x=j:=by omega
     exact h)
   obtain ⟨K,hK⟩:∃ x,kA fks j=x:=⟨_,rfl⟩
   rw [hK] at c0 c1 c2 c3 HCO hmny HHIT HMISS
   generalize FA j=KA at c1 HCO
   generalize FC j=KC at c1
   obtain ⟨kt,kfs,km,ku⟩:=K
   simp only at c0 c1 c2 c3 HCO hmny
   obtain ⟨nf,hnf⟩:∃ x,kfs.length=x:=⟨_,rfl⟩
   have HNF:=Lib.hid hnf
   rw [hnf] at c1 hmny
   have HK3:=Lib.hid (heap_new wr (.cells #[.string kt,.slice KA nf KC,.int .i64 km,.string ku] 83) rfl)
   have HB3:=Lib.hid (show Below w1.heap.size w1 (wr.alloc (.cells #[.string kt,.slice KA nf KC,.int .i64 km,.string ku] 83)) from HB.out.alloc hzr _)
   clear hK hnf hjl
   go_upto_region 4 with fail
   obtain ⟨kb,hkb⟩:∃ x,wr.heap.size=x:=⟨_,rfl⟩
   rw [hkb] at HK3
   try rw [hkb]
   generalize wr.alloc (.cells #[.string kt,.slice KA nf KC,.int .i64 km,.string ku] 83)=w3 at HK3 HB3 ⊢
   clear hkb c0 c1 c2 c3 hbw HB hzr
   obtain ⟨q2,-,qg,-⟩:=HW.out _ HB3.out
   obtain ⟨⟨q0,q1,q2,q3,q4,q5,q6⟩,-⟩:=obox7 q2
   obtain ⟨⟨k0,k1,k2,k3⟩,-,-⟩:=obox4 HK3.out
   obtain ⟨ok,O,OA,OC,hkk,hcols,hok⟩:=kat_any (g:=⟨gm,gq,gks,gd,gt,gc,gs⟩) (W:=fun wx=>Below w1.heap.size w1 wx) kt (fun wx h=>(HW.out wx h).2.2.1)
   go_wp2_with fail
   refine (HKA2.out kt _ qg).mono ?_
   rintro _ w4 ⟨rfl,hb4⟩
   rw [hkk.1,hkk.2.1,hkk.2.2.1,hkk.2.2.2]
   have HT1:=Lib.hid (show typeB1 ⟨gm,gq,gks,gd,gt,gc,gs⟩ ⟨kt,kfs,km,ku⟩=kfs.any (typeB2 O) by unfold typeB1;rw [hkk.2.1])
   have HCL:=Lib.hid hcols
   have HK4:=Lib.hid (heap_below HK3.out hb4)
   have HB4:=Lib.hid (below_then hb4 HB3.out HB3.out.size)
   clear q0 q1 q2 q3 q4 q5 q6 k0 k1 k2 k3 qg hb4 HK3 HB3 hkk hcols hok
   rw [HT1.out] at HHIT HMISS
   have HT2:=Lib.hid (fun c=>(show typeB2 O c=(decide (0<=ixF (nameIs c.name) O.fields)&&decide ((cA O.fields (ixF (nameIs c.name) O.fields).toNat).kind≠c.kind)) from rfl))
   have HCA:=Lib.hid (fun t wx (h:Below w1.heap.size w1 wx)=>colat_c O OA OC t wx (HCL.out wx h))
   have HIX:=Lib.hid (fun t=>ixF_spec (nameIs t) O.fields)
   generalize hTB:typeB2 O=TB at HHIT HMISS HT2
   clear hTB HT1
   obtain ⟨ot,ofs,om,ou⟩:=O
   unfold kindG at HCA ⊢
   simp only at HCL HCA HIX ⊢
   obtain ⟨no,hno⟩:∃ x,ofs.length=x:=⟨_,rfl⟩
   have HNO:=Lib.hid hno
   rw [hno] at HCA ⊢
   have HK5:=Lib.hid (heap_old HK4.out (.cells #[.string ot,.slice OA no OC,.int .i64 om,.string ou] 83));have HD5:=Lib.hid (heap_new w4 (.cells #[.string ot,.slice OA no OC,.int .i64 om,.string ou] 83) rfl)
   have HB5:=Lib.hid (show Below w1.heap.size w1 (w4.alloc (.cells #[.string ot,.slice OA no OC,.int .i64 om,.string ou] 83)) from HB4.out.alloc HB4.out.size _)
   clear HK4 HB4 hno
   go_upto_region 5 with fail
   obtain ⟨ob,hob⟩:∃ x,w4.heap.size=x:=⟨_,rfl⟩
   rw [hob] at HD5
   try rw [hob]
   generalize w4.alloc (.cells #[.string ot,.slice OA no OC,.int .i64 om,.string ou] 83)=w5 at HK5 HD5 HB5 ⊢
   have HOB:=Lib.hid (lt_heap HD5.out);have HKB0:=Lib.hid (lt_heap HK5.out)
   clear hob
   obtain ⟨⟨k0,k1,k2,k3⟩,-,-⟩:=obox4 HK5.out
   go_wp2_with fail
   go_loopw [29] (fun i wr=>∃ (i':Nat),i'<=nf/\i=.int .i64 i'/\Hid (∀ x,x<i'->TB (cA kfs x)=false)/\Hid (Below w5.heap.size w5 wr)) (fun i _=>nf-(intOf i).toNat)
   case atStart=>exact ⟨0,by omega,rfl,Lib.hid (fun x h=>absurd h (Nat.not_lt_zero _)),Lib.hid (Below.refl _ _)⟩
   case round=>
    clear k0 k1 k2 k3
    obtain ⟨i,hi',rfl,HTI,HBI⟩:=hrel
    have hzr:=HBI.out.size
    have HBW:=Lib.hid (below_then HBI.out HB5.out HB5.out.size)
    rcases Nat.lt_or_ge i nf with hlt2 | hge2
    ·have hil:i<kfs.length:=by rw [HNF.out];exact hlt2
     obtain ⟨cb,co,rfl,hcb,d0,d1,d2,d3,d4,d5,d6,d7⟩:=(HCO.out _ HBW.out).cells hil
     have HH2:=Lib.hid (show TB (cA kfs i)=true->R=true from fun h=>HHIT.out (any_hit (by rw [<- cA_get hil];exact List.getElem_mem hil) h))
     have HM2:=Lib.hid (show TB (cA kfs i)=false->∀ x,x<i+1->TB (cA kfs x)=false from fun h x hx=>by
      rcases Nat.lt_or_ge x i with h2 | h2
      ·exact HTI.out x h2
      ·obtain rfl:x=i:=by omega
       exact h)
     obtain ⟨C,hC⟩:∃ x,cA kfs i=x:=⟨_,rfl⟩
     rw [hC] at d0 d1 d2 d3 d4 d5 d6 d7 HH2 HM2
     obtain ⟨cn,ck,cw,cl,cm,cr,ci,ce⟩:=C
     simp only at d0 d1 d2 d3 d4 d5 d6 d7
     have HTC:=Lib.hid (HT2.out ⟨cn,ck,cw,cl,cm,cr,ci,ce⟩)
     have HIXC:=Lib.hid (HIX.out cn)
     have HCAC:=Lib.hid (fun wx h=>HCA.out cn wx h)
     have HCB:=Lib.hid (heap_new wr (.cells #[.string cn,.int .i64 ck,.int .i64 cw,.int .i64 cl,.int .i64 cm,.bool cr,.int .u8 ci,.bool ce] 91) rfl)
     have HDB:=Lib.hid (heap_old (heap_below HD5.out HBI.out) (.cells #[.string cn,.int .i64 ck,.int .i64 cw,.int .i64 cl,.int .i64 cm,.bool cr,.int .u8 ci,.bool ce] 91))
     have HB6:=Lib.hid (show Below w5.heap.size w5 (wr.alloc (.cells #[.string cn,.int .i64 ck,.int .i64 cw,.int .i64 cl,.int .i64 cm,.bool cr,.int .u8 ci,.bool ce] 91)) from HBI.out.alloc hzr _)
     clear hC hil
     go_upto_region 8 with fail
     obtain ⟨cb2,hcb2⟩:∃ x,wr.heap.size=x:=⟨_,rfl⟩
     rw [hcb2] at HCB
     try rw [hcb2]
     generalize wr.alloc (.cells #[.string cn,.int .i64 ck,.int .i64 cw,.int .i64 cl,.int .i64 cm,.bool cr,.int .u8 ci,.bool ce] 91)=w6 at HCB HDB HB6 ⊢
     clear hcb2 d0 d1 d2 d3 d4 d5 d6 d7 hcb HBI HBW hzr
     obtain ⟨⟨o0,o1,o2,o3⟩,-,-⟩:=obox4 HDB.out
     obtain ⟨⟨x0,x1,x2,x3,x4,x5,x6,x7⟩,-⟩:=obox8 HCB.out
     go_wp2_with fail
     refine (HCAC.out _ (below_then HB6.out HB5.out HB5.out.size)).mono ?_
     rintro _ w7 ⟨rfl,hb7⟩
     have HDB7:=Lib.hid (heap_below HDB.out hb7);have HCB7:=Lib.hid (heap_below HCB.out hb7)
     have HB7:=Lib.hid (below_then hb7 HB6.out HB6.out.size)
     clear o0 o1 o2 o3 x0 x1 x2 x3 x4 x5 x6 x7 hb7 HDB HCB HB6 HCAC
     obtain ⟨⟨o0,o1,o2,o3⟩,-,-⟩:=obox4 HDB7.out
     obtain ⟨⟨x0,x1,x2,x3,x4,x5,x6,x7⟩,-⟩:=obox8 HCB7.out
     rcases HIXC.out with ⟨e1,-⟩|⟨ic,hic,e1,-,-⟩
     ·have HTF:=Lib.hid (show TB ⟨cn,ck,cw,cl,cm,cr,ci,ce⟩=false by rw [HTC.out,e1];rfl)
      rw [e1]
      have td:decide ((0:Int) <= -1)=false:=by decide
      clear e1
      go_upto_region 9 with fail
      go_quiet (fail)
      go_wp2
      go_roundw
      case rel=>exact ⟨i+1,by omega,by go_num,Lib.hid (HM2.out HTF.out),Lib.hid (below_drewN HB7.out _)⟩
      case measure=>simp [intOf];omega
     obtain ⟨ob2,oo,rfl,hob2,y0,y1,y2,y3,y4,y5,y6,y7⟩:=(HCL.out _ (below_then HB7.out HB5.out HB5.out.size)).cells (j:=ic) hic
     have HTI2:=Lib.hid (show TB ⟨cn,ck,cw,cl,cm,cr,ci,ce⟩=decide ((cA ofs ic).kind≠ck) by rw [HTC.out,e1,decide_eq_true (show (0:Int)<=(ic:Int) by omega),Int.toNat_natCast];rfl)
     have hicn:ic<no:=by rw [<- HNO.out];exact hic
     have td:decide ((0:Int)<=(ic:Int))=true:=decide_eq_true (by omega)
     rw [e1]
     obtain ⟨okd,hokd⟩:∃ x,(cA ofs ic).kind=x:=⟨_,rfl⟩
     rw [hokd] at y1 HTI2
     clear e1 y0 y2 y3 y4 y5 y6 y7 hokd
     by_cases hk:okd=ck
     ·have HTF:=Lib.hid (show TB ⟨cn,ck,cw,cl,cm,cr,ci,ce⟩=false by rw [HTI2.out];exact decide_eq_false (fun h=>h hk))
      have hk2:(okd !=ck)=false:=by simpa using hk
      clear hk
      go_upto_region 9 with fail
      go_quiet (fail)
      go_wp2
      go_roundw
      case rel=>exact ⟨i+1,by omega,by go_num,Lib.hid (HM2.out HTF.out),Lib.hid (below_drewN HB7.out _)⟩
      case measure=>simp [intOf];omega
     ·have HE:=Lib.hid (show R=true from HH2.out (by rw [HTI2.out];exact decide_eq_true hk))
      have hk2:(okd !=ck)=true:=by simpa using hk
      clear hk
      go_upto_region 9 with fail
      go_quiet (fail)
      go_wp2
      go_ret
      exact ⟨by rw [HE.out];rfl,(HW.out _ (below_drewN (below_then HB7.out HB5.out HB5.out.size) _)).2.2.2⟩
    ·obtain rfl:i=nf:=by omega
     have HM3:=Lib.hid (HMISS.out (any_miss fun x hx=>by rw [cA_get hx];exact HTI.out x (by rw [<- HNF.out];exact hx)))
     go_wp2
     go_roundw
     case rel=>exact ⟨j+1,by omega,by go_num,HM3,HBW⟩
     case measure=>simp [intOf];omega
  ·obtain rfl:j=nk:=by omega
   have HE:=Lib.hid (show R=false from HR.out.symm.trans (any_miss fun x hx=>by rw [kA_get hx];exact HT.out x (by rw [<- HNK.out];exact hx)))
   go_wp2
   go_ret
   exact ⟨by rw [HE.out];rfl,(HW.out _ HB.out).2.2.2⟩
end Go.Proofs.YtbfbgappinilmaaGreatDoor
