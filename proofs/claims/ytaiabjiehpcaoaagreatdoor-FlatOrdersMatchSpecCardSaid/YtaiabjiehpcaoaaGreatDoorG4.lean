/- The walk of the reference's checkKind. (Printed by genG3.py.) The walks of the reference's isCount and CheckFormat. (Printed by genG4.py.) -/
import Derived.Test.YtaiabjiehpcaoaaGreatDoorG2
-- merged: G3 G4
set_option maxHeartbeats 2000000
set_option maxRecDepth 100000
namespace Go.Proofs.YtaiabjiehpcaoaaGreatDoor
open Go.RowKit Limb Nmb Work
set_option linter.unusedVariables false
set_option linter.unusedSimpArgs false
theorem ixF_below {α:Type} (q:α->Bool) (l:List α) (i:Nat):((l.take i).any q=true)↔(0<=ixF q l/\ixF q l<(i:Int)):=by
 rcases QaT q l with ⟨h1,h2⟩|⟨k,hk,h1,h2,h3⟩
 ·rw [h1]
  constructor
  ·intro h
   obtain ⟨x,hx,hq⟩:=List.any_eq_true.1 h
   obtain ⟨j,hj,rfl⟩:=List.getElem_of_mem (List.mem_of_mem_take hx)
   rw [h2 j hj] at hq;cases hq
  ·intro h;omega
 ·rw [h1]
  constructor
  ·intro h
   obtain ⟨x,hx,hq⟩:=List.any_eq_true.1 h
   obtain ⟨j,hj,rfl⟩:=List.getElem_of_mem hx
   rw [List.length_take] at hj
   rw [List.getElem_take] at hq
   rcases Nat.lt_or_ge j k with h4 | h4
   ·rw [h3 j (by omega) h4] at hq;cases hq
   ·omega
  ·intro h
   exact List.any_eq_true.2 ⟨l[k],by rw [List.mem_iff_getElem];exact ⟨k,by rw [List.length_take];omega,by rw [List.getElem_take]⟩,h2⟩
theorem rkind_c (f:Fmt) (A:Option Addr) (c:Nat) (FA:Nat->Option Addr) (FC:Nat->Nat) (i:Nat) (w0:World) (ho:Kinds w0 A f.kinds FA FC) (hi:i<f.kinds.length) (hc:f.kinds.length<=c) :
  Calls Tryz.prog 58 #[fmtG f A c,.int .i64 (i:Int)] w0 (RetI (Qax f.mark f.kinds i) w0):=by
 have HKO:=Hd (fun t w (h:Kinds w A f.kinds FA FC)=>Qbg f A c FA FC t w h)
 obtain ⟨m,q,ks,hd,tl,ct,sm⟩:=f
 unfold fmtG at HKO ⊢
 simp only at *
 obtain ⟨b,off,rfl,hbw,a0,a1,a2,a3⟩:=ho.cells hi
 obtain ⟨hcols,hcc⟩:=ho.2.2 i hi
 have hszs:=ho.1.1 (kA ks i) (by rw [<- kA_get hi];exact List.getElem_mem _)
 have z0:w0.cell? ⟨b,off,none⟩=some (.string (kA ks 0).tag):=by
  obtain ⟨B0,OF0,e,-,z,-⟩:=ho.cells (j:=0) (by omega)
  injection e with e
  injection e with e1 e2
  subst e1;subst e2
  simpa using z
 obtain ⟨x,hx⟩:=ex_ (kA ks i)
 have HX:=Hd hx
 have hn:=ho.1.2
 have HO:=Hd ho
 have HIX:=Hd (show ixF (Qav (kA ks i).tag) ks=(i:Int)↔(ks.take i).any (Qav (kA ks i).tag)=false from ixF_take hi (by rw [kA_get hi];exact decide_eq_true rfl))
 obtain ⟨n,hnn⟩:=ex_ (ks.length)
 have HN:=Hd hnn
 rw [hnn] at hi hn hc HKO ⊢
 rw [hx] at a0 a1 a2 a3 hcols hcc hszs HIX
 obtain ⟨XA,hXA⟩:=ex_ (FA i)
 obtain ⟨XC,hXC⟩:=ex_ (FC i)
 rw [hXA] at a1 hcols
 rw [hXC] at a1 hcc
 obtain ⟨tg,fs,ms,un⟩:=x
 simp only at a0 a1 a2 a3 hcols hcc hszs HIX
 have hnf:=hcols.1.2
 have HCO:=Hd hcols
 have HCF:=Hd (fun (j:Nat) (hj:j<fs.length) w (h:Cols w XA fs)=>rcol_c ⟨m,q,ks,hd,tl,ct,sm⟩ (some ⟨b,off,none⟩) c ⟨tg,fs,ms,un⟩ XA XC j w (fun x hx=>hcols.1.1 x hx) hnf hcc h hj)
 unfold fmtG QaO at HCF
 simp only at HCF
 rw [hnn] at HCF
 obtain ⟨nf,hnff⟩:=ex_ (fs.length)
 have HNF:=Hd hnff
 rw [hnff] at a1 hcc hnf HCF
 obtain ⟨t0,ht0⟩:=ex_ ((kA ks 0).tag)
 have HT0:=Hd ht0
 rw [ht0] at z0
 obtain ⟨B1,hB1⟩:=ex_ ((decide (1<=tg.size/\tg.size<=6)&&tagL tg.data.toList))
 have HT:=Hd (fun w=>ristag_c tg w hszs.1)
 rw [hB1] at HT
 obtain ⟨I1,hI1⟩:=ex_ (ixF (Qav tg) ks)
 obtain ⟨I2,hI2⟩:=ex_ (ixF (Qav un) ks)
 have HK1:=Hd (HKO.out tg)
 have HK2:=Hd (HKO.out un)
 rw [hI1] at HK1 HIX
 rw [hI2] at HK2
 have HUB:=Hd (ixF_below (Qav un) ks i)
 rw [hI2] at HUB
 have HI2:=Hd (show -1<=I2 by rw [<- hI2];exact ixF_lo _ _)
 have HB1:=Hd hB1
 have htgs:=hszs.1
 clear hB1 hI1 hI2 ho hx hnn hcols hszs hXA hXC hnff ht0 HKO
 have HF:=Hd (Qad (Qac w0 (.cells #[.int .u8 m,.int .u8 q,.slice (some ⟨b,off,none⟩) n c,.string hd,.string tl,.string ct,.string sm] 24) rfl) (.cells #[.string tg,.slice XA nf XC,.int .i64 ms,.string un] 52))
 have HK:=Hd (Qac (w0.alloc (.cells #[.int .u8 m,.int .u8 q,.slice (some ⟨b,off,none⟩) n c,.string hd,.string tl,.string ct,.string sm] 24)) (.cells #[.string tg,.slice XA nf XC,.int .i64 ms,.string un] 52) (g:=w0.heap.size+1) (by simp))
 have hB1:Below w0.heap.size w0 ((w0.alloc (.cells #[.int .u8 m,.int .u8 q,.slice (some ⟨b,off,none⟩) n c,.string hd,.string tl,.string ct,.string sm] 24)).alloc (.cells #[.string tg,.slice XA nf XC,.int .i64 ms,.string un] 52)):=by go_grown
 go_enter Tryz.func58,Tryz.ntmps58
 go_wp2_with fail
 clear a0 a1 a2 a3
 generalize (w0.alloc (.cells #[.int .u8 m,.int .u8 q,.slice (some ⟨b,off,none⟩) n c,.string hd,.string tl,.string ct,.string sm] 24)).alloc (.cells #[.string tg,.slice XA nf XC,.int .i64 ms,.string un] 52)=w1 at HF HK hB1 ⊢
 obtain ⟨⟨f0,f1,f2,f3,f4,f5,f6⟩,f7⟩:=Qai HF.out
 obtain ⟨⟨k0,k1,k2,k3⟩,-,k5⟩:=Qaw HK.out
 refine (HT.out _).mono ?_
 rintro e w2 ⟨rfl,rfl⟩
 cases B1 with
 | false=>
  have hbad:¬ (1<=tg.size/\tg.size<=6)∨tagL tg.data.toList=false:=by
   have:=HB1.out
   simp only [Bool.and_eq_false_iff,decide_eq_false_iff_not] at this
   exact this
  have HE:=Hd (show Qax m ks i=3 by unfold Qax;rw [HX.out];simp only;rw [if_pos hbad])
  clear hbad
  go_wp2
  go_ret
  exact ⟨congrArg (fun v=>Ending.returned (Value.int .i64 v)) HE.out.symm,hB1⟩
 | true=>
 have hgood:(1<=tg.size/\tg.size<=6)/\tagL tg.data.toList=true:=by
  have:=HB1.out
  simp only [Bool.and_eq_true,decide_eq_true_eq] at this
  exact this
 have HGD:=Hd hgood
 clear hgood
 go_wp2_with fail
 refine (HK1.out _ (HO.out.below hB1)).mono ?_
 rintro e w3 ⟨rfl,hb3⟩
 have hF3:=Qaa HF.out hb3
 have hK3:=Qaa HK.out hb3
 have hB3:=Qab hb3 hB1 hB1.size
 clear f0 f1 f2 f3 f4 f5 f6 f7 k0 k1 k2 k3 k5
 clear HF HK
 have HF:=Hd hF3;have HK:=Hd hK3
 clear hF3 hK3 hb3
 obtain ⟨⟨f0,f1,f2,f3,f4,f5,f6⟩,f7⟩:=Qai HF.out
 obtain ⟨⟨k0,k1,k2,k3⟩,-,k5⟩:=Qaw HK.out
 by_cases hix:I1=(i:Int)
 case neg=>
  have hab:(List.take i ks).any (Qav tg)=true:=by
   cases h:(List.take i ks).any (Qav tg) with
   | true=>rfl
   | false=>exact absurd (HIX.out.2 h) hix
  have HE:=Hd (show Qax m ks i=7 by unfold Qax;rw [HX.out];simp [HGD.out.1.1,HGD.out.1.2,HGD.out.2,hab])
  have hixa:(I1 !=(i:Int))=true:=by simpa using hix
  clear hix hab
  go_wp2
  go_ret
  exact ⟨congrArg (fun v=>Ending.returned (Value.int .i64 v)) HE.out.symm,hB3⟩
 have HAB:=Hd (HIX.out.1 hix)
 have hixa:(I1 !=(i:Int))=false:=by simpa using hix
 clear hix
 have cz:w3.cell? ⟨b,off,none⟩=some (.string t0):=(hB3.cell (p:=⟨b,off,none⟩) hbw).trans z0
 by_cases h7:m=0/\tg.size≠t0.size
 ·obtain ⟨h7,h8⟩:=h7
  subst h7
  have HE:=Hd (show Qax 0 ks i=3 by unfold Qax;rw [HX.out];simp [HGD.out.1.1,HGD.out.1.2,HGD.out.2,HAB.out,HT0.out,h8])
  have h8a:((tg.size:Int) !=(t0.size:Int))=true:=by simp;omega
  clear h8
  go_wp2
  go_quiet (fail)
  go_wp2
  go_ret
  exact ⟨congrArg (fun v=>Ending.returned (Value.int .i64 v)) HE.out.symm,below_drewN hB3 _⟩
 have H7:=Hd (show ¬ (m=0/\¬ tg.size=(kA ks 0).tag.size) by rw [HT0.out];exact h7)
 go_upto_region 6 with fail
 go_cut [26] (fun v wx=>v=.bool false/\∃ q,wx=w3.drewN q)
 case first=>
  by_cases h8:m=0
  ·subst h8
   have h9:((tg.size:Int) !=(t0.size:Int))=false:=by
    have:tg.size=t0.size:=Classical.byContradiction fun e=>h7 ⟨rfl,e⟩
    rw [this];simp
   clear h7
   go_quiet (fail)
   go_wp2_with fail
   go_meet
   exact ⟨rfl,_,rfl⟩
  ·have h9:(m==0)=false:=by simpa using h8
   clear h7 h8
   go_quiet (fail)
   go_wp2_with fail
   go_meet
   exact ⟨rfl,_,rfl⟩
 case rest=>
 obtain ⟨rfl,q4,rfl⟩:=hcut
 clear h7
 have hF4:(w3.drewN q4).heap[w0.heap.size]?=some (.cells #[.int .u8 m,.int .u8 q,.slice (some ⟨b,off,none⟩) n c,.string hd,.string tl,.string ct,.string sm] 24 (0,0)):=by exact HF.out
 have hK4:(w3.drewN q4).heap[w0.heap.size+1]?=some (.cells #[.string tg,.slice XA nf XC,.int .i64 ms,.string un] 52 (0,0)):=by exact HK.out
 have hB4:Below w0.heap.size w0 (w3.drewN q4):=below_drewN hB3 _
 clear f0 f1 f2 f3 f4 f5 f6 f7 k0 k1 k2 k3 k5
 clear HF HK cz hB3
 generalize w3.drewN q4=w4 at hF4 hK4 hB4 ⊢
 have HF:=Hd hF4;have HK:=Hd hK4
 clear hF4 hK4
 obtain ⟨⟨f0,f1,f2,f3,f4,f5,f6⟩,f7⟩:=Qai HF.out
 obtain ⟨⟨k0,k1,k2,k3⟩,-,k5⟩:=Qaw HK.out
 by_cases h9:50<nf
 ·have HE:=Hd (show Qax m ks i=2 by unfold Qax;rw [HX.out];simp [HGD.out.1.1,HGD.out.1.2,HGD.out.2,HAB.out,H7.out,HNF.out,h9])
  have h9a:(50:Int)<(nf:Int):=by omega
  clear h9
  go_wp2
  go_ret
  exact ⟨congrArg (fun v=>Ending.returned (Value.int .i64 v)) HE.out.symm,hB4⟩
 have h9a:¬ (50:Int)<(nf:Int):=by omega
 have H9:=Hd (show ¬ 50<fs.length by rw [HNF.out];exact h9)
 have hnf50:nf<=50:=by omega
 clear h9
 go_wp2_with fail
 go_loopw [50] (fun i wr=>∃ j:Nat,j<=nf/\i=.int .i64 j/\Hid (wr.heap[w0.heap.size]?=some (.cells #[.int .u8 m,.int .u8 q,.slice (some ⟨b,off,none⟩) n c,.string hd,.string tl,.string ct,.string sm] 24 (0,0)))/\Hid (wr.heap[w0.heap.size+1]?=some (.cells #[.string tg,.slice XA nf XC,.int .i64 ms,.string un] 52 (0,0)))/\Below w0.heap.size w0 wr/\Hid (∀ t,t<j->colF m (cA fs t) (fs.take t)=0)) (fun i _=>nf-(intOf i).toNat)
 case atStart=>exact ⟨0,Nat.zero_le _,rfl,HF,HK,hB4,Hd (fun t h=>absurd h (Nat.not_lt_zero _))⟩
 case round=>
  clear f0 f1 f2 f3 f4 f5 f6 f7 k0 k1 k2 k3 k5
  clear HF HK
  obtain ⟨j,hj,rfl,HF,HK,hB5,HJ⟩:=hrel
  obtain ⟨⟨f0,f1,f2,f3,f4,f5,f6⟩,f7⟩:=Qai HF.out
  obtain ⟨⟨k0,k1,k2,k3⟩,-,k5⟩:=Qaw HK.out
  rcases Nat.lt_or_ge j nf with hlt | hge
  ·have HCJ:=Hd (HCF.out j hlt wr (HCO.out.below hB5))
   obtain ⟨E,hE⟩:=ex_ (colF m (cA fs j) (fs.take j))
   rw [hE] at HCJ
   have HEE:=Hd hE
   clear hE
   go_wp2_with fail
   refine HCJ.out.mono ?_
   rintro e w7 ⟨rfl,hb7⟩
   have HF7:=Hd (Qaa HF.out hb7);have HK7:=Hd (Qaa HK.out hb7);have hB7:=Qab hb7 hB5 hB5.size
   clear f0 f1 f2 f3 f4 f5 f6 f7 k0 k1 k2 k3 k5
   clear HF HK
   by_cases hz:E=0
   ·subst hz
    have HJ2:=Hd (show ∀ t,t<j+1->colF m (cA fs t) (fs.take t)=0 from fun t ht=>by
     rcases Nat.lt_or_ge t j with h | h
     ·exact HJ.out t h
     ·obtain rfl:t=j:=by omega
      exact HEE.out)
    go_wp2
    go_roundw
    case rel=>exact ⟨j+1,by omega,by go_num,HF7,HK7,hB7,HJ2⟩
    case measure=>simp [intOf];omega
   ·have HEN:=Hd (show colsF m fs=E from by
     unfold colsF
     rw [fstF_hit (k:=j) (by rw [HNF.out];exact hlt) (fun t ht=>HJ.out t ht) (by rw [HEE.out];exact hz),HEE.out])
    have HE:=Hd (show Qax m ks i=E by unfold Qax;rw [HX.out];simp [HGD.out.1.1,HGD.out.1.2,HGD.out.2,HAB.out,H7.out,H9.out,HEN.out,hz])
    have hza:(E !=0)=true:=by simpa using hz
    clear hz
    go_wp2
    go_ret
    exact ⟨congrArg (fun v=>Ending.returned (Value.int .i64 v)) HE.out.symm,hB7⟩
  ·obtain rfl:j=nf:=by omega
   have HEN:=Hd (show colsF m fs=0 from by
    unfold colsF
    exact fstF_no (fun t ht=>HJ.out t (by rw [<- HNF.out];exact ht)))
   by_cases h10:0<=ms/\ms<=2000
   case neg=>
    have HE:=Hd (show Qax m ks i=1 by unfold Qax;rw [HX.out];simp [HGD.out.1.1,HGD.out.1.2,HGD.out.2,HAB.out,H7.out,H9.out,HEN.out,h10])
    have HO2:=Hd (fun w=>QaB ms 0 2000 w)
    rw [decide_eq_false h10] at HO2
    clear h10
    go_wp2_with fail
    refine (HO2.out _).mono ?_
    rintro e w9 ⟨rfl,rfl⟩
    go_wp2
    go_ret
    exact ⟨congrArg (fun v=>Ending.returned (Value.int .i64 v)) HE.out.symm,hB5⟩
   have HO2:=Hd (fun w=>QaB ms 0 2000 w)
   rw [decide_eq_true h10] at HO2
   have H10:=Hd h10
   clear h10
   go_wp2_with fail
   refine (HO2.out _).mono ?_
   rintro e w9 ⟨rfl,rfl⟩
   go_wp2_with fail
   refine (HK2.out _ (HO.out.below hB5)).mono ?_
   rintro e w8 ⟨rfl,hb8⟩
   have hF8:=Qaa HF.out hb8
   have hK8:=Qaa HK.out hb8
   have hB8:=Qab hb8 hB5 hB5.size
   clear f0 f1 f2 f3 f4 f5 f6 f7 k0 k1 k2 k3 k5
   clear HF HK
   have HF:=Hd hF8;have HK:=Hd hK8
   clear hF8 hK8 hb8
   obtain ⟨⟨f0,f1,f2,f3,f4,f5,f6⟩,f7⟩:=Qai HF.out
   obtain ⟨⟨k0,k1,k2,k3⟩,-,k5⟩:=Qaw HK.out
   by_cases h11:un=⟨#[]⟩
   ·have HU:=Hd h11
    have hu:un.toList.isEmpty=true:=by rw [Qah,decide_eq_true h11]
    have HE:=Hd (show Qax m ks i=0 by unfold Qax;rw [HX.out];simp [HGD.out.1.1,HGD.out.1.2,HGD.out.2,HAB.out,H7.out,H9.out,HEN.out,H10.out,HU.out])
    clear h11
    go_wp2
    go_ret
    exact ⟨congrArg (fun v=>Ending.returned (Value.int .i64 v)) HE.out.symm,hB8⟩
   have hu:un.toList.isEmpty=false:=by rw [Qah,decide_eq_false h11]
   have HU:=Hd h11
   clear h11
   by_cases h12:0<=I2/\I2<(i:Int)
   ·have hab:=HUB.out.2 h12
    have HE:=Hd (show Qax m ks i=0 by unfold Qax;rw [HX.out];simp [HGD.out.1.1,HGD.out.1.2,HGD.out.2,HAB.out,H7.out,H9.out,HEN.out,H10.out,HU.out,hab])
    have i1:¬ I2<0:=by omega
    have i2:¬ (i:Int)<=I2:=by omega
    clear h12 hab
    go_wp2
    go_ret
    exact ⟨congrArg (fun v=>Ending.returned (Value.int .i64 v)) HE.out.symm,hB8⟩
   ·have hab:(List.take i ks).any (Qav un)=false:=by
     cases h:(List.take i ks).any (Qav un) with
     | false=>rfl
     | true=>exact absurd (HUB.out.1 h) h12
    have HE:=Hd (show Qax m ks i=5 by unfold Qax;rw [HX.out];simp [HGD.out.1.1,HGD.out.1.2,HGD.out.2,HAB.out,H7.out,H9.out,HEN.out,H10.out,HU.out,hab])
    by_cases h13:I2<0
    ·clear h12 hab
     go_wp2
     go_ret
     exact ⟨congrArg (fun v=>Ending.returned (Value.int .i64 v)) HE.out.symm,hB8⟩
    ·have i2:(i:Int)<=I2:=by omega
     clear h12 hab
     go_wp2
     go_ret
     exact ⟨congrArg (fun v=>Ending.returned (Value.int .i64 v)) HE.out.symm,hB8⟩
theorem iscount_c (f:Fmt) (A:Option Addr) (c:Nat) (FA:Nat->Option Addr) (FC:Nat->Nat) (nm:ByteArray) (pb:Bool) (w0:World) (ho:Kinds w0 A f.kinds FA FC) (hc:f.kinds.length<=c) (ht:0<=ixF (Qav f.tail) f.kinds) :
  Calls Tryz.prog 59 #[fmtG f A c,.string nm,.bool pb] w0 (RetB (!Qbs f.kinds f.tail nm pb) w0):=by
 have HKO:=Hd (fun t w (h:Kinds w A f.kinds FA FC)=>Qbg f A c FA FC t w h)
 have hn:=ho.1.2
 have HO:=Hd ho
 obtain ⟨m,q,ks,hd,tl,ct,sm⟩:=f
 unfold fmtG at HKO ⊢
 simp only at *
 rcases QaT (Qav tl) ks with ⟨h1,-⟩|⟨k,hk,h1,-,-⟩
 ·rw [h1] at ht;omega
 obtain ⟨hcols,hcc⟩:=ho.2.2 k hk
 have hkn:kndF ks tl=kA ks k:=by unfold kndF;rw [h1,if_neg (by omega),Int.toNat_natCast]
 obtain ⟨b,off,rfl,hbw,a0,a1,a2,a3⟩:=ho.cells hk
 obtain ⟨XA,hXA⟩:=ex_ (FA k)
 obtain ⟨XC,hXC⟩:=ex_ (FC k)
 obtain ⟨x,hx⟩:=ex_ (kA ks k)
 rw [hx] at a0 a1 a2 a3 hcols hcc hkn
 rw [hXA] at a1 hcols
 rw [hXC] at a1 hcc
 obtain ⟨tg,fs,ms,un⟩:=x
 simp only at a0 a1 a2 a3 hcols hcc
 have hnf:=hcols.1.2
 have HCO:=Hd hcols
 have HRC:=Hd (fun w (h:Cols w XA fs)=>QbQ ⟨tg,fs,ms,un⟩ XA XC nm w h)
 unfold QaO at HRC
 simp only at HRC
 obtain ⟨nf,hnff⟩:=ex_ (fs.length)
 have HNF:=Hd hnff
 rw [hnff] at a1 hcc hnf HRC
 obtain ⟨n,hnn⟩:=ex_ (ks.length)
 have HN:=Hd hnn
 rw [hnn] at HKO hn hk hc ⊢
 have HK1:=Hd (HKO.out tl)
 rw [h1] at HK1
 have HIX:=Hd (QaT (Qaj nm) fs)
 obtain ⟨X,hX⟩:=ex_ (ixF (Qaj nm) fs)
 rw [hX] at HRC HIX
 have HTF:=Hd (show Qbs ks tl nm pb=(decide (X<0)||(decide ((cA fs X.toNat).kind≠2)||!pb&&decide ((cA fs X.toNat).places≠0))) by
  unfold Qbs colN
  rw [hkn]
  simp only
  rw [hX])
 obtain ⟨R,hR⟩:=ex_ (Qbs ks tl nm pb)
 rw [hR] at HTF ⊢
 have hkc:(k:Int)<(n:Int):=by omega
 have hk0:(0:Int)<=(k:Int):=by omega
 have hF:=Qac w0 (.cells #[.int .u8 m,.int .u8 q,.slice (some ⟨b,off,none⟩) n c,.string hd,.string tl,.string ct,.string sm] 24) rfl
 have hbw1:b<(w0.alloc (.cells #[.int .u8 m,.int .u8 q,.slice (some ⟨b,off,none⟩) n c,.string hd,.string tl,.string ct,.string sm] 24)).heap.size:=by simp;omega
 have c0:=(World.cell?_alloc_some w0 _ (.cells #[.int .u8 m,.int .u8 q,.slice (some ⟨b,off,none⟩) n c,.string hd,.string tl,.string ct,.string sm] 24) (by rw [a0];rfl)).trans a0
 have c1:=(World.cell?_alloc_some w0 _ (.cells #[.int .u8 m,.int .u8 q,.slice (some ⟨b,off,none⟩) n c,.string hd,.string tl,.string ct,.string sm] 24) (by rw [a1];rfl)).trans a1
 have c2:=(World.cell?_alloc_some w0 _ (.cells #[.int .u8 m,.int .u8 q,.slice (some ⟨b,off,none⟩) n c,.string hd,.string tl,.string ct,.string sm] 24) (by rw [a2];rfl)).trans a2
 have c3:=(World.cell?_alloc_some w0 _ (.cells #[.int .u8 m,.int .u8 q,.slice (some ⟨b,off,none⟩) n c,.string hd,.string tl,.string ct,.string sm] 24) (by rw [a3];rfl)).trans a3
 have hB1:Below w0.heap.size w0 (w0.alloc (.cells #[.int .u8 m,.int .u8 q,.slice (some ⟨b,off,none⟩) n c,.string hd,.string tl,.string ct,.string sm] 24)):=by go_grown
 clear ho h1 hkn hx hXA hXC hcols hnff hnn hX hR ht a0 a1 a2 a3 hbw HKO hk
 go_enter Tryz.func59,Tryz.ntmps59
 go_wp2_with fail
 generalize w0.alloc (.cells #[.int .u8 m,.int .u8 q,.slice (some ⟨b,off,none⟩) n c,.string hd,.string tl,.string ct,.string sm] 24)=w1 at hF c0 c1 c2 c3 hB1 hbw1 ⊢
 obtain ⟨⟨f0,f1,f2,f3,f4,f5,f6⟩,f7⟩:=Qai hF
 have HF:=Hd hF
 have hSB:∀ wx,Below w1.heap.size w1 wx->(fun w':World=>w'.cell? ⟨w0.heap.size,0,none⟩=some (.int .u8 m)/\w'.cell? ⟨w0.heap.size,1,none⟩=some (.int .u8 q)/\w'.cell? ⟨w0.heap.size,2,none⟩=some (.slice (some ⟨b,off,none⟩) n c)/\w'.cell? ⟨w0.heap.size,3,none⟩=some (.string hd)/\w'.cell? ⟨w0.heap.size,4,none⟩=some (.string tl)/\w'.cell? ⟨w0.heap.size,5,none⟩=some (.string ct)/\w'.cell? ⟨w0.heap.size,6,none⟩=some (.string sm)/\w'.cell? ⟨b,off+k*4,none⟩=some (.string tg)/\w'.cell? ⟨b,off+k*4+1,none⟩=some (.slice XA nf XC)/\w'.cell? ⟨b,off+k*4+2,none⟩=some (.int .i64 ms)/\w'.cell? ⟨b,off+k*4+3,none⟩=some (.string un)) wx:=fun wx T=>⟨(T.cell (p:=⟨w0.heap.size,0,none⟩) f7).trans f0,(T.cell (p:=⟨w0.heap.size,1,none⟩) f7).trans f1,(T.cell (p:=⟨w0.heap.size,2,none⟩) f7).trans f2,(T.cell (p:=⟨w0.heap.size,3,none⟩) f7).trans f3,(T.cell (p:=⟨w0.heap.size,4,none⟩) f7).trans f4,(T.cell (p:=⟨w0.heap.size,5,none⟩) f7).trans f5,(T.cell (p:=⟨w0.heap.size,6,none⟩) f7).trans f6,(T.cell (p:=⟨b,off+k*4,none⟩) hbw1).trans c0,(T.cell (p:=⟨b,off+k*4+1,none⟩) hbw1).trans c1,(T.cell (p:=⟨b,off+k*4+2,none⟩) hbw1).trans c2,(T.cell (p:=⟨b,off+k*4+3,none⟩) hbw1).trans c3⟩
 have HSB:=Hd hSB
 have T1:Below w1.heap.size w1 w1:=Below.refl _ _
 have HB1:=Hd hB1
 clear hSB f0 f1 f2 f3 f4 f5 f6 c0 c1 c2 c3 HF hF hB1
 go_cut [7] (fun v wx=>∃ g,v=.pointer (some ⟨g,0,none⟩)/\Hid (wx.heap[g]?=some (.cells #[.string tg,.slice XA nf XC,.int .i64 ms,.string un] 52 (0,0)))/\Below w1.heap.size w1 wx)
 case first=>
  go_region_held3 (fun w'=>w'.cell? ⟨w0.heap.size,0,none⟩=some (.int .u8 m)/\w'.cell? ⟨w0.heap.size,1,none⟩=some (.int .u8 q)/\w'.cell? ⟨w0.heap.size,2,none⟩=some (.slice (some ⟨b,off,none⟩) n c)/\w'.cell? ⟨w0.heap.size,3,none⟩=some (.string hd)/\w'.cell? ⟨w0.heap.size,4,none⟩=some (.string tl)/\w'.cell? ⟨w0.heap.size,5,none⟩=some (.string ct)/\w'.cell? ⟨w0.heap.size,6,none⟩=some (.string sm)/\w'.cell? ⟨b,off+k*4,none⟩=some (.string tg)/\w'.cell? ⟨b,off+k*4+1,none⟩=some (.slice XA nf XC)/\w'.cell? ⟨b,off+k*4+2,none⟩=some (.int .i64 ms)/\w'.cell? ⟨b,off+k*4+3,none⟩=some (.string un))
   (first | (with_reducible exact HSB.out _ T2) | (refine HSB.out _ ?_;go_grown))
   (first | (go_at_call 27;refine (HK1.out _ (HO.out.below (by first | exact HB1.out.drew | exact (HB1.out.alloc HB1.out.size (.cells #[.string ⟨#[]⟩,.slice none 0 0,.int .i64 0,.string ⟨#[]⟩] 52)).drew))).mono ?_;rintro e w2 ⟨rfl,hb2⟩;(have T2:Below w1.heap.size w1 w2:=by first | exact ⟨hb2.os,hb2.tape,hb2.output,hb2.size,hb2.block⟩ | exact (((Below.refl w1.heap.size w1).alloc (Nat.le_refl _) (.cells #[.string ⟨#[]⟩,.slice none 0 0,.int .i64 0,.string ⟨#[]⟩] 52)).drew).trans (hb2.mono (by show _<=(w1.alloc (.cells #[.string ⟨#[]⟩,.slice none 0 0,.int .i64 0,.string ⟨#[]⟩] 52)).heap.size;simp)));(have z2:=T2.size);(first | (have G2:w2.heap[w1.heap.size]?=some (.cells #[.string ⟨#[]⟩,.slice none 0 0,.int .i64 0,.string ⟨#[]⟩] 52 (0,0)):=(by exact Qaa (w:=(w1.alloc (.cells #[.string ⟨#[]⟩,.slice none 0 0,.int .i64 0,.string ⟨#[]⟩] 52)).drew) (Qac w1 _ rfl) hb2);have hf:=Qaw G2;obtain ⟨⟨q0,q1,q2,q3⟩,⟨p0,p1,p2,p3⟩,q4⟩:=hf) | skip)))
  all_goals
   go_wp2_with fail
   go_meet
   first
    | (with_reducible exact ⟨w2.heap.size,rfl,Hd (Qac _ _ rfl),T2.alloc z2 _⟩)
    | exact ⟨w1.heap.size,rfl,Hd (by have:=Qae (Qae (Qae (Qae G2 0 (.string tg)) 1 (.slice XA nf XC)) 2 (.int .i64 ms)) 3 (.string un);simpa using this),(((T2.setCell (p:=⟨w1.heap.size,0,none⟩) (Nat.le_refl _) _).setCell (p:=⟨w1.heap.size,1,none⟩) (Nat.le_refl _) _).setCell (p:=⟨w1.heap.size,2,none⟩) (Nat.le_refl _) _).setCell (p:=⟨w1.heap.size,3,none⟩) (Nat.le_refl _) _⟩
 case rest=>
 obtain ⟨g,rfl,HG,hb3⟩:=hcut
 have hB3:=HB1.out.trans (hb3.mono HB1.out.size)
 generalize wc=w3 at HG hb3 hB3 ⊢
 clear hb3 T1
 obtain ⟨⟨k0,k1,k2,k3⟩,-,k5⟩:=Qaw HG.out
 go_wp2_with fail
 refine (HRC.out _ (HCO.out.below hB3)).mono ?_
 rintro e w4 ⟨rfl,hb4⟩
 have hB4:=Qab hb4 hB3 hB3.size
 have HG4:=Hd (Qaa HG.out hb4)
 clear k0 k1 k2 k3 k5 HG
 obtain ⟨⟨k0,k1,k2,k3⟩,-,k5⟩:=Qaw HG4.out
 rcases HIX.out with ⟨h2,-⟩|⟨x,hx,h2,-,-⟩
 ·subst h2
  have HE:=Hd (show R=true by rw [HTF.out];rfl)
  go_wp2
  go_ret
  exact ⟨by rw [HE.out];rfl,hB4⟩
 subst h2
 have hx0:(0:Int)<=(x:Int):=by omega
 rw [HNF.out] at hx
 obtain ⟨bc,oc,rfl,hbc,x0,x1,x2,x3,x4,x5,x6,x7⟩:=(HCO.out.below hB4).cells (j:=x) (by rw [HNF.out];exact hx)
 rw [Int.toNat_natCast] at HTF
 obtain ⟨C,hC⟩:=ex_ (cA fs x)
 rw [hC] at x1 x3 HTF
 have hneg:decide ((x:Int)<0)=false:=decide_eq_false (by omega)
 rw [hneg,Bool.false_or] at HTF
 clear x0 x2 x4 x5 x6 x7 hC hneg
 by_cases h3:C.kind=2
 case neg=>
  have HE:=Hd (show R=true by rw [HTF.out,decide_eq_true h3];rfl)
  have g3:(C.kind==2)=false:=by simpa using h3
  clear h3
  go_wp2
  go_ret
  exact ⟨by rw [HE.out];rfl,hB4⟩
 have g3:(C.kind==2)=true:=by simpa using h3
 have hnk:decide (C.kind≠2)=false:=decide_eq_false (fun h=>h h3)
 rw [hnk,Bool.false_or] at HTF
 clear h3 hnk
 cases pb with
 | true=>
  have HE:=Hd (show R=false by rw [HTF.out];rfl)
  go_wp2
  go_ret
  exact ⟨by rw [HE.out];rfl,hB4⟩
 | false=>
  by_cases h4:C.places=0
  ·have HE:=Hd (show R=false by rw [HTF.out,decide_eq_false (fun h=>h h4)];rfl)
   have g4:(C.places==0)=true:=by simpa using h4
   clear h4
   go_wp2
   go_ret
   exact ⟨by rw [HE.out];rfl,hB4⟩
  ·have HE:=Hd (show R=true by rw [HTF.out,decide_eq_true h4];rfl)
   have g4:(C.places==0)=false:=by simpa using h4
   clear h4
   go_wp2
   go_ret
   exact ⟨by rw [HE.out];rfl,hB4⟩
end Go.Proofs.YtaiabjiehpcaoaaGreatDoor
