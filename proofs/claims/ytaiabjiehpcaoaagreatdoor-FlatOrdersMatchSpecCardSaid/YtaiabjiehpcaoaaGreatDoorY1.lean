/- The walks of the reference's checkRow and CheckRow. -/
import Derived.Test.YtaiabjiehpcaoaaGreatDoorJ1
import Derived.Test.YtaiabjiehpcaoaaGreatDoorG5
import Derived.Lib.SplitLaws
import Derived.Test.YtaiabjiehpcaoaaGreatDoorU1
-- merged: V6 V7 VB VL Y0 Y1
set_option maxHeartbeats 8000000
set_option maxRecDepth 100000
namespace Go.Proofs.YtaiabjiehpcaoaaGreatDoor
open Go.RowKit Limb Nmb Work
set_option linter.unusedVariables false
set_option linter.unusedSimpArgs false
theorem pos_size {s:ByteArray} (h:s≠⟨#[]⟩):0<s.size:=by
 rcases Nat.eq_zero_or_pos s.size with h1 | h1
 ·exact absurd (ByteArray.ext (Array.eq_empty_of_size_eq_zero h1)) h
 ·exact h1
theorem rcheckrow_c (f:Fmt) (A:Option Addr) (cp:Nat) (FA:Nat->Option Addr) (FC:Nat->Nat) (r:RowP) (RA:Option Addr) (RC:Nat) (w:World) (ho:Kinds w A f.kinds FA FC) (hr:RowM w r RA RC) (hcp:f.kinds.length<=cp) (hf:Qao f=0) (hm:0<=f.mark/\f.mark<=255) (ht:Tab w) :
  Calls Tryz.prog 50 #[fmtG f A cp,rowG r RA RC] w (Qbk (rowF f r).1 (rowF f r).2 w):=by
 have HKA:=Hd (fun w h=>Qbg f A cp FA FC r.tag w h)
 have HFK:=Hd (checkF_ok hf)
 have HVO:=Hd (fun c s w (h0:s≠⟨#[]⟩) hs=>isof_c c s w (pos_size h0) hs)
 have HWR:=Hd (fun c s w hs hv hk ht=>rwritten_c f A f.kinds.length cp c s w hs hv hk ht)
 have HIX:=Hd (fun s w=>ixbyte_c s f.mark w hm)
 have HCS:=Hd (QaX f FA FC r.tag)
 have HKI:=Hd ho;have HRM:=Hd hr;have HTB:=Hd ht
 obtain ⟨R,hR⟩:=ex_ (rowF f r)
 have HR:=Hd hR
 rw [hR]
 have hnk:=ho.1.2
 clear ho hr ht hf hR
 obtain ⟨m,q,ks,hd,tl,ct,sm⟩:=f
 obtain ⟨tg,vs⟩:=r
 unfold fmtG at HKA ⊢
 unfold rowG
 simp only at HKA HWR HIX HCS HKI hm hcp hnk ⊢
 obtain ⟨n,hn⟩:=ex_ (ks.length)
 have HN:=Hd hn
 obtain ⟨nv,hnv⟩:=ex_ (vs.length)
 have HNV:=Hd hnv
 have hnvb:nv<=RC:=by rw [<- hnv];exact HRM.out.len.1
 have hrcb:=HRM.out.len.2
 rw [hn] at HKA HWR hcp hnk ⊢
 rw [hnv]
 clear hn hnv
 have hF0:=Qad (Qac w (.cells #[.int .u8 m,.int .u8 q,.slice A n cp,.string hd,.string tl,.string ct,.string sm] 24) rfl) (.cells #[.string tg,.slice RA nv RC] 49)
 have hR0:=Qac (w.alloc (.cells #[.int .u8 m,.int .u8 q,.slice A n cp,.string hd,.string tl,.string ct,.string sm] 24)) (.cells #[.string tg,.slice RA nv RC] 49) (g:=w.heap.size+1) (by simp)
 have hB0:Below w.heap.size w ((w.alloc (.cells #[.int .u8 m,.int .u8 q,.slice A n cp,.string hd,.string tl,.string ct,.string sm] 24)).alloc (.cells #[.string tg,.slice RA nv RC] 49)):=by go_grown
 go_enter Tryz.func50,Tryz.ntmps50
 obtain ⟨⟨f0,f1,f2,f3,f4,f5,f6⟩,f7⟩:=Qai hF0
 obtain ⟨r0,r1,-,-,r2⟩:=box2 hR0
 have HKW:=Hd (HKI.out.below hB0)
 go_wp2_with fail
 refine (HKA.out _ HKW.out).mono ?_
 rintro e w2 ⟨rfl,hb2⟩
 have hF2:=Qaa hF0 hb2
 have hR2:=Qaa hR0 hb2
 have hB2:=Qab hb2 hB0 hB0.size
 have hz2:=hB2.size
 clear hF0 hR0 hb2 f0 f1 f2 f3 f4 f5 f6 f7 r0 r1 r2 HKW hB0
 obtain ⟨⟨f0,f1,f2,f3,f4,f5,f6⟩,f7⟩:=Qai hF2
 obtain ⟨r0,r1,-,-,r2⟩:=box2 hR2
 rcases HCS.out with ⟨h1,-,-,-⟩|⟨k,hk,h1,h2,-,-⟩
 ·have HE:=Hd (show R=(0,9) by rw [<- HR.out];unfold rowF;rw [if_pos (by rw [h1];decide)])
  have h1':ixF (Qav tg) ks=-1:=h1
  rw [h1']
  clear h1 h1'
  go_wp2
  go_ret2
  exact ⟨by rw [HE.out];rfl,hB2⟩
 ·have hi0:¬ katI ⟨m,q,ks,hd,tl,ct,sm⟩ tg<0:=by rw [h1];omega
  have HRR:=Hd (show R=if vs.length≠(kA ks k).fields.length then (0,3) else frF (fun j=>valF m q (cA (kA ks k).fields j) (wd vs j)) (kA ks k).fields.length by rw [<- HR.out];unfold rowF;rw [if_neg hi0,h2])
  have h1':ixF (Qav tg) ks=(k:Int):=h1
  rw [h1']
  clear h1'
  have hkn:k<n:=by rw [<- HN.out];exact hk
  have HKK:=Hd (HFK.out.kinds k hk)
  have HCO:=Hd ((HKI.out).2.2 k hk)
  simp only at HKK
  obtain ⟨kb,ko,hA,hkb,kc⟩:=(HKI.out).2.1.get hk
  subst hA
  have kc1:w.cell? ⟨kb,ko+k*4+1,none⟩=some (.slice (FA k) (kA ks k).fields.length (FC k)):=kc 1 (by decide)
  have hk2:=(hB2.cell (p:=⟨kb,ko+k*4+1,none⟩) hkb).trans kc1
  obtain ⟨K,hK⟩:=ex_ (kA ks k)
  have HKc:=Hd (fun j (hj:j<K.fields.length)=>(show ColK m (cA K.fields j) by rw [<- hK] at hj ⊢;exact HKK.out.cols j hj))
  rw [hK] at HRR HCO hk2
  clear h1 h2 hi0 hK kc kc1
  obtain ⟨kt,fs,km,ku⟩:=K
  simp only at HRR HCO HKc hk2 ⊢
  obtain ⟨nf,hnf⟩:=ex_ (fs.length)
  obtain ⟨KA,hKA⟩:=ex_ (FA k)
  obtain ⟨KC,hKC⟩:=ex_ (FC k)
  have HNF:=Hd hnf
  rw [hnf,hKA,hKC] at HCO hk2
  rw [hnf] at HRR HKc
  have hnfb:nf<=9223372036854775807:=by rw [<- hnf];exact HCO.out.1.1.2
  have hnfc:nf<=KC:=HCO.out.2
  clear hnf hKA hKC HKK
  by_cases hlen:nv=nf
  case neg=>
   have HE:=Hd (show R=(0,3) by rw [HRR.out,HNV.out,if_pos hlen])
   have hne:((nv:Int) !=(nf:Int))=true:=by
    have:¬ (nv:Int)=(nf:Int):=by omega
    simpa using this
   clear hlen
   go_wp2
   go_quiet (fail)
   go_wp2
   go_ret2
   exact ⟨by rw [HE.out];rfl,below_drewN hB2 _⟩
  subst hlen
  have HRF:=Hd (show R=frF (fun j=>valF m q (cA fs j) (wd vs j)) nv by rw [HRR.out,HNV.out,if_neg (fun h=>h rfl)])
  have HF2:=Hd hF2;have HR2:=Hd hR2
  clear hF2 hR2 HRR
  go_wp2
  go_quiet (fail)
  go_wp2_with fail
  have HB2:=Hd hB2
  go_loopw [30] (fun i wr=>∃ j:Nat,j<=nv/\i=.int .i64 j/\Below w2.heap.size w2 wr/\Hid (∀ t,t<j->valF m q (cA fs t) (wd vs t)=0)) (fun i _=>nv-(intOf i).toNat)
  case atStart=>exact ⟨0,Nat.zero_le _,rfl,below_drewN (Below.refl _ _) _,Hd (fun t h=>absurd h (Nat.not_lt_zero _))⟩
  case round=>
   have hkb2:kb<w2.heap.size:=Nat.lt_of_lt_of_le hkb hz2
   have HK2:=Hd hk2
   clear f0 f1 f2 f3 f4 f5 f6 f7 r0 r1 r2 hB2 hk2
   obtain ⟨j,hj,rfl,hb,HJ⟩:=hrel
   have hF:=Qaa HF2.out hb
   have hR:=Qaa HR2.out hb
   have hkc:=(hb.cell (p:=⟨kb,ko+k*4+1,none⟩) hkb2).trans HK2.out
   obtain ⟨⟨f0,f1,f2,f3,f4,f5,f6⟩,f7⟩:=Qai hF
   obtain ⟨r0,r1,-,-,r2⟩:=box2 hR
   have HBw:=Hd (Qab hb HB2.out HB2.out.size)
   have hzr:=hb.size
   rcases Nat.lt_or_ge j nv with hlt | hge
   ·obtain ⟨b,off,rfl,hbw,c0,c1,c2,c3,c4,c5,c6,c7⟩:=(HCO.out.1.below HBw.out).cells (j:=j) (by rw [HNF.out];exact hlt)
    obtain ⟨b2,off2,rfl,hbw2,hcs⟩:=(HRM.out.vals.below HBw.out).cells (by rw [HNV.out];omega)
    have s0:=hcs j (by rw [HNV.out];exact hlt)
    have hsz:=wd_size HRM.out.size j
    have HCJ:=Hd (HKc.out j hlt)
    simp only at s0 hsz
    obtain ⟨s,hs⟩:=ex_ (wd vs j)
    obtain ⟨co,hco⟩:=ex_ (cA fs j)
    have HX:=Hd (show valF m q (cA fs j) (wd vs j)=valF m q co s by rw [hs,hco])
    rw [hco] at HCJ
    rw [hs] at s0 hsz
    rw [hco] at c0 c1 c2 c3 c4 c5 c6 c7
    clear hs hco hcs
    have HO2:=Hd (fun w h0=>HVO.out co s w h0 hsz)
    have HW2:=Hd (fun w hv ht=>HWR.out co s w hsz hv HCJ.out ht)
    obtain ⟨nm,kd,wi,pl,fm,rt,fl,nd⟩:=co
    unfold colG at HO2 HW2
    simp only at HO2 HW2 c0 c1 c2 c3 c4 c5 c6 c7
    have hF4:=Qad hF (.cells #[.string nm,.int .i64 kd,.int .i64 wi,.int .i64 pl,.int .i64 fm,.bool rt,.int .u8 fl,.bool nd] 60)
    have hC4:=Qac wr (.cells #[.string nm,.int .i64 kd,.int .i64 wi,.int .i64 pl,.int .i64 fm,.bool rt,.int .u8 fl,.bool nd] 60) rfl
    have hb4:Below wr.heap.size wr (wr.alloc (.cells #[.string nm,.int .i64 kd,.int .i64 wi,.int .i64 pl,.int .i64 fm,.bool rt,.int .u8 fl,.bool nd] 60)):=by go_grown
    go_upto_region 10 with fail
    obtain ⟨c0n,hc0n⟩:=ex_ (wr.heap.size)
    rw [hc0n] at hC4 ⊢
    generalize wr.alloc (.cells #[.string nm,.int .i64 kd,.int .i64 wi,.int .i64 pl,.int .i64 fm,.bool rt,.int .u8 fl,.bool nd] 60)=w4 at hF4 hC4 hb4 ⊢
    have hb24:=Qab hb4 hb hzr
    have HT4:=Hd ((HTB.out.below HBw.out).below hb4)
    clear f0 f1 f2 f3 f4 f5 f6 f7 r0 r1 r2 c0 c1 c2 c3 c4 c5 c6 c7 s0 hF hR hkc hbw hbw2 hb4
    obtain ⟨⟨f0,f1,f2,f3,f4,f5,f6⟩,f7⟩:=Qai hF4
    obtain ⟨⟨x0,x1,x2,x3,x4,x5,x6,x7⟩,x8⟩:=QaC hC4
    have hz4:=hb24.size
    have g1:=Qah s
    by_cases h0:s=⟨#[]⟩
    ·rw [decide_eq_true h0] at g1
     cases nd with
     | true=>
      have HE:=Hd (show valF m q ⟨nm,kd,wi,pl,fm,rt,fl,true⟩ s=13 by unfold valF;rw [if_pos h0,if_pos rfl])
      clear h0
      have HER:=Hd (show R=((j:Int),13) by rw [HRF.out,Qb2 (j:=j) HJ.out (by show valF m q _ _≠0;rw [HX.out,HE.out];decide) hlt];exact congrArg _ (HX.out.trans HE.out))
      have hbn:=Qab (hb24) HB2.out HB2.out.size
      go_wp2
      go_ret2
      exact ⟨by rw [HER.out];rfl,hbn⟩
     | false=>
      have HE:=Hd (show valF m q ⟨nm,kd,wi,pl,fm,rt,fl,false⟩ s=0 by unfold valF;rw [if_pos h0,if_neg (by simp)])
      clear h0
      have HJ2:=Hd (show ∀ t,t<j+1->valF m q (cA fs t) (wd vs t)=0 from fun t ht=>by
       rcases Nat.lt_or_ge t j with h | h
       ·exact HJ.out t h
       ·obtain rfl:t=j:=by omega
        exact HX.out.trans HE.out)
      have hbn:=hb24
      go_wp2
      go_roundw
      case rel=>exact ⟨j+1,by omega,by go_num,hbn,HJ2⟩
      case measure=>simp [intOf];omega
    rw [decide_eq_false h0] at g1
    have HN0:=Hd h0
    have HO3:=Hd (fun w=>HO2.out w h0)
    obtain ⟨V,hV⟩:=ex_ (valOk ⟨nm,kd,wi,pl,fm,rt,fl,nd⟩ s.data.toList)
    have HVV:=Hd hV
    rw [hV] at HO3 HW2
    obtain ⟨W,hW⟩:=ex_ (wrS m ⟨nm,kd,wi,pl,fm,rt,fl,nd⟩ s)
    have HWW:=Hd hW
    rw [hW] at HW2
    clear h0 hV hW HO2
    have HF4:=Hd hF4;have HC4:=Hd hC4
    go_wp2_with fail
    refine (HO3.out _).mono ?_
    rintro e w5 ⟨rfl,hb5⟩
    have hb25:=Qab hb5 hb24 hz4
    clear f0 f1 f2 f3 f4 f5 f6 f7 x0 x1 x2 x3 x4 x5 x6 x7 x8 hF4 hC4
    cases V with
    | false=>
     have HE:=Hd (show valF m q ⟨nm,kd,wi,pl,fm,rt,fl,nd⟩ s=6 by unfold valF;rw [if_neg HN0.out,if_pos HVV.out])
     have HER:=Hd (show R=((j:Int),6) by rw [HRF.out,Qb2 (j:=j) HJ.out (by show valF m q _ _≠0;rw [HX.out,HE.out];decide) hlt];exact congrArg _ (HX.out.trans HE.out))
     have hbn:=Qab (hb25) HB2.out HB2.out.size
     go_wp2
     go_ret2
     exact ⟨by rw [HER.out];rfl,hbn⟩
    | true=>
    have HF5:=Hd (Qaa HF4.out hb5);have HC5:=Hd (Qaa HC4.out hb5)
    have HT5:=Hd (HT4.out.below hb5)
    have HSB:=Hd (show ∀ wx,Below w5.heap.size w5 wx->(fun w':World=>w'.cell? ⟨w.heap.size,0,none⟩=some (.int .u8 m)/\w'.cell? ⟨w.heap.size,1,none⟩=some (.int .u8 q)/\w'.cell? ⟨w.heap.size,2,none⟩=some (.slice (some ⟨kb,ko,none⟩) n cp)/\w'.cell? ⟨w.heap.size,3,none⟩=some (.string hd)/\w'.cell? ⟨w.heap.size,4,none⟩=some (.string tl)/\w'.cell? ⟨w.heap.size,5,none⟩=some (.string ct)/\w'.cell? ⟨w.heap.size,6,none⟩=some (.string sm)/\w'.cell? ⟨c0n,0,none⟩=some (.string nm)/\w'.cell? ⟨c0n,1,none⟩=some (.int .i64 kd)/\w'.cell? ⟨c0n,2,none⟩=some (.int .i64 wi)/\w'.cell? ⟨c0n,3,none⟩=some (.int .i64 pl)/\w'.cell? ⟨c0n,4,none⟩=some (.int .i64 fm)/\w'.cell? ⟨c0n,5,none⟩=some (.bool rt)/\w'.cell? ⟨c0n,6,none⟩=some (.int .u8 fl)/\w'.cell? ⟨c0n,7,none⟩=some (.bool nd)) wx from fun wx h=>by
     obtain ⟨⟨f0,f1,f2,f3,f4,f5,f6⟩,f7⟩:=Qai (Qaa HF5.out h)
     obtain ⟨⟨x0,x1,x2,x3,x4,x5,x6,x7⟩,x8⟩:=QaC (Qaa HC5.out h)
     exact ⟨f0,f1,f2,f3,f4,f5,f6,x0,x1,x2,x3,x4,x5,x6,x7⟩)
    have T1:Below w5.heap.size w5 w5:=Below.refl _ _
    clear hb5
    go_wp2_with fail
    go_region_held3 (fun w':World=>w'.cell? ⟨w.heap.size,0,none⟩=some (.int .u8 m)/\w'.cell? ⟨w.heap.size,1,none⟩=some (.int .u8 q)/\w'.cell? ⟨w.heap.size,2,none⟩=some (.slice (some ⟨kb,ko,none⟩) n cp)/\w'.cell? ⟨w.heap.size,3,none⟩=some (.string hd)/\w'.cell? ⟨w.heap.size,4,none⟩=some (.string tl)/\w'.cell? ⟨w.heap.size,5,none⟩=some (.string ct)/\w'.cell? ⟨w.heap.size,6,none⟩=some (.string sm)/\w'.cell? ⟨c0n,0,none⟩=some (.string nm)/\w'.cell? ⟨c0n,1,none⟩=some (.int .i64 kd)/\w'.cell? ⟨c0n,2,none⟩=some (.int .i64 wi)/\w'.cell? ⟨c0n,3,none⟩=some (.int .i64 pl)/\w'.cell? ⟨c0n,4,none⟩=some (.int .i64 fm)/\w'.cell? ⟨c0n,5,none⟩=some (.bool rt)/\w'.cell? ⟨c0n,6,none⟩=some (.int .u8 fl)/\w'.cell? ⟨c0n,7,none⟩=some (.bool nd))
     (first | (with_reducible exact HSB.out _ T2) | (refine HSB.out _ ?_;go_grown))
     (first | (go_at_call 89;refine (HW2.out _ (fun _=>trivial) (by exact HT5.out)).mono ?_;rintro e w6 ⟨rfl,hb6'⟩;(have T2:Below w5.heap.size w5 w6:=by exact ⟨hb6'.os,hb6'.tape,hb6'.output,hb6'.size,hb6'.block⟩)))
    have hb26:=Qab T2 hb25 hb25.size
    obtain ⟨f0,f1,f2,f3,f4,f5,f6,x0,x1,x2,x3,x4,x5,x6,x7⟩:=HSB.out _ T2
    clear T1 T2
    by_cases hl:wi<(W.size:Int)
    ·have HE:=Hd (show valF m q ⟨nm,kd,wi,pl,fm,rt,fl,nd⟩ s=16 by unfold valF;rw [if_neg HN0.out,if_neg (by rw [HVV.out];decide),HWW.out,if_pos hl])
     have HER:=Hd (show R=((j:Int),16) by rw [HRF.out,Qb2 (j:=j) HJ.out (by show valF m q _ _≠0;rw [HX.out,HE.out];decide) hlt];exact congrArg _ (HX.out.trans HE.out))
     have hbn:=Qab (hb26) HB2.out HB2.out.size
     go_wp2
     go_ret2
     exact ⟨by rw [HER.out];rfl,hbn⟩
    have HG:=Hd (show valF m q ⟨nm,kd,wi,pl,fm,rt,fl,nd⟩ s=if m≠0/\q=0/\0<=Lib.indexByte s.data.toList (UInt8.ofNat m.toNat) then 12 else 0 by unfold valF;rw [if_neg HN0.out,if_neg (by rw [HVV.out];decide),HWW.out,if_neg hl])
    by_cases h1:m=0
    ·have HE:=Hd (show valF m q ⟨nm,kd,wi,pl,fm,rt,fl,nd⟩ s=0 by rw [HG.out,if_neg (fun h=>h.1 h1)])
     have k1:(m !=0)=false:=by simpa using h1
     clear h1
     have HJ2:=Hd (show ∀ t,t<j+1->valF m q (cA fs t) (wd vs t)=0 from fun t ht=>by
      rcases Nat.lt_or_ge t j with h | h
      ·exact HJ.out t h
      ·obtain rfl:t=j:=by omega
       exact HX.out.trans HE.out)
     have hbn:=hb26
     go_wp2
     go_roundw
     case rel=>exact ⟨j+1,by omega,by go_num,hbn,HJ2⟩
     case measure=>simp [intOf];omega
    have k1:(m !=0)=true:=by simpa using h1
    by_cases h2:q=0
    case neg=>
     have HE:=Hd (show valF m q ⟨nm,kd,wi,pl,fm,rt,fl,nd⟩ s=0 by rw [HG.out,if_neg (fun h=>h2 h.2.1)])
     have k2:(q==0)=false:=beq_eq_false_iff_ne.2 h2
     clear h1 h2
     have HJ2:=Hd (show ∀ t,t<j+1->valF m q (cA fs t) (wd vs t)=0 from fun t ht=>by
      rcases Nat.lt_or_ge t j with h | h
      ·exact HJ.out t h
      ·obtain rfl:t=j:=by omega
       exact HX.out.trans HE.out)
     have hbn:=hb26
     go_wp2
     go_roundw
     case rel=>exact ⟨j+1,by omega,by go_num,hbn,HJ2⟩
     case measure=>simp [intOf];omega
    have k2:(q==0)=true:=by simpa using h2
    have HI:=Hd (fun w=>HIX.out s w)
    by_cases h3:0<=Lib.indexByte s.data.toList (UInt8.ofNat m.toNat)
    ·have HE:=Hd (show valF m q ⟨nm,kd,wi,pl,fm,rt,fl,nd⟩ s=12 by rw [HG.out,if_pos ⟨h1,h2,h3⟩])
     generalize Lib.indexByte s.data.toList (UInt8.ofNat m.toNat)=I at HI h3
     clear h1 h2
     go_wp2_with fail
     refine (HI.out _).mono ?_
     rintro e w7 ⟨rfl,rfl⟩
     have HER:=Hd (show R=((j:Int),12) by rw [HRF.out,Qb2 (j:=j) HJ.out (by show valF m q _ _≠0;rw [HX.out,HE.out];decide) hlt];exact congrArg _ (HX.out.trans HE.out))
     have hbn:=Qab (hb26) HB2.out HB2.out.size
     go_wp2
     go_ret2
     exact ⟨by rw [HER.out];rfl,hbn⟩
    ·have HE:=Hd (show valF m q ⟨nm,kd,wi,pl,fm,rt,fl,nd⟩ s=0 by rw [HG.out,if_neg (fun h=>h3 h.2.2)])
     generalize Lib.indexByte s.data.toList (UInt8.ofNat m.toNat)=I at HI h3
     clear h1 h2
     go_wp2_with fail
     refine (HI.out _).mono ?_
     rintro e w7 ⟨rfl,rfl⟩
     have HJ2:=Hd (show ∀ t,t<j+1->valF m q (cA fs t) (wd vs t)=0 from fun t ht=>by
      rcases Nat.lt_or_ge t j with h | h
      ·exact HJ.out t h
      ·obtain rfl:t=j:=by omega
       exact HX.out.trans HE.out)
     have hbn:=hb26
     go_wp2
     go_roundw
     case rel=>exact ⟨j+1,by omega,by go_num,hbn,HJ2⟩
     case measure=>simp [intOf];omega
   ·obtain rfl:j=nv:=by omega
    have HE:=Hd (show R=(0,0) by rw [HRF.out];exact frF_no HJ.out)
    have hbn:=HBw.out
    go_wp2
    go_ret2
    exact ⟨by rw [HE.out];rfl,hbn⟩
theorem frF_zero {g:Nat->Int} : ∀ {n:Nat},(frF g n).2=0->∀ j,j<n->g j=0
 | 0,_,j,hj=>absurd hj (Nat.not_lt_zero _)
 | n+1,h,j,hj=>by
  unfold frF at h
  split at h
  ·rename_i h2
   split at h
   ·rename_i h3
    rcases Nat.lt_or_ge j n with h4 | h4
    ·exact frF_zero h2 j h4
    ·obtain rfl:j=n:=by omega
     exact h3
   ·rename_i h3;exact absurd h h3
  ·rename_i h2;exact absurd h h2
structure RowK (f:Fmt) (r:RowP):Prop where
 kind:0<=katI f r.tag
 many:r.vals.length=(katK f r.tag).fields.length
 vals:∀ j,j<(katK f r.tag).fields.length->valF f.mark f.quote (cA (katK f r.tag).fields j) (wd r.vals j)=0
theorem QbY {f:Fmt} {r:RowP} (h:(rowF f r).2=0):RowK f r:=by
 unfold rowF at h
 split at h
 ·cases h
 rename_i h1
 split at h
 ·cases h
 rename_i h2
 exact ⟨by omega,Classical.byContradiction h2,frF_zero h⟩
theorem bs_size2 (l:List UInt8):(bs l).size=l.length:=by show l.toArray.size=_;simp
theorem keep_heap {B:Nat} {w w':World} {g:Nat} {o:Obj} (h:w.heap[g]?=some o) (hb:Below B w w') (hg:g<B):w'.heap[g]?=some o:=(hb.block g hg).trans h
def row0:RowP:=⟨⟨#[]⟩,[]⟩
def rA (rs:List RowP) (j:Nat):RowP:=rs.getD j row0
theorem rA_get {rs:List RowP} {j:Nat} (h:j<rs.length):rs[j]=rA rs j:=by simp [rA,List.getD_eq_getElem?_getD,h]
noncomputable def QbX (f:Fmt) (rs:List RowP):Int×Int:=frF (fun j=>(rowF f (rA rs j)).2) rs.length
def rowV (rs:List RowP) (RA:Nat->Option Addr) (RC:Nat->Nat) (j i:Nat):Value :=
 match i with
 | 0=>.string (rA rs j).tag
 | _=>.slice (RA j) (rA rs j).vals.length (RC j)
structure RowsM (w:World) (L:Option Addr) (rs:List RowP) (RA:Nat->Option Addr) (RC:Nat->Nat):Prop where
 rows:Rws w L 2 rs.length (rowV rs RA RC)
 each:∀ j,j<rs.length->RowM w (rA rs j) (RA j) (RC j)
 len:rs.length<=9223372036854775807
theorem RowsM.below {w w':World} {L:Option Addr} {rs:List RowP} {RA:Nat->Option Addr} {RC:Nat->Nat} (h:RowsM w L rs RA RC) (hb:Below w.heap.size w w'):RowsM w' L rs RA RC :=
 ⟨h.rows.below hb,fun j hj=>(h.each j hj).below hb,h.len⟩
theorem RowsM.cells {w:World} {L:Option Addr} {rs:List RowP} {RA:Nat->Option Addr} {RC:Nat->Nat} (h:RowsM w L rs RA RC) {j:Nat} (hj:j<rs.length) :
  ∃ b off,L=some ⟨b,off,none⟩/\b<w.heap.size/\w.cell? ⟨b,off+j*2,none⟩=some (.string (rA rs j).tag)/\w.cell? ⟨b,off+j*2+1,none⟩=some (.slice (RA j) (rA rs j).vals.length (RC j)):=by
 obtain ⟨b,off,e,hb,hc⟩:=h.rows.get hj
 exact ⟨b,off,e,hb,hc 0 (by decide),hc 1 (by decide)⟩
theorem chkrows_c (f:Fmt) (A:Option Addr) (cp:Nat) (FA:Nat->Option Addr) (FC:Nat->Nat) (L:Option Addr) (LC:Nat) (rs:List RowP) (RA:Nat->Option Addr) (RC:Nat->Nat) (w:World) (ho:Kinds w A f.kinds FA FC) (hl:RowsM w L rs RA RC) (hcp:f.kinds.length<=cp) (hf:Qao f=0) (hm:0<=f.mark/\f.mark<=255) (ht:Tab w) :
  Calls Tryz.prog 23 #[fmtG f A cp,.slice L rs.length LC] w (Qbk (QbX f rs).1 (QbX f rs).2 w):=by
 have HCR:=Hd (fun j w h h2 ht=>checkrow_c f A cp FA FC (rA rs j) (RA j) (RC j) w h h2 hf hm ht)
 have HKI:=Hd ho;have HLM:=Hd hl;have HTB:=Hd ht
 obtain ⟨R,hR⟩:=ex_ (QbX f rs)
 have HR:=Hd (show frF (fun j=>(rowF f (rA rs j)).2) rs.length=R from hR)
 rw [hR]
 have hnr:=hl.len
 clear ho hl ht hf hR
 obtain ⟨m,q,ks,hd,tl,ct,sm⟩:=f
 unfold fmtG at HCR ⊢
 simp only at HCR HKI hcp ⊢
 obtain ⟨n,hn⟩:=ex_ (ks.length)
 rw [hn] at HCR hcp ⊢
 clear hn
 have hF0:=Qac w (.cells #[.int .u8 m,.int .u8 q,.slice A n cp,.string hd,.string tl,.string ct,.string sm] 24) rfl
 have hB0:Below w.heap.size w (w.alloc (.cells #[.int .u8 m,.int .u8 q,.slice A n cp,.string hd,.string tl,.string ct,.string sm] 24)):=by go_grown
 obtain ⟨nr,hnr2⟩:=ex_ (rs.length)
 have HNR:=Hd hnr2
 rw [hnr2] at HR hnr ⊢
 clear hnr2
 go_enter Tryz.func23,Tryz.ntmps23
 obtain ⟨⟨f0,f1,f2,f3,f4,f5,f6⟩,f7⟩:=Qai hF0
 have HF0:=Hd hF0;have HB0:=Hd hB0
 go_upto_region 1 with fail
 generalize w.alloc (.cells #[.int .u8 m,.int .u8 q,.slice A n cp,.string hd,.string tl,.string ct,.string sm] 24)=w1 at f0 f1 f2 f3 f4 f5 f6 f7 HF0 HB0 hB0 hF0 ⊢
 have hz1:=hB0.size
 clear f0 f1 f2 f3 f4 f5 f6 f7 hF0 hB0
 go_wp2_with fail
 go_loopw [12] (fun i wr=>∃ j:Nat,j<=nr/\i=.int .i64 j/\Hid (Below w1.heap.size w1 wr)/\Hid (∀ t,t<j->(rowF ⟨m,q,ks,hd,tl,ct,sm⟩ (rA rs t)).2=0)) (fun i _=>nr-(intOf i).toNat)
 case atStart=>exact ⟨0,Nat.zero_le _,rfl,Hd (Below.refl _ _),Hd (fun t h=>absurd h (Nat.not_lt_zero _))⟩
 case round=>
  obtain ⟨j,hj,rfl,HB,HJ⟩:=hrel
  have HBW:=Hd (Qab HB.out HB0.out hz1)
  have hzr:=HB.out.size
  rcases Nat.lt_or_ge j nr with hlt | hge
  ·obtain ⟨b,off,rfl,hbw,c0,c1⟩:=(HLM.out.below HBW.out).cells (j:=j) (by rw [HNR.out];exact hlt)
   have HRJ:=Hd ((HLM.out.below HBW.out).each j (by rw [HNR.out];exact hlt))
   have HCJ:=Hd (fun w h h2 ht=>HCR.out j w h h2 ht)
   obtain ⟨r,hr⟩:=ex_ (rA rs j)
   obtain ⟨RJ,hRJ⟩:=ex_ (RA j)
   obtain ⟨CJ,hCJ⟩:=ex_ (RC j)
   obtain ⟨⟨x,e⟩,hX⟩:=ex_ (rowF ⟨m,q,ks,hd,tl,ct,sm⟩ r)
   have HX:=Hd (show (rowF ⟨m,q,ks,hd,tl,ct,sm⟩ (rA rs j)).2=e by rw [hr,hX])
   rw [hr,hRJ,hCJ] at HCJ HRJ
   rw [hr] at c0
   rw [hr,hRJ,hCJ] at c1
   rw [hX] at HCJ
   unfold Qbk at HCJ
   clear hr hRJ hCJ hX
   obtain ⟨tg,vs⟩:=r
   unfold rowG at HCJ
   simp only at HCJ c0 c1
   obtain ⟨nv,hnv⟩:=ex_ (vs.length)
   rw [hnv] at HCJ c1
   clear hnv
   have hF5:=Qad (keep_heap HF0.out HB.out (Qan HF0.out)) (.cells #[.string tg,.slice RJ nv CJ] 49)
   have hR5:=Qac wr (.cells #[.string tg,.slice RJ nv CJ] 49) rfl
   have hb5:Below wr.heap.size wr (wr.alloc (.cells #[.string tg,.slice RJ nv CJ] 49)):=by go_grown
   go_upto_region 4 with fail
   obtain ⟨rn,hrn⟩:=ex_ (wr.heap.size)
   rw [hrn] at hR5 ⊢
   have hb15:=Qab hb5 HB.out hzr
   generalize wr.alloc (.cells #[.string tg,.slice RJ nv CJ] 49)=w5 at hF5 hR5 hb5 hb15 ⊢
   have HBW5:=Hd (Qab hb5 HBW.out HBW.out.size)
   obtain ⟨⟨f0,f1,f2,f3,f4,f5,f6⟩,f7⟩:=Qai hF5
   obtain ⟨r0,r1,-,-,r2⟩:=box2 hR5
   have HRJ5:=Hd (HRJ.out.below hb5)
   clear c0 c1 hF5 hR5 hrn hbw hb5
   go_wp2_with fail
   refine (HCJ.out _ (HKI.out.below HBW5.out) HRJ5.out (HTB.out.below HBW5.out)).mono ?_
   rintro _ w6 ⟨rfl,hb6⟩
   have HB6:=Hd (Qab hb6 hb15 hb15.size)
   clear f0 f1 f2 f3 f4 f5 f6 f7 r0 r1 r2 hb6 hb15
   by_cases h0:e=0
   ·subst h0
    have HJ2:=Hd (show ∀ t,t<j+1->(rowF ⟨m,q,ks,hd,tl,ct,sm⟩ (rA rs t)).2=0 from fun t ht=>by
     rcases Nat.lt_or_ge t j with h | h
     ·exact HJ.out t h
     ·obtain rfl:t=j:=by omega
      exact HX.out)
    go_wp2
    go_roundw
    case rel=>exact ⟨j+1,by omega,by go_num,HB6,HJ2⟩
    case measure=>simp [intOf];omega
   ·have HE:=Hd (show R=((j:Int),e) by rw [<- HR.out,Qb2 (j:=j) HJ.out (by show (rowF _ _).2≠0;rw [HX.out];exact h0) hlt];exact congrArg _ HX.out)
    have h0a:(e !=0)=true:=by simpa using h0
    have hbn:=Qab HB6.out HB0.out hz1
    clear h0
    go_wp2
    go_ret2
    exact ⟨by rw [HE.out];rfl,hbn⟩
  ·obtain rfl:j=nr:=by omega
   have HE:=Hd (show R=(0,0) by rw [<- HR.out];exact frF_no HJ.out)
   have hbn:=HBW.out
   go_wp2
   go_ret2
   exact ⟨by rw [HE.out];rfl,hbn⟩
theorem rchkrows_c (f:Fmt) (A:Option Addr) (cp:Nat) (FA:Nat->Option Addr) (FC:Nat->Nat) (L:Option Addr) (LC:Nat) (rs:List RowP) (RA:Nat->Option Addr) (RC:Nat->Nat) (w:World) (ho:Kinds w A f.kinds FA FC) (hl:RowsM w L rs RA RC) (hcp:f.kinds.length<=cp) (hf:Qao f=0) (hm:0<=f.mark/\f.mark<=255) (ht:Tab w) :
  Calls Tryz.prog 29 #[fmtG f A cp,.slice L rs.length LC] w (Qbk (QbX f rs).1 (QbX f rs).2 w):=by
 have HCR:=Hd (fun j w h h2 ht=>rcheckrow_c f A cp FA FC (rA rs j) (RA j) (RC j) w h h2 hcp hf hm ht)
 have HKI:=Hd ho;have HLM:=Hd hl;have HTB:=Hd ht
 obtain ⟨R,hR⟩:=ex_ (QbX f rs)
 have HR:=Hd (show frF (fun j=>(rowF f (rA rs j)).2) rs.length=R from hR)
 rw [hR]
 have hnr:=hl.len
 clear ho hl ht hf hR
 obtain ⟨m,q,ks,hd,tl,ct,sm⟩:=f
 unfold fmtG at HCR ⊢
 simp only at HCR HKI hcp ⊢
 obtain ⟨n,hn⟩:=ex_ (ks.length)
 rw [hn] at HCR hcp ⊢
 clear hn
 have hF0:=Qac w (.cells #[.int .u8 m,.int .u8 q,.slice A n cp,.string hd,.string tl,.string ct,.string sm] 24) rfl
 have hB0:Below w.heap.size w (w.alloc (.cells #[.int .u8 m,.int .u8 q,.slice A n cp,.string hd,.string tl,.string ct,.string sm] 24)):=by go_grown
 obtain ⟨nr,hnr2⟩:=ex_ (rs.length)
 have HNR:=Hd hnr2
 rw [hnr2] at HR hnr ⊢
 clear hnr2
 go_enter Tryz.func29,Tryz.ntmps29
 obtain ⟨⟨f0,f1,f2,f3,f4,f5,f6⟩,f7⟩:=Qai hF0
 have HF0:=Hd hF0;have HB0:=Hd hB0
 go_upto_region 1 with fail
 generalize w.alloc (.cells #[.int .u8 m,.int .u8 q,.slice A n cp,.string hd,.string tl,.string ct,.string sm] 24)=w1 at f0 f1 f2 f3 f4 f5 f6 f7 HF0 HB0 hB0 hF0 ⊢
 have hz1:=hB0.size
 clear f0 f1 f2 f3 f4 f5 f6 f7 hF0 hB0
 go_wp2_with fail
 go_loopw [12] (fun i wr=>∃ j:Nat,j<=nr/\i=.int .i64 j/\Hid (Below w1.heap.size w1 wr)/\Hid (∀ t,t<j->(rowF ⟨m,q,ks,hd,tl,ct,sm⟩ (rA rs t)).2=0)) (fun i _=>nr-(intOf i).toNat)
 case atStart=>exact ⟨0,Nat.zero_le _,rfl,Hd (Below.refl _ _),Hd (fun t h=>absurd h (Nat.not_lt_zero _))⟩
 case round=>
  obtain ⟨j,hj,rfl,HB,HJ⟩:=hrel
  have HBW:=Hd (Qab HB.out HB0.out hz1)
  have hzr:=HB.out.size
  rcases Nat.lt_or_ge j nr with hlt | hge
  ·obtain ⟨b,off,rfl,hbw,c0,c1⟩:=(HLM.out.below HBW.out).cells (j:=j) (by rw [HNR.out];exact hlt)
   have HRJ:=Hd ((HLM.out.below HBW.out).each j (by rw [HNR.out];exact hlt))
   have HCJ:=Hd (fun w h h2 ht=>HCR.out j w h h2 ht)
   obtain ⟨r,hr⟩:=ex_ (rA rs j)
   obtain ⟨RJ,hRJ⟩:=ex_ (RA j)
   obtain ⟨CJ,hCJ⟩:=ex_ (RC j)
   obtain ⟨⟨x,e⟩,hX⟩:=ex_ (rowF ⟨m,q,ks,hd,tl,ct,sm⟩ r)
   have HX:=Hd (show (rowF ⟨m,q,ks,hd,tl,ct,sm⟩ (rA rs j)).2=e by rw [hr,hX])
   rw [hr,hRJ,hCJ] at HCJ HRJ
   rw [hr] at c0
   rw [hr,hRJ,hCJ] at c1
   rw [hX] at HCJ
   unfold Qbk at HCJ
   clear hr hRJ hCJ hX
   obtain ⟨tg,vs⟩:=r
   unfold rowG at HCJ
   simp only at HCJ c0 c1
   obtain ⟨nv,hnv⟩:=ex_ (vs.length)
   rw [hnv] at HCJ c1
   clear hnv
   have hF5:=Qad (keep_heap HF0.out HB.out (Qan HF0.out)) (.cells #[.string tg,.slice RJ nv CJ] 49)
   have hR5:=Qac wr (.cells #[.string tg,.slice RJ nv CJ] 49) rfl
   have hb5:Below wr.heap.size wr (wr.alloc (.cells #[.string tg,.slice RJ nv CJ] 49)):=by go_grown
   go_upto_region 4 with fail
   obtain ⟨rn,hrn⟩:=ex_ (wr.heap.size)
   rw [hrn] at hR5 ⊢
   have hb15:=Qab hb5 HB.out hzr
   generalize wr.alloc (.cells #[.string tg,.slice RJ nv CJ] 49)=w5 at hF5 hR5 hb5 hb15 ⊢
   have HBW5:=Hd (Qab hb5 HBW.out HBW.out.size)
   obtain ⟨⟨f0,f1,f2,f3,f4,f5,f6⟩,f7⟩:=Qai hF5
   obtain ⟨r0,r1,-,-,r2⟩:=box2 hR5
   have HRJ5:=Hd (HRJ.out.below hb5)
   clear c0 c1 hF5 hR5 hrn hbw hb5
   go_wp2_with fail
   refine (HCJ.out _ (HKI.out.below HBW5.out) HRJ5.out (HTB.out.below HBW5.out)).mono ?_
   rintro _ w6 ⟨rfl,hb6⟩
   have HB6:=Hd (Qab hb6 hb15 hb15.size)
   clear f0 f1 f2 f3 f4 f5 f6 f7 r0 r1 r2 hb6 hb15
   by_cases h0:e=0
   ·subst h0
    have HJ2:=Hd (show ∀ t,t<j+1->(rowF ⟨m,q,ks,hd,tl,ct,sm⟩ (rA rs t)).2=0 from fun t ht=>by
     rcases Nat.lt_or_ge t j with h | h
     ·exact HJ.out t h
     ·obtain rfl:t=j:=by omega
      exact HX.out)
    go_wp2
    go_roundw
    case rel=>exact ⟨j+1,by omega,by go_num,HB6,HJ2⟩
    case measure=>simp [intOf];omega
   ·have HE:=Hd (show R=((j:Int),e) by rw [<- HR.out,Qb2 (j:=j) HJ.out (by show (rowF _ _).2≠0;rw [HX.out];exact h0) hlt];exact congrArg _ HX.out)
    have h0a:(e !=0)=true:=by simpa using h0
    have hbn:=Qab HB6.out HB0.out hz1
    clear h0
    go_wp2
    go_ret2
    exact ⟨by rw [HE.out];rfl,hbn⟩
  ·obtain rfl:j=nr:=by omega
   have HE:=Hd (show R=(0,0) by rw [<- HR.out];exact frF_no HJ.out)
   have hbn:=HBW.out
   go_wp2
   go_ret2
   exact ⟨by rw [HE.out];rfl,hbn⟩
end Go.Proofs.YtaiabjiehpcaoaaGreatDoor
