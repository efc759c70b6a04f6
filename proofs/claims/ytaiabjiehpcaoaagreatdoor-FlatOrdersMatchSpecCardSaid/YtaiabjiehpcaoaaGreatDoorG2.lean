
/- The walk of the reference's checkColumn. (Printed by genG2.py.) -/
import Derived.Test.YtaiabjiehpcaoaaGreatDoorG1
set_option maxHeartbeats 2000000
set_option maxRecDepth 100000
namespace Go.Proofs.YtaiabjiehpcaoaaGreatDoor
open Go.RowKit Limb Nmb Work
set_option linter.unusedVariables false
set_option linter.unusedSimpArgs false
theorem rcol_num (f:Fmt) (A:Option Addr) (c:Nat) (k:RKd) (BA:Option Addr) (bc i:Nat) (w0:World) (hsn:∀ x∈k.fields,x.name.size<=9223372036854775807) (hNm:k.fields.length<=9223372036854775807) (hbc:k.fields.length<=bc) (hB:Cols w0 BA k.fields) (hi:i<k.fields.length) (hk:(cA k.fields i).kind=2) :
  Calls Tryz.prog 99 #[fmtG f A c,QaO k BA bc,.int .i64 (i:Int)] w0 (RetI (colF f.mark (cA k.fields i) (k.fields.take i)) w0):=by
 obtain ⟨m,q,ks,hd,tl,ct,sm⟩:=f
 obtain ⟨tg,fs,ms,un⟩:=k
 unfold fmtG QaO
 simp only at *
 obtain ⟨B,off,rfl,hbw,x0,x1,x2,x3,x4,x5,x6,x7⟩:=hB.cells hi
 have hs:(cA fs i).name.size<=9223372036854775807:=hsn _ (by rw [<- Qbr hi];exact List.getElem_mem _)
 obtain ⟨xx,hx⟩:=ex_ (cA fs i)
 have HX:=Hd hx
 rw [hx] at hk x0 x1 x2 x3 x4 x5 x6 x7 hs ⊢
 clear hx hsn
 obtain ⟨nm,kd,wd,pl,fo,ri,fi,ne⟩:=xx
 simp only at hk x0 x1 x2 x3 x4 x5 x6 x7 hs
 subst hk
 have HN:=Hd (fun w=>risname2_c nm w hs)
 have HCO:=Hd (fun w (h:Cols w (some ⟨B,off,none⟩) fs)=>QbQ ⟨tg,fs,ms,un⟩ (some ⟨B,off,none⟩) bc nm w h)
 unfold QaO at HCO
 simp only at HCO
 obtain ⟨NB,hNB⟩:=ex_ (Qbt nm.data.toList)
 obtain ⟨IX,hIX⟩:=ex_ (ixF (Qaj nm) fs)
 obtain ⟨IB,hIB⟩:=ex_ (QaA m ⟨nm,2,wd,pl,fo,ri,fi,ne⟩)
 obtain ⟨N,hN⟩:=ex_ (fs.length)
 obtain ⟨NK,hNK⟩:=ex_ (List.length ks)
 have HTK:=Hd (show (IX=(i:Int))↔(List.take i fs).any (Qaj nm)=false by
  rw [<- hIX]
  exact ixF_take hi (by rw [Qbr hi,HX.out];exact decide_eq_true rfl))
 rw [hNB] at HN
 rw [hIX,hN] at HCO
 rw [hN] at hi hbc hNm ⊢
 rw [hNK]
 have hNB:=Hd hNB;have hIB:=Hd hIB;have HNN:=Hd hN
 have HBC:=Hd hB
 clear hB hN hNK hIX
 go_enter Tryz.func99,Tryz.ntmps99
 go_wp2_with fail
 have HF:=Hd (Qad (Qad (Qac w0 (.cells #[.int .u8 m,.int .u8 q,.slice A NK c,.string hd,.string tl,.string ct,.string sm] 24) rfl) (.cells #[.string tg,.slice (some ⟨B,off,none⟩) N bc,.int .i64 ms,.string un] 52)) (.cells #[.string nm,.int .i64 2,.int .i64 wd,.int .i64 pl,.int .i64 fo,.bool ri,.int .u8 fi,.bool ne] 60))
 have HK:=Hd (Qad (Qac (w0.alloc (.cells #[.int .u8 m,.int .u8 q,.slice A NK c,.string hd,.string tl,.string ct,.string sm] 24)) (.cells #[.string tg,.slice (some ⟨B,off,none⟩) N bc,.int .i64 ms,.string un] 52) (g:=w0.heap.size+1) (by simp)) (.cells #[.string nm,.int .i64 2,.int .i64 wd,.int .i64 pl,.int .i64 fo,.bool ri,.int .u8 fi,.bool ne] 60))
 have HC:=Hd (Qac ((w0.alloc (.cells #[.int .u8 m,.int .u8 q,.slice A NK c,.string hd,.string tl,.string ct,.string sm] 24)).alloc (.cells #[.string tg,.slice (some ⟨B,off,none⟩) N bc,.int .i64 ms,.string un] 52)) (.cells #[.string nm,.int .i64 2,.int .i64 wd,.int .i64 pl,.int .i64 fo,.bool ri,.int .u8 fi,.bool ne] 60) (g:=w0.heap.size+1+1) (by simp))
 have hB1:Below w0.heap.size w0 (((w0.alloc (.cells #[.int .u8 m,.int .u8 q,.slice A NK c,.string hd,.string tl,.string ct,.string sm] 24)).alloc (.cells #[.string tg,.slice (some ⟨B,off,none⟩) N bc,.int .i64 ms,.string un] 52)).alloc (.cells #[.string nm,.int .i64 2,.int .i64 wd,.int .i64 pl,.int .i64 fo,.bool ri,.int .u8 fi,.bool ne] 60)):=by go_grown
 clear x0 x1 x2 x3 x4 x5 x6 x7 hbw
 generalize ((w0.alloc (.cells #[.int .u8 m,.int .u8 q,.slice A NK c,.string hd,.string tl,.string ct,.string sm] 24)).alloc (.cells #[.string tg,.slice (some ⟨B,off,none⟩) N bc,.int .i64 ms,.string un] 52)).alloc (.cells #[.string nm,.int .i64 2,.int .i64 wd,.int .i64 pl,.int .i64 fo,.bool ri,.int .u8 fi,.bool ne] 60)=w1 at HF HK HC hB1 ⊢
 obtain ⟨⟨f0,f1,f2,f3,f4,f5,f6⟩,f7⟩:=Qai HF.out
 obtain ⟨⟨k0,k1,k2,k3⟩,-,k5⟩:=Qaw HK.out
 obtain ⟨⟨c0,c1,c2,c3,c4,c5,c6,c7⟩,c8⟩:=QaC HC.out
 refine (HN.out _).mono ?_
 rintro e w2 ⟨rfl,hb2⟩
 have hF2:=Qaa HF.out hb2
 have hK2:=Qaa HK.out hb2
 have hC2:=Qaa HC.out hb2
 have hB2:=Qab hb2 hB1 hB1.size
 clear f0 f1 f2 f3 f4 f5 f6 f7 k0 k1 k2 k3 k5 c0 c1 c2 c3 c4 c5 c6 c7 c8
 clear HF HK HC
 have HF:=Hd hF2;have HK:=Hd hK2;have HC:=Hd hC2
 clear hF2 hK2 hC2 hb2
 obtain ⟨⟨f0,f1,f2,f3,f4,f5,f6⟩,f7⟩:=Qai HF.out
 obtain ⟨⟨k0,k1,k2,k3⟩,-,k5⟩:=Qaw HK.out
 obtain ⟨⟨c0,c1,c2,c3,c4,c5,c6,c7⟩,c8⟩:=QaC HC.out
 cases NB with
 | false=>
  have HE:=Hd (show colF m ⟨nm,2,wd,pl,fo,ri,fi,ne⟩ (List.take i fs)=5 by unfold colF;simp [hNB.out])
  go_wp2
  go_ret
  exact ⟨congrArg (fun v=>Ending.returned (Value.int .i64 v)) HE.out.symm,hB2⟩
 | true=>
 go_wp2_with fail
 refine (HCO.out _ (HBC.out.below hB2)).mono ?_
 rintro e w3 ⟨rfl,hb3⟩
 have hF3:=Qaa HF.out hb3
 have hK3:=Qaa HK.out hb3
 have hC3:=Qaa HC.out hb3
 have hB3:=Qab hb3 hB2 hB2.size
 clear f0 f1 f2 f3 f4 f5 f6 f7 k0 k1 k2 k3 k5 c0 c1 c2 c3 c4 c5 c6 c7 c8
 clear HF HK HC
 have HF:=Hd hF3;have HK:=Hd hK3;have HC:=Hd hC3
 clear hF3 hK3 hC3 hb3
 obtain ⟨⟨f0,f1,f2,f3,f4,f5,f6⟩,f7⟩:=Qai HF.out
 obtain ⟨⟨k0,k1,k2,k3⟩,-,k5⟩:=Qaw HK.out
 obtain ⟨⟨c0,c1,c2,c3,c4,c5,c6,c7⟩,c8⟩:=QaC HC.out
 by_cases hix:IX=(i:Int)
 case neg=>
  have hab:(List.take i fs).any (Qaj nm)=true:=by
   cases h:(List.take i fs).any (Qaj nm) with
   | true=>rfl
   | false=>exact absurd (HTK.out.2 h) hix
  have HE:=Hd (show colF m ⟨nm,2,wd,pl,fo,ri,fi,ne⟩ (List.take i fs)=7 by unfold colF;simp [hNB.out,hab])
  have hixa:(IX !=(i:Int))=true:=by simpa using hix
  clear hix hab
  go_wp2
  go_ret
  exact ⟨congrArg (fun v=>Ending.returned (Value.int .i64 v)) HE.out.symm,hB3⟩
 have HAB:=Hd (HTK.out.1 hix)
 have hixa:(IX !=(i:Int))=false:=by simpa using hix
 clear hix
 have HO:=Hd (fun w=>QaB 2 1 3 w)
 rw [decide_eq_true (show (1:Int)<=2/\(2:Int)<=3 by decide)] at HO
 go_wp2_with fail
 refine (HO.out _).mono ?_
 rintro e w9 ⟨rfl,rfl⟩
 clear HO
 by_cases h4:1<=wd/\wd<=100
 case neg=>
  have HE:=Hd (show colF m ⟨nm,2,wd,pl,fo,ri,fi,ne⟩ (List.take i fs)=1 by unfold colF;simp [hNB.out,HAB.out,h4])
  have HO:=Hd (fun w=>QaB wd 1 100 w)
  rw [decide_eq_false h4] at HO
  clear h4
  go_wp2_with fail
  refine (HO.out _).mono ?_
  rintro e w9 ⟨rfl,rfl⟩
  go_wp2
  go_ret
  exact ⟨congrArg (fun v=>Ending.returned (Value.int .i64 v)) HE.out.symm,hB3⟩
 have HO:=Hd (fun w=>QaB wd 1 100 w)
 rw [decide_eq_true h4] at HO
 have H4:=Hd h4
 clear h4
 go_wp2_with fail
 refine (HO.out _).mono ?_
 rintro e w9 ⟨rfl,rfl⟩
 clear HO
 by_cases h5:0<=pl/\pl<=9
 case neg=>
  have HE:=Hd (show colF m ⟨nm,2,wd,pl,fo,ri,fi,ne⟩ (List.take i fs)=1 by unfold colF;simp [hNB.out,HAB.out,H4.out,h5])
  have HO:=Hd (fun w=>QaB pl 0 9 w)
  rw [decide_eq_false h5] at HO
  clear h5
  go_wp2_with fail
  refine (HO.out _).mono ?_
  rintro e w9 ⟨rfl,rfl⟩
  go_wp2
  go_ret
  exact ⟨congrArg (fun v=>Ending.returned (Value.int .i64 v)) HE.out.symm,hB3⟩
 have HO:=Hd (fun w=>QaB pl 0 9 w)
 rw [decide_eq_true h5] at HO
 have H5:=Hd h5
 clear h5
 go_wp2_with fail
 refine (HO.out _).mono ?_
 rintro e w9 ⟨rfl,rfl⟩
 clear HO
 go_upto_region 14 with fail
 go_cut [96] (fun v wx=>v=.bool (!IB)/\w3=wx)
 case first=>
  by_cases j1:fo=0
  case neg=>
   have e1:(fo !=0)=true:=by simpa using j1
   have eI:IB=false:=by rw [<- hIB.out];unfold QaA;simp [j1]
   subst eI
   clear j1
   go_wp2_with fail
   go_meet
   exact ⟨rfl,rfl⟩
  have e1:(fo !=0)=false:=by simpa using j1
  by_cases j2:m=0
  ·have e2:(m !=0)=false:=by simpa using j2
   have eI:IB=true:=by rw [<- hIB.out];unfold QaA;simp [j1,j2]
   subst eI
   clear j1 j2
   go_wp2_with fail
   go_meet
   exact ⟨rfl,rfl⟩
  have e2:(m !=0)=true:=by simpa using j2
  cases ri with
  | true=>
   have eI:IB=false:=by rw [<- hIB.out];unfold QaA;simp [j1,j2]
   subst eI
   clear j1 j2
   go_wp2_with fail
   go_meet
   exact ⟨rfl,rfl⟩
  | false=>
   by_cases j4:fi=0
   ·have e4:(fi !=0)=false:=by simpa using j4
    have eI:IB=true:=by rw [<- hIB.out];unfold QaA;simp [j1,j2,j4]
    subst eI
    clear j1 j2 j4
    go_wp2_with fail
    go_meet
    exact ⟨rfl,rfl⟩
   ·have e4:(fi !=0)=true:=by simpa using j4
    have eI:IB=false:=by rw [<- hIB.out];unfold QaA;simp [j1,j2,j4]
    subst eI
    clear j1 j2 j4
    go_wp2_with fail
    go_meet
    exact ⟨rfl,rfl⟩
 case rest=>
 obtain ⟨rfl,rfl⟩:=hcut
 cases IB with
 | false=>
  have HE:=Hd (show colF m ⟨nm,2,wd,pl,fo,ri,fi,ne⟩ (List.take i fs)=3 by unfold colF;simp [hNB.out,HAB.out,H4.out,H5.out,hIB.out])
  go_wp2
  go_ret
  exact ⟨congrArg (fun v=>Ending.returned (Value.int .i64 v)) HE.out.symm,hB3⟩
 | true=>
 by_cases h8:m=0
 case neg=>
  have h8a:(m !=0)=true:=by simpa using h8
  have HE:=Hd (show colF m ⟨nm,2,wd,pl,fo,ri,fi,ne⟩ (List.take i fs)=0 by unfold colF;simp [hNB.out,HAB.out,H4.out,H5.out,hIB.out,h8])
  clear h8
  go_wp2
  go_ret
  exact ⟨congrArg (fun v=>Ending.returned (Value.int .i64 v)) HE.out.symm,hB3⟩
 subst h8
 by_cases h9:fi=32
 ·subst h9
  have HE:=Hd (show colF 0 ⟨nm,2,wd,pl,fo,ri,32,ne⟩ (List.take i fs)=0 by unfold colF;simp [hNB.out,HAB.out,H4.out,H5.out,hIB.out])
  go_wp2
  go_ret
  exact ⟨congrArg (fun v=>Ending.returned (Value.int .i64 v)) HE.out.symm,hB3⟩
 have h9a:(fi !=32)=true:=by simpa using h9
 by_cases h10:fi=48
 ·subst h10
  clear h9
  cases ri with
  | true=>
   have HE:=Hd (show colF 0 ⟨nm,2,wd,pl,fo,true,48,ne⟩ (List.take i fs)=0 by unfold colF;simp [hNB.out,HAB.out,H4.out,H5.out,hIB.out])
   go_wp2
   go_ret
   exact ⟨congrArg (fun v=>Ending.returned (Value.int .i64 v)) HE.out.symm,hB3⟩
  | false=>
   have HE:=Hd (show colF 0 ⟨nm,2,wd,pl,fo,false,48,ne⟩ (List.take i fs)=3 by unfold colF;simp [hNB.out,HAB.out,H4.out,H5.out,hIB.out])
   go_wp2
   go_ret
   exact ⟨congrArg (fun v=>Ending.returned (Value.int .i64 v)) HE.out.symm,hB3⟩
 have h10a:(fi !=48)=true:=by simpa using h10
 have HE:=Hd (show colF 0 ⟨nm,2,wd,pl,fo,ri,fi,ne⟩ (List.take i fs)=3 by unfold colF;simp [hNB.out,HAB.out,H4.out,H5.out,hIB.out,h9,h10])
 clear h9 h10
 go_wp2
 go_ret
 exact ⟨congrArg (fun v=>Ending.returned (Value.int .i64 v)) HE.out.symm,hB3⟩
theorem rcol_day (f:Fmt) (A:Option Addr) (c:Nat) (k:RKd) (BA:Option Addr) (bc i:Nat) (w0:World) (hsn:∀ x∈k.fields,x.name.size<=9223372036854775807) (hNm:k.fields.length<=9223372036854775807) (hbc:k.fields.length<=bc) (hB:Cols w0 BA k.fields) (hi:i<k.fields.length) (hk:(cA k.fields i).kind=3) :
  Calls Tryz.prog 99 #[fmtG f A c,QaO k BA bc,.int .i64 (i:Int)] w0 (RetI (colF f.mark (cA k.fields i) (k.fields.take i)) w0):=by
 obtain ⟨m,q,ks,hd,tl,ct,sm⟩:=f
 obtain ⟨tg,fs,ms,un⟩:=k
 unfold fmtG QaO
 simp only at *
 obtain ⟨B,off,rfl,hbw,x0,x1,x2,x3,x4,x5,x6,x7⟩:=hB.cells hi
 have hs:(cA fs i).name.size<=9223372036854775807:=hsn _ (by rw [<- Qbr hi];exact List.getElem_mem _)
 obtain ⟨xx,hx⟩:=ex_ (cA fs i)
 have HX:=Hd hx
 rw [hx] at hk x0 x1 x2 x3 x4 x5 x6 x7 hs ⊢
 clear hx hsn
 obtain ⟨nm,kd,wd,pl,fo,ri,fi,ne⟩:=xx
 simp only at hk x0 x1 x2 x3 x4 x5 x6 x7 hs
 subst hk
 have HN:=Hd (fun w=>risname2_c nm w hs)
 have HCO:=Hd (fun w (h:Cols w (some ⟨B,off,none⟩) fs)=>QbQ ⟨tg,fs,ms,un⟩ (some ⟨B,off,none⟩) bc nm w h)
 unfold QaO at HCO
 simp only at HCO
 obtain ⟨NB,hNB⟩:=ex_ (Qbt nm.data.toList)
 obtain ⟨IX,hIX⟩:=ex_ (ixF (Qaj nm) fs)
 obtain ⟨IB,hIB⟩:=ex_ (QaA m ⟨nm,3,wd,pl,fo,ri,fi,ne⟩)
 obtain ⟨N,hN⟩:=ex_ (fs.length)
 obtain ⟨NK,hNK⟩:=ex_ (List.length ks)
 have HTK:=Hd (show (IX=(i:Int))↔(List.take i fs).any (Qaj nm)=false by
  rw [<- hIX]
  exact ixF_take hi (by rw [Qbr hi,HX.out];exact decide_eq_true rfl))
 rw [hNB] at HN
 rw [hIX,hN] at HCO
 rw [hN] at hi hbc hNm ⊢
 rw [hNK]
 have hNB:=Hd hNB;have hIB:=Hd hIB;have HNN:=Hd hN
 have HBC:=Hd hB
 clear hB hN hNK hIX
 go_enter Tryz.func99,Tryz.ntmps99
 go_wp2_with fail
 have HF:=Hd (Qad (Qad (Qac w0 (.cells #[.int .u8 m,.int .u8 q,.slice A NK c,.string hd,.string tl,.string ct,.string sm] 24) rfl) (.cells #[.string tg,.slice (some ⟨B,off,none⟩) N bc,.int .i64 ms,.string un] 52)) (.cells #[.string nm,.int .i64 3,.int .i64 wd,.int .i64 pl,.int .i64 fo,.bool ri,.int .u8 fi,.bool ne] 60))
 have HK:=Hd (Qad (Qac (w0.alloc (.cells #[.int .u8 m,.int .u8 q,.slice A NK c,.string hd,.string tl,.string ct,.string sm] 24)) (.cells #[.string tg,.slice (some ⟨B,off,none⟩) N bc,.int .i64 ms,.string un] 52) (g:=w0.heap.size+1) (by simp)) (.cells #[.string nm,.int .i64 3,.int .i64 wd,.int .i64 pl,.int .i64 fo,.bool ri,.int .u8 fi,.bool ne] 60))
 have HC:=Hd (Qac ((w0.alloc (.cells #[.int .u8 m,.int .u8 q,.slice A NK c,.string hd,.string tl,.string ct,.string sm] 24)).alloc (.cells #[.string tg,.slice (some ⟨B,off,none⟩) N bc,.int .i64 ms,.string un] 52)) (.cells #[.string nm,.int .i64 3,.int .i64 wd,.int .i64 pl,.int .i64 fo,.bool ri,.int .u8 fi,.bool ne] 60) (g:=w0.heap.size+1+1) (by simp))
 have hB1:Below w0.heap.size w0 (((w0.alloc (.cells #[.int .u8 m,.int .u8 q,.slice A NK c,.string hd,.string tl,.string ct,.string sm] 24)).alloc (.cells #[.string tg,.slice (some ⟨B,off,none⟩) N bc,.int .i64 ms,.string un] 52)).alloc (.cells #[.string nm,.int .i64 3,.int .i64 wd,.int .i64 pl,.int .i64 fo,.bool ri,.int .u8 fi,.bool ne] 60)):=by go_grown
 clear x0 x1 x2 x3 x4 x5 x6 x7 hbw
 generalize ((w0.alloc (.cells #[.int .u8 m,.int .u8 q,.slice A NK c,.string hd,.string tl,.string ct,.string sm] 24)).alloc (.cells #[.string tg,.slice (some ⟨B,off,none⟩) N bc,.int .i64 ms,.string un] 52)).alloc (.cells #[.string nm,.int .i64 3,.int .i64 wd,.int .i64 pl,.int .i64 fo,.bool ri,.int .u8 fi,.bool ne] 60)=w1 at HF HK HC hB1 ⊢
 obtain ⟨⟨f0,f1,f2,f3,f4,f5,f6⟩,f7⟩:=Qai HF.out
 obtain ⟨⟨k0,k1,k2,k3⟩,-,k5⟩:=Qaw HK.out
 obtain ⟨⟨c0,c1,c2,c3,c4,c5,c6,c7⟩,c8⟩:=QaC HC.out
 refine (HN.out _).mono ?_
 rintro e w2 ⟨rfl,hb2⟩
 have hF2:=Qaa HF.out hb2
 have hK2:=Qaa HK.out hb2
 have hC2:=Qaa HC.out hb2
 have hB2:=Qab hb2 hB1 hB1.size
 clear f0 f1 f2 f3 f4 f5 f6 f7 k0 k1 k2 k3 k5 c0 c1 c2 c3 c4 c5 c6 c7 c8
 clear HF HK HC
 have HF:=Hd hF2;have HK:=Hd hK2;have HC:=Hd hC2
 clear hF2 hK2 hC2 hb2
 obtain ⟨⟨f0,f1,f2,f3,f4,f5,f6⟩,f7⟩:=Qai HF.out
 obtain ⟨⟨k0,k1,k2,k3⟩,-,k5⟩:=Qaw HK.out
 obtain ⟨⟨c0,c1,c2,c3,c4,c5,c6,c7⟩,c8⟩:=QaC HC.out
 cases NB with
 | false=>
  have HE:=Hd (show colF m ⟨nm,3,wd,pl,fo,ri,fi,ne⟩ (List.take i fs)=5 by unfold colF;simp [hNB.out])
  go_wp2
  go_ret
  exact ⟨congrArg (fun v=>Ending.returned (Value.int .i64 v)) HE.out.symm,hB2⟩
 | true=>
 go_wp2_with fail
 refine (HCO.out _ (HBC.out.below hB2)).mono ?_
 rintro e w3 ⟨rfl,hb3⟩
 have hF3:=Qaa HF.out hb3
 have hK3:=Qaa HK.out hb3
 have hC3:=Qaa HC.out hb3
 have hB3:=Qab hb3 hB2 hB2.size
 clear f0 f1 f2 f3 f4 f5 f6 f7 k0 k1 k2 k3 k5 c0 c1 c2 c3 c4 c5 c6 c7 c8
 clear HF HK HC
 have HF:=Hd hF3;have HK:=Hd hK3;have HC:=Hd hC3
 clear hF3 hK3 hC3 hb3
 obtain ⟨⟨f0,f1,f2,f3,f4,f5,f6⟩,f7⟩:=Qai HF.out
 obtain ⟨⟨k0,k1,k2,k3⟩,-,k5⟩:=Qaw HK.out
 obtain ⟨⟨c0,c1,c2,c3,c4,c5,c6,c7⟩,c8⟩:=QaC HC.out
 by_cases hix:IX=(i:Int)
 case neg=>
  have hab:(List.take i fs).any (Qaj nm)=true:=by
   cases h:(List.take i fs).any (Qaj nm) with
   | true=>rfl
   | false=>exact absurd (HTK.out.2 h) hix
  have HE:=Hd (show colF m ⟨nm,3,wd,pl,fo,ri,fi,ne⟩ (List.take i fs)=7 by unfold colF;simp [hNB.out,hab])
  have hixa:(IX !=(i:Int))=true:=by simpa using hix
  clear hix hab
  go_wp2
  go_ret
  exact ⟨congrArg (fun v=>Ending.returned (Value.int .i64 v)) HE.out.symm,hB3⟩
 have HAB:=Hd (HTK.out.1 hix)
 have hixa:(IX !=(i:Int))=false:=by simpa using hix
 clear hix
 have HO:=Hd (fun w=>QaB 3 1 3 w)
 rw [decide_eq_true (show (1:Int)<=3/\(3:Int)<=3 by decide)] at HO
 go_wp2_with fail
 refine (HO.out _).mono ?_
 rintro e w9 ⟨rfl,rfl⟩
 clear HO
 by_cases h4:1<=wd/\wd<=100
 case neg=>
  have HE:=Hd (show colF m ⟨nm,3,wd,pl,fo,ri,fi,ne⟩ (List.take i fs)=1 by unfold colF;simp [hNB.out,HAB.out,h4])
  have HO:=Hd (fun w=>QaB wd 1 100 w)
  rw [decide_eq_false h4] at HO
  clear h4
  go_wp2_with fail
  refine (HO.out _).mono ?_
  rintro e w9 ⟨rfl,rfl⟩
  go_wp2
  go_ret
  exact ⟨congrArg (fun v=>Ending.returned (Value.int .i64 v)) HE.out.symm,hB3⟩
 have HO:=Hd (fun w=>QaB wd 1 100 w)
 rw [decide_eq_true h4] at HO
 have H4:=Hd h4
 clear h4
 go_wp2_with fail
 refine (HO.out _).mono ?_
 rintro e w9 ⟨rfl,rfl⟩
 clear HO
 by_cases h5:1<=fo/\fo<=5
 case neg=>
  have hfw:formW fo=0:=by unfold formW;rw [if_neg (by omega),if_neg (by omega),if_neg (by omega)]
  have HE:=Hd (show colF m ⟨nm,3,wd,pl,fo,ri,fi,ne⟩ (List.take i fs)=4 by unfold colF;simp [hNB.out,HAB.out,H4.out,hfw])
  have HO:=Hd (fun w=>QaB fo 1 5 w)
  rw [decide_eq_false h5] at HO
  clear h5 hfw
  go_wp2_with fail
  refine (HO.out _).mono ?_
  rintro e w9 ⟨rfl,rfl⟩
  go_wp2
  go_ret
  exact ⟨congrArg (fun v=>Ending.returned (Value.int .i64 v)) HE.out.symm,hB3⟩
 have HO:=Hd (fun w=>QaB fo 1 5 w)
 rw [decide_eq_true h5] at HO
 by_cases h6:fo=2
 ·subst h6
  have HE:=Hd (show colF m ⟨nm,3,wd,pl,2,ri,fi,ne⟩ (List.take i fs)=4 by unfold colF;simp [hNB.out,HAB.out,H4.out,show formW 2=0 from rfl])
  clear h5
  go_wp2_with fail
  refine (HO.out _).mono ?_
  rintro e w9 ⟨rfl,rfl⟩
  go_wp2
  go_ret
  exact ⟨congrArg (fun v=>Ending.returned (Value.int .i64 v)) HE.out.symm,hB3⟩
 have hfw:formW fo=widF fo/\¬ formW fo=0:=by
  unfold formW widF
  by_cases h1:fo=1∨fo=3
  ·rw [if_pos h1,if_neg (by omega),if_neg (by omega)];exact ⟨rfl,by decide⟩
  ·rw [if_neg h1]
   by_cases h4:fo=4
   ·rw [if_pos h4,if_pos h4];exact ⟨rfl,by decide⟩
   ·rw [if_neg h4,if_neg h4,if_pos (by omega),if_pos (by omega)];exact ⟨rfl,by decide⟩
 have HFW:=Hd hfw
 have h6a:(fo==2)=false:=by simpa using h6
 clear h5 h6 hfw
 go_wp2_with fail
 refine (HO.out _).mono ?_
 rintro e w9 ⟨rfl,rfl⟩
 clear HO
 go_upto_region 14 with fail
 go_cut [96] (fun v wx=>v=.bool (!IB)/\w3=wx)
 case first=>
  by_cases j1:pl=0
  case neg=>
   have e1:(pl !=0)=true:=by simpa using j1
   have eI:IB=false:=by rw [<- hIB.out];unfold QaA;simp [j1]
   subst eI
   clear j1
   go_wp2_with fail
   go_meet
   exact ⟨rfl,rfl⟩
  have e1:(pl !=0)=false:=by simpa using j1
  cases ri with
  | true=>
   have eI:IB=false:=by rw [<- hIB.out];unfold QaA;simp [j1]
   subst eI
   clear j1
   go_wp2_with fail
   go_meet
   exact ⟨rfl,rfl⟩
  | false=>
   by_cases j4:fi=0
   ·have e4:(fi !=0)=false:=by simpa using j4
    have eI:IB=true:=by rw [<- hIB.out];unfold QaA;simp [j1,j4]
    subst eI
    clear j1 j4
    go_wp2_with fail
    go_meet
    exact ⟨rfl,rfl⟩
   ·have e4:(fi !=0)=true:=by simpa using j4
    have eI:IB=false:=by rw [<- hIB.out];unfold QaA;simp [j1,j4]
    subst eI
    clear j1 j4
    go_wp2_with fail
    go_meet
    exact ⟨rfl,rfl⟩
 case rest=>
 obtain ⟨rfl,rfl⟩:=hcut
 cases IB with
 | false=>
  have HE:=Hd (show colF m ⟨nm,3,wd,pl,fo,ri,fi,ne⟩ (List.take i fs)=3 by unfold colF;simp [hNB.out,HAB.out,H4.out,HFW.out.2,hIB.out])
  go_wp2
  go_ret
  exact ⟨congrArg (fun v=>Ending.returned (Value.int .i64 v)) HE.out.symm,hB3⟩
 | true=>
 by_cases h8:m=0
 case neg=>
  have h8a:(m !=0)=true:=by simpa using h8
  have HE:=Hd (show colF m ⟨nm,3,wd,pl,fo,ri,fi,ne⟩ (List.take i fs)=0 by unfold colF;simp [hNB.out,HAB.out,H4.out,HFW.out.2,hIB.out,h8])
  clear h8
  go_wp2
  go_ret
  exact ⟨congrArg (fun v=>Ending.returned (Value.int .i64 v)) HE.out.symm,hB3⟩
 subst h8
 obtain ⟨FW,hFW⟩:=ex_ (widF fo)
 have HWO:=Hd (fun w=>widthof_c fo w)
 rw [hFW] at HWO
 have HF0:=Hd (show ¬ FW=0 by rw [<- hFW,<- HFW.out.1];exact HFW.out.2)
 have hFW:=Hd (show formW fo=FW by rw [HFW.out.1,hFW])
 by_cases h9:wd=FW
 ·subst h9
  have h9a:(wd !=wd)=false:=by simp
  have HE:=Hd (show colF 0 ⟨nm,3,wd,pl,fo,ri,fi,ne⟩ (List.take i fs)=0 by unfold colF;simp [hNB.out,HAB.out,H4.out,hIB.out,HF0.out,hFW.out])
  go_wp2_with fail
  go_quiet ((go_at_call 164;exact Calls.quiet_of_same (fflip (HWO.out _))))
  go_wp2
  go_ret
  exact ⟨congrArg (fun v=>Ending.returned (Value.int .i64 v)) HE.out.symm,below_drewN hB3 _⟩
 have h9a:(wd !=FW)=true:=by simpa using h9
 have HE:=Hd (show colF 0 ⟨nm,3,wd,pl,fo,ri,fi,ne⟩ (List.take i fs)=12 by unfold colF;simp [hNB.out,HAB.out,H4.out,hIB.out,HF0.out,hFW.out,h9])
 clear h9
 go_wp2_with fail
 go_quiet ((go_at_call 164;exact Calls.quiet_of_same (fflip (HWO.out _))))
 go_wp2
 go_ret
 exact ⟨congrArg (fun v=>Ending.returned (Value.int .i64 v)) HE.out.symm,below_drewN hB3 _⟩
theorem rcol_txt (f:Fmt) (A:Option Addr) (c:Nat) (k:RKd) (BA:Option Addr) (bc i:Nat) (w0:World) (hsn:∀ x∈k.fields,x.name.size<=9223372036854775807) (hNm:k.fields.length<=9223372036854775807) (hbc:k.fields.length<=bc) (hB:Cols w0 BA k.fields) (hi:i<k.fields.length) (hk:(cA k.fields i).kind=1) :
  Calls Tryz.prog 99 #[fmtG f A c,QaO k BA bc,.int .i64 (i:Int)] w0 (RetI (colF f.mark (cA k.fields i) (k.fields.take i)) w0):=by
 obtain ⟨m,q,ks,hd,tl,ct,sm⟩:=f
 obtain ⟨tg,fs,ms,un⟩:=k
 unfold fmtG QaO
 simp only at *
 obtain ⟨B,off,rfl,hbw,x0,x1,x2,x3,x4,x5,x6,x7⟩:=hB.cells hi
 have hs:(cA fs i).name.size<=9223372036854775807:=hsn _ (by rw [<- Qbr hi];exact List.getElem_mem _)
 obtain ⟨xx,hx⟩:=ex_ (cA fs i)
 have HX:=Hd hx
 rw [hx] at hk x0 x1 x2 x3 x4 x5 x6 x7 hs ⊢
 clear hx hsn
 obtain ⟨nm,kd,wd,pl,fo,ri,fi,ne⟩:=xx
 simp only at hk x0 x1 x2 x3 x4 x5 x6 x7 hs
 subst hk
 have HN:=Hd (fun w=>risname2_c nm w hs)
 have HCO:=Hd (fun w (h:Cols w (some ⟨B,off,none⟩) fs)=>QbQ ⟨tg,fs,ms,un⟩ (some ⟨B,off,none⟩) bc nm w h)
 unfold QaO at HCO
 simp only at HCO
 obtain ⟨NB,hNB⟩:=ex_ (Qbt nm.data.toList)
 obtain ⟨IX,hIX⟩:=ex_ (ixF (Qaj nm) fs)
 obtain ⟨IB,hIB⟩:=ex_ (QaA m ⟨nm,1,wd,pl,fo,ri,fi,ne⟩)
 obtain ⟨N,hN⟩:=ex_ (fs.length)
 obtain ⟨NK,hNK⟩:=ex_ (List.length ks)
 have HTK:=Hd (show (IX=(i:Int))↔(List.take i fs).any (Qaj nm)=false by
  rw [<- hIX]
  exact ixF_take hi (by rw [Qbr hi,HX.out];exact decide_eq_true rfl))
 rw [hNB] at HN
 rw [hIX,hN] at HCO
 rw [hN] at hi hbc hNm ⊢
 rw [hNK]
 have hNB:=Hd hNB;have hIB:=Hd hIB;have HNN:=Hd hN
 have HBC:=Hd hB
 clear hB hN hNK hIX
 go_enter Tryz.func99,Tryz.ntmps99
 go_wp2_with fail
 have HF:=Hd (Qad (Qad (Qac w0 (.cells #[.int .u8 m,.int .u8 q,.slice A NK c,.string hd,.string tl,.string ct,.string sm] 24) rfl) (.cells #[.string tg,.slice (some ⟨B,off,none⟩) N bc,.int .i64 ms,.string un] 52)) (.cells #[.string nm,.int .i64 1,.int .i64 wd,.int .i64 pl,.int .i64 fo,.bool ri,.int .u8 fi,.bool ne] 60))
 have HK:=Hd (Qad (Qac (w0.alloc (.cells #[.int .u8 m,.int .u8 q,.slice A NK c,.string hd,.string tl,.string ct,.string sm] 24)) (.cells #[.string tg,.slice (some ⟨B,off,none⟩) N bc,.int .i64 ms,.string un] 52) (g:=w0.heap.size+1) (by simp)) (.cells #[.string nm,.int .i64 1,.int .i64 wd,.int .i64 pl,.int .i64 fo,.bool ri,.int .u8 fi,.bool ne] 60))
 have HC:=Hd (Qac ((w0.alloc (.cells #[.int .u8 m,.int .u8 q,.slice A NK c,.string hd,.string tl,.string ct,.string sm] 24)).alloc (.cells #[.string tg,.slice (some ⟨B,off,none⟩) N bc,.int .i64 ms,.string un] 52)) (.cells #[.string nm,.int .i64 1,.int .i64 wd,.int .i64 pl,.int .i64 fo,.bool ri,.int .u8 fi,.bool ne] 60) (g:=w0.heap.size+1+1) (by simp))
 have hB1:Below w0.heap.size w0 (((w0.alloc (.cells #[.int .u8 m,.int .u8 q,.slice A NK c,.string hd,.string tl,.string ct,.string sm] 24)).alloc (.cells #[.string tg,.slice (some ⟨B,off,none⟩) N bc,.int .i64 ms,.string un] 52)).alloc (.cells #[.string nm,.int .i64 1,.int .i64 wd,.int .i64 pl,.int .i64 fo,.bool ri,.int .u8 fi,.bool ne] 60)):=by go_grown
 clear x0 x1 x2 x3 x4 x5 x6 x7 hbw
 generalize ((w0.alloc (.cells #[.int .u8 m,.int .u8 q,.slice A NK c,.string hd,.string tl,.string ct,.string sm] 24)).alloc (.cells #[.string tg,.slice (some ⟨B,off,none⟩) N bc,.int .i64 ms,.string un] 52)).alloc (.cells #[.string nm,.int .i64 1,.int .i64 wd,.int .i64 pl,.int .i64 fo,.bool ri,.int .u8 fi,.bool ne] 60)=w1 at HF HK HC hB1 ⊢
 obtain ⟨⟨f0,f1,f2,f3,f4,f5,f6⟩,f7⟩:=Qai HF.out
 obtain ⟨⟨k0,k1,k2,k3⟩,-,k5⟩:=Qaw HK.out
 obtain ⟨⟨c0,c1,c2,c3,c4,c5,c6,c7⟩,c8⟩:=QaC HC.out
 refine (HN.out _).mono ?_
 rintro e w2 ⟨rfl,hb2⟩
 have hF2:=Qaa HF.out hb2
 have hK2:=Qaa HK.out hb2
 have hC2:=Qaa HC.out hb2
 have hB2:=Qab hb2 hB1 hB1.size
 clear f0 f1 f2 f3 f4 f5 f6 f7 k0 k1 k2 k3 k5 c0 c1 c2 c3 c4 c5 c6 c7 c8
 clear HF HK HC
 have HF:=Hd hF2;have HK:=Hd hK2;have HC:=Hd hC2
 clear hF2 hK2 hC2 hb2
 obtain ⟨⟨f0,f1,f2,f3,f4,f5,f6⟩,f7⟩:=Qai HF.out
 obtain ⟨⟨k0,k1,k2,k3⟩,-,k5⟩:=Qaw HK.out
 obtain ⟨⟨c0,c1,c2,c3,c4,c5,c6,c7⟩,c8⟩:=QaC HC.out
 cases NB with
 | false=>
  have HE:=Hd (show colF m ⟨nm,1,wd,pl,fo,ri,fi,ne⟩ (List.take i fs)=5 by unfold colF;simp [hNB.out])
  go_wp2
  go_ret
  exact ⟨congrArg (fun v=>Ending.returned (Value.int .i64 v)) HE.out.symm,hB2⟩
 | true=>
 go_wp2_with fail
 refine (HCO.out _ (HBC.out.below hB2)).mono ?_
 rintro e w3 ⟨rfl,hb3⟩
 have hF3:=Qaa HF.out hb3
 have hK3:=Qaa HK.out hb3
 have hC3:=Qaa HC.out hb3
 have hB3:=Qab hb3 hB2 hB2.size
 clear f0 f1 f2 f3 f4 f5 f6 f7 k0 k1 k2 k3 k5 c0 c1 c2 c3 c4 c5 c6 c7 c8
 clear HF HK HC
 have HF:=Hd hF3;have HK:=Hd hK3;have HC:=Hd hC3
 clear hF3 hK3 hC3 hb3
 obtain ⟨⟨f0,f1,f2,f3,f4,f5,f6⟩,f7⟩:=Qai HF.out
 obtain ⟨⟨k0,k1,k2,k3⟩,-,k5⟩:=Qaw HK.out
 obtain ⟨⟨c0,c1,c2,c3,c4,c5,c6,c7⟩,c8⟩:=QaC HC.out
 by_cases hix:IX=(i:Int)
 case neg=>
  have hab:(List.take i fs).any (Qaj nm)=true:=by
   cases h:(List.take i fs).any (Qaj nm) with
   | true=>rfl
   | false=>exact absurd (HTK.out.2 h) hix
  have HE:=Hd (show colF m ⟨nm,1,wd,pl,fo,ri,fi,ne⟩ (List.take i fs)=7 by unfold colF;simp [hNB.out,hab])
  have hixa:(IX !=(i:Int))=true:=by simpa using hix
  clear hix hab
  go_wp2
  go_ret
  exact ⟨congrArg (fun v=>Ending.returned (Value.int .i64 v)) HE.out.symm,hB3⟩
 have HAB:=Hd (HTK.out.1 hix)
 have hixa:(IX !=(i:Int))=false:=by simpa using hix
 clear hix
 have HO:=Hd (fun w=>QaB 1 1 3 w)
 rw [decide_eq_true (show (1:Int)<=1/\(1:Int)<=3 by decide)] at HO
 go_wp2_with fail
 refine (HO.out _).mono ?_
 rintro e w9 ⟨rfl,rfl⟩
 clear HO
 by_cases h4:1<=wd/\wd<=100
 case neg=>
  have HE:=Hd (show colF m ⟨nm,1,wd,pl,fo,ri,fi,ne⟩ (List.take i fs)=1 by unfold colF;simp [hNB.out,HAB.out,h4])
  have HO:=Hd (fun w=>QaB wd 1 100 w)
  rw [decide_eq_false h4] at HO
  clear h4
  go_wp2_with fail
  refine (HO.out _).mono ?_
  rintro e w9 ⟨rfl,rfl⟩
  go_wp2
  go_ret
  exact ⟨congrArg (fun v=>Ending.returned (Value.int .i64 v)) HE.out.symm,hB3⟩
 have HO:=Hd (fun w=>QaB wd 1 100 w)
 rw [decide_eq_true h4] at HO
 have H4:=Hd h4
 clear h4
 go_wp2_with fail
 refine (HO.out _).mono ?_
 rintro e w9 ⟨rfl,rfl⟩
 clear HO
 go_upto_region 14 with fail
 go_cut [96] (fun v wx=>v=.bool (!IB)/\w3=wx)
 case first=>
  by_cases j0:pl=0
  case neg=>
   have e0:(pl !=0)=true:=by simpa using j0
   have eI:IB=false:=by rw [<- hIB.out];unfold QaA;simp [j0]
   subst eI
   clear j0
   go_wp2_with fail
   go_meet
   exact ⟨rfl,rfl⟩
  have e0:(pl !=0)=false:=by simpa using j0
  by_cases j1:fo=0
  case neg=>
   have e1:(fo !=0)=true:=by simpa using j1
   have eI:IB=false:=by rw [<- hIB.out];unfold QaA;simp [j0,j1]
   subst eI
   clear j0 j1
   go_wp2_with fail
   go_meet
   exact ⟨rfl,rfl⟩
  have e1:(fo !=0)=false:=by simpa using j1
  by_cases j2:m=0
  ·have e2:(m !=0)=false:=by simpa using j2
   have eI:IB=true:=by rw [<- hIB.out];unfold QaA;simp [j0,j1,j2]
   subst eI
   clear j0 j1 j2
   go_wp2_with fail
   go_meet
   exact ⟨rfl,rfl⟩
  have e2:(m !=0)=true:=by simpa using j2
  cases ri with
  | true=>
   have eI:IB=false:=by rw [<- hIB.out];unfold QaA;simp [j0,j1,j2]
   subst eI
   clear j0 j1 j2
   go_wp2_with fail
   go_meet
   exact ⟨rfl,rfl⟩
  | false=>
   by_cases j4:fi=0
   ·have e4:(fi !=0)=false:=by simpa using j4
    have eI:IB=true:=by rw [<- hIB.out];unfold QaA;simp [j0,j1,j2,j4]
    subst eI
    clear j0 j1 j2 j4
    go_wp2_with fail
    go_meet
    exact ⟨rfl,rfl⟩
   ·have e4:(fi !=0)=true:=by simpa using j4
    have eI:IB=false:=by rw [<- hIB.out];unfold QaA;simp [j0,j1,j2,j4]
    subst eI
    clear j0 j1 j2 j4
    go_wp2_with fail
    go_meet
    exact ⟨rfl,rfl⟩
 case rest=>
 obtain ⟨rfl,rfl⟩:=hcut
 cases IB with
 | false=>
  have HE:=Hd (show colF m ⟨nm,1,wd,pl,fo,ri,fi,ne⟩ (List.take i fs)=3 by unfold colF;simp [hNB.out,HAB.out,H4.out,hIB.out])
  go_wp2
  go_ret
  exact ⟨congrArg (fun v=>Ending.returned (Value.int .i64 v)) HE.out.symm,hB3⟩
 | true=>
 by_cases h8:m=0
 case neg=>
  have h8a:(m !=0)=true:=by simpa using h8
  have HE:=Hd (show colF m ⟨nm,1,wd,pl,fo,ri,fi,ne⟩ (List.take i fs)=0 by unfold colF;simp [hNB.out,HAB.out,H4.out,hIB.out,h8])
  clear h8
  go_wp2
  go_ret
  exact ⟨congrArg (fun v=>Ending.returned (Value.int .i64 v)) HE.out.symm,hB3⟩
 subst h8
 by_cases h9:fi=32
 ·subst h9
  have HE:=Hd (show colF 0 ⟨nm,1,wd,pl,fo,ri,32,ne⟩ (List.take i fs)=0 by unfold colF;simp [hNB.out,HAB.out,H4.out,hIB.out])
  go_wp2
  go_ret
  exact ⟨congrArg (fun v=>Ending.returned (Value.int .i64 v)) HE.out.symm,hB3⟩
 have h9a:(fi !=32)=true:=by simpa using h9
 have HE:=Hd (show colF 0 ⟨nm,1,wd,pl,fo,ri,fi,ne⟩ (List.take i fs)=3 by unfold colF;simp [hNB.out,HAB.out,H4.out,hIB.out,h9])
 clear h9
 go_wp2
 go_ret
 exact ⟨congrArg (fun v=>Ending.returned (Value.int .i64 v)) HE.out.symm,hB3⟩
theorem rcol_oth (f:Fmt) (A:Option Addr) (c:Nat) (k:RKd) (BA:Option Addr) (bc i:Nat) (w0:World) (hsn:∀ x∈k.fields,x.name.size<=9223372036854775807) (hNm:k.fields.length<=9223372036854775807) (hbc:k.fields.length<=bc) (hB:Cols w0 BA k.fields) (hi:i<k.fields.length) (hk:¬ (1<=(cA k.fields i).kind/\(cA k.fields i).kind<=3)) :
  Calls Tryz.prog 99 #[fmtG f A c,QaO k BA bc,.int .i64 (i:Int)] w0 (RetI (colF f.mark (cA k.fields i) (k.fields.take i)) w0):=by
 obtain ⟨m,q,ks,hd,tl,ct,sm⟩:=f
 obtain ⟨tg,fs,ms,un⟩:=k
 unfold fmtG QaO
 simp only at *
 obtain ⟨B,off,rfl,hbw,x0,x1,x2,x3,x4,x5,x6,x7⟩:=hB.cells hi
 have hs:(cA fs i).name.size<=9223372036854775807:=hsn _ (by rw [<- Qbr hi];exact List.getElem_mem _)
 obtain ⟨xx,hx⟩:=ex_ (cA fs i)
 have HX:=Hd hx
 rw [hx] at hk x0 x1 x2 x3 x4 x5 x6 x7 hs ⊢
 clear hx hsn
 obtain ⟨nm,kd,wd,pl,fo,ri,fi,ne⟩:=xx
 simp only at hk x0 x1 x2 x3 x4 x5 x6 x7 hs
 have HK3:=Hd hk
 clear hk
 have HN:=Hd (fun w=>risname2_c nm w hs)
 have HCO:=Hd (fun w (h:Cols w (some ⟨B,off,none⟩) fs)=>QbQ ⟨tg,fs,ms,un⟩ (some ⟨B,off,none⟩) bc nm w h)
 unfold QaO at HCO
 simp only at HCO
 obtain ⟨NB,hNB⟩:=ex_ (Qbt nm.data.toList)
 obtain ⟨IX,hIX⟩:=ex_ (ixF (Qaj nm) fs)
 obtain ⟨IB,hIB⟩:=ex_ (QaA m ⟨nm,kd,wd,pl,fo,ri,fi,ne⟩)
 obtain ⟨N,hN⟩:=ex_ (fs.length)
 obtain ⟨NK,hNK⟩:=ex_ (List.length ks)
 have HTK:=Hd (show (IX=(i:Int))↔(List.take i fs).any (Qaj nm)=false by
  rw [<- hIX]
  exact ixF_take hi (by rw [Qbr hi,HX.out];exact decide_eq_true rfl))
 rw [hNB] at HN
 rw [hIX,hN] at HCO
 rw [hN] at hi hbc hNm ⊢
 rw [hNK]
 have hNB:=Hd hNB;have hIB:=Hd hIB;have HNN:=Hd hN
 have HBC:=Hd hB
 clear hB hN hNK hIX
 go_enter Tryz.func99,Tryz.ntmps99
 go_wp2_with fail
 have HF:=Hd (Qad (Qad (Qac w0 (.cells #[.int .u8 m,.int .u8 q,.slice A NK c,.string hd,.string tl,.string ct,.string sm] 24) rfl) (.cells #[.string tg,.slice (some ⟨B,off,none⟩) N bc,.int .i64 ms,.string un] 52)) (.cells #[.string nm,.int .i64 kd,.int .i64 wd,.int .i64 pl,.int .i64 fo,.bool ri,.int .u8 fi,.bool ne] 60))
 have HK:=Hd (Qad (Qac (w0.alloc (.cells #[.int .u8 m,.int .u8 q,.slice A NK c,.string hd,.string tl,.string ct,.string sm] 24)) (.cells #[.string tg,.slice (some ⟨B,off,none⟩) N bc,.int .i64 ms,.string un] 52) (g:=w0.heap.size+1) (by simp)) (.cells #[.string nm,.int .i64 kd,.int .i64 wd,.int .i64 pl,.int .i64 fo,.bool ri,.int .u8 fi,.bool ne] 60))
 have HC:=Hd (Qac ((w0.alloc (.cells #[.int .u8 m,.int .u8 q,.slice A NK c,.string hd,.string tl,.string ct,.string sm] 24)).alloc (.cells #[.string tg,.slice (some ⟨B,off,none⟩) N bc,.int .i64 ms,.string un] 52)) (.cells #[.string nm,.int .i64 kd,.int .i64 wd,.int .i64 pl,.int .i64 fo,.bool ri,.int .u8 fi,.bool ne] 60) (g:=w0.heap.size+1+1) (by simp))
 have hB1:Below w0.heap.size w0 (((w0.alloc (.cells #[.int .u8 m,.int .u8 q,.slice A NK c,.string hd,.string tl,.string ct,.string sm] 24)).alloc (.cells #[.string tg,.slice (some ⟨B,off,none⟩) N bc,.int .i64 ms,.string un] 52)).alloc (.cells #[.string nm,.int .i64 kd,.int .i64 wd,.int .i64 pl,.int .i64 fo,.bool ri,.int .u8 fi,.bool ne] 60)):=by go_grown
 clear x0 x1 x2 x3 x4 x5 x6 x7 hbw
 generalize ((w0.alloc (.cells #[.int .u8 m,.int .u8 q,.slice A NK c,.string hd,.string tl,.string ct,.string sm] 24)).alloc (.cells #[.string tg,.slice (some ⟨B,off,none⟩) N bc,.int .i64 ms,.string un] 52)).alloc (.cells #[.string nm,.int .i64 kd,.int .i64 wd,.int .i64 pl,.int .i64 fo,.bool ri,.int .u8 fi,.bool ne] 60)=w1 at HF HK HC hB1 ⊢
 obtain ⟨⟨f0,f1,f2,f3,f4,f5,f6⟩,f7⟩:=Qai HF.out
 obtain ⟨⟨k0,k1,k2,k3⟩,-,k5⟩:=Qaw HK.out
 obtain ⟨⟨c0,c1,c2,c3,c4,c5,c6,c7⟩,c8⟩:=QaC HC.out
 refine (HN.out _).mono ?_
 rintro e w2 ⟨rfl,hb2⟩
 have hF2:=Qaa HF.out hb2
 have hK2:=Qaa HK.out hb2
 have hC2:=Qaa HC.out hb2
 have hB2:=Qab hb2 hB1 hB1.size
 clear f0 f1 f2 f3 f4 f5 f6 f7 k0 k1 k2 k3 k5 c0 c1 c2 c3 c4 c5 c6 c7 c8
 clear HF HK HC
 have HF:=Hd hF2;have HK:=Hd hK2;have HC:=Hd hC2
 clear hF2 hK2 hC2 hb2
 obtain ⟨⟨f0,f1,f2,f3,f4,f5,f6⟩,f7⟩:=Qai HF.out
 obtain ⟨⟨k0,k1,k2,k3⟩,-,k5⟩:=Qaw HK.out
 obtain ⟨⟨c0,c1,c2,c3,c4,c5,c6,c7⟩,c8⟩:=QaC HC.out
 cases NB with
 | false=>
  have HE:=Hd (show colF m ⟨nm,kd,wd,pl,fo,ri,fi,ne⟩ (List.take i fs)=5 by unfold colF;simp [hNB.out])
  go_wp2
  go_ret
  exact ⟨congrArg (fun v=>Ending.returned (Value.int .i64 v)) HE.out.symm,hB2⟩
 | true=>
 go_wp2_with fail
 refine (HCO.out _ (HBC.out.below hB2)).mono ?_
 rintro e w3 ⟨rfl,hb3⟩
 have hF3:=Qaa HF.out hb3
 have hK3:=Qaa HK.out hb3
 have hC3:=Qaa HC.out hb3
 have hB3:=Qab hb3 hB2 hB2.size
 clear f0 f1 f2 f3 f4 f5 f6 f7 k0 k1 k2 k3 k5 c0 c1 c2 c3 c4 c5 c6 c7 c8
 clear HF HK HC
 have HF:=Hd hF3;have HK:=Hd hK3;have HC:=Hd hC3
 clear hF3 hK3 hC3 hb3
 obtain ⟨⟨f0,f1,f2,f3,f4,f5,f6⟩,f7⟩:=Qai HF.out
 obtain ⟨⟨k0,k1,k2,k3⟩,-,k5⟩:=Qaw HK.out
 obtain ⟨⟨c0,c1,c2,c3,c4,c5,c6,c7⟩,c8⟩:=QaC HC.out
 by_cases hix:IX=(i:Int)
 case neg=>
  have hab:(List.take i fs).any (Qaj nm)=true:=by
   cases h:(List.take i fs).any (Qaj nm) with
   | true=>rfl
   | false=>exact absurd (HTK.out.2 h) hix
  have HE:=Hd (show colF m ⟨nm,kd,wd,pl,fo,ri,fi,ne⟩ (List.take i fs)=7 by unfold colF;simp [hNB.out,hab])
  have hixa:(IX !=(i:Int))=true:=by simpa using hix
  clear hix hab
  go_wp2
  go_ret
  exact ⟨congrArg (fun v=>Ending.returned (Value.int .i64 v)) HE.out.symm,hB3⟩
 have HAB:=Hd (HTK.out.1 hix)
 have hixa:(IX !=(i:Int))=false:=by simpa using hix
 clear hix
 have HO:=Hd (fun w=>QaB kd 1 3 w)
 rw [decide_eq_false HK3.out] at HO
 have HE:=Hd (show colF m ⟨nm,kd,wd,pl,fo,ri,fi,ne⟩ (List.take i fs)=4 by unfold colF;simp [hNB.out,HAB.out,HK3.out])
 go_wp2_with fail
 refine (HO.out _).mono ?_
 rintro e w9 ⟨rfl,rfl⟩
 go_wp2
 go_ret
 exact ⟨congrArg (fun v=>Ending.returned (Value.int .i64 v)) HE.out.symm,hB3⟩
theorem rcol_c (f:Fmt) (A:Option Addr) (c:Nat) (k:RKd) (BA:Option Addr) (bc i:Nat) (w0:World) (hsn:∀ x∈k.fields,x.name.size<=9223372036854775807) (hNm:k.fields.length<=9223372036854775807) (hbc:k.fields.length<=bc) (hB:Cols w0 BA k.fields) (hi:i<k.fields.length) :
  Calls Tryz.prog 99 #[fmtG f A c,QaO k BA bc,.int .i64 (i:Int)] w0 (RetI (colF f.mark (cA k.fields i) (k.fields.take i)) w0):=by
 by_cases h1:(cA k.fields i).kind=2
 ·exact rcol_num f A c k BA bc i w0 hsn hNm hbc hB hi h1
 by_cases h2:(cA k.fields i).kind=3
 ·exact rcol_day f A c k BA bc i w0 hsn hNm hbc hB hi h2
 by_cases h3:(cA k.fields i).kind=1
 ·exact rcol_txt f A c k BA bc i w0 hsn hNm hbc hB hi h3
 exact rcol_oth f A c k BA bc i w0 hsn hNm hbc hB hi (by omega)
end Go.Proofs.YtaiabjiehpcaoaaGreatDoor
