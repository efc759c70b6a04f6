
/- The walk of the reference's CheckFormat. (Printed by genG5.py.) -/
import Derived.Test.YtaiabjiehpcaoaaGreatDoorG4
set_option maxHeartbeats 4000000
set_option maxRecDepth 100000
namespace Go.Proofs.YtaiabjiehpcaoaaGreatDoor
open Go.RowKit Limb Nmb Work
set_option linter.unusedVariables false
set_option linter.unusedSimpArgs false
theorem rcheck_c (f:Fmt) (A:Option Addr) (c:Nat) (FA:Nat->Option Addr) (FC:Nat->Nat) (w0:World) (ho:Kinds w0 A f.kinds FA FC) (hc:f.kinds.length<=c) (hm:0<=f.mark/\f.mark<=255) (hq:0<=f.quote/\f.quote<=255) :
  Calls Tryz.prog 24 #[fmtG f A c] w0 (RetI (Qao f) w0):=by
 have HKO:=Hd (fun t w (h:Kinds w A f.kinds FA FC)=>Qbg f A c FA FC t w h)
 have HKF:=Hd (fun i w (h:Kinds w A f.kinds FA FC) hi=>rkind_c f A c FA FC i w h hi hc)
 have HIC:=Hd (fun nm pb w (h:Kinds w A f.kinds FA FC) ht=>iscount_c f A c FA FC nm pb w h hc ht)
 have hn:=ho.1.2
 have HO:=Hd ho
 obtain ⟨m,q,ks,hd,tl,ct,sm⟩:=f
 unfold fmtG at HKO HKF HIC ⊢
 simp only at *
 obtain ⟨n,hnn⟩:=ex_ (ks.length)
 have HN:=Hd hnn
 rw [hnn] at HKO HKF HIC hn hc ⊢
 have HM:=Hd (fun w=>ismark_c m w hm)
 have HQ:=Hd (fun w=>ismark_c q w hq)
 obtain ⟨BM,hBM⟩:=ex_ (QaR m)
 obtain ⟨BQ,hBQ⟩:=ex_ (QaR q)
 rw [hBM] at HM
 rw [hBQ] at HQ
 obtain ⟨D1,hD1⟩:=ex_ (decide (QaE m q=12))
 have HD1:=Hd hD1
 have HBM:=Hd hBM;have HBQ:=Hd hBQ
 have HF:=Hd (Qac w0 (.cells #[.int .u8 m,.int .u8 q,.slice A n c,.string hd,.string tl,.string ct,.string sm] 24) rfl)
 have hB1:Below w0.heap.size w0 (w0.alloc (.cells #[.int .u8 m,.int .u8 q,.slice A n c,.string hd,.string tl,.string ct,.string sm] 24)):=by go_grown
 clear ho hnn hm hq hBM hBQ
 go_enter Tryz.func24,Tryz.ntmps24
 go_upto_region 1 with fail
 generalize w0.alloc (.cells #[.int .u8 m,.int .u8 q,.slice A n c,.string hd,.string tl,.string ct,.string sm] 24)=w1 at HF hB1 ⊢
 obtain ⟨⟨f0,f1,f2,f3,f4,f5,f6⟩,f7⟩:=Qai HF.out
 go_cut [5] (fun v wx=>v=.bool D1/\w1=wx)
 case first=>
  by_cases h0:m=0
  ·have k0:(m !=0)=false:=by simpa using h0
   have e:D1=false:=by
    rw [<- hD1];unfold QaE
    rw [if_neg (fun h=>h.1 h0)]
    split<;>rfl
   subst e
   clear hD1 h0
   go_wp2_with fail
   go_meet
   exact ⟨rfl,rfl⟩
  have k0:(m !=0)=true:=by simpa using h0
  cases BM with
  | true=>
   have e:D1=true:=by
    rw [<- hD1];unfold QaE
    rw [if_pos ⟨h0,.inl HBM.out⟩];rfl
   subst e
   clear hD1 h0
   go_wp2_with fail
   refine (HM.out _).mono ?_
   rintro e w9 ⟨rfl,rfl⟩
   go_wp2_with fail
   go_meet
   exact ⟨rfl,rfl⟩
  | false=>
   by_cases h1:q=0
   ·have k1:(q !=0)=false:=by simpa using h1
    have h2:¬ m=q:=fun h=>h0 (h.trans h1)
    have k2:(m==q)=false:=by simpa using h2
    have e:D1=false:=by
     rw [<- hD1];unfold QaE
     rw [if_neg (fun h=>by
      rcases h.2 with h | h | h
      ·rw [HBM.out] at h;cases h
      ·exact h.1 h1
      ·exact h2 h)]
     split<;>rfl
    subst e
    clear hD1 h0 h1 h2
    go_wp2_with fail
    refine (HM.out _).mono ?_
    rintro e w9 ⟨rfl,rfl⟩
    go_wp2_with fail
    go_meet
    exact ⟨rfl,rfl⟩
   have k1:(q !=0)=true:=by simpa using h1
   cases BQ with
   | true=>
    have e:D1=true:=by
     rw [<- hD1];unfold QaE
     rw [if_pos ⟨h0,.inr (.inl ⟨h1,HBQ.out⟩)⟩];rfl
    subst e
    clear hD1 h0 h1
    go_wp2_with fail
    refine (HM.out _).mono ?_
    rintro e w9 ⟨rfl,rfl⟩
    go_wp2_with fail
    refine (HQ.out _).mono ?_
    rintro e w9 ⟨rfl,rfl⟩
    go_wp2_with fail
    go_meet
    exact ⟨rfl,rfl⟩
   | false=>
    by_cases h2:m=q
    ·have k2:(m==q)=true:=by simpa using h2
     have e:D1=true:=by
      rw [<- hD1];unfold QaE
      rw [if_pos ⟨h0,.inr (.inr h2)⟩];rfl
     subst e
     clear hD1 h0 h1 h2
     go_wp2_with fail
     refine (HM.out _).mono ?_
     rintro e w9 ⟨rfl,rfl⟩
     go_wp2_with fail
     refine (HQ.out _).mono ?_
     rintro e w9 ⟨rfl,rfl⟩
     go_wp2_with fail
     go_meet
     exact ⟨rfl,rfl⟩
    ·have k2:(m==q)=false:=by simpa using h2
     have e:D1=false:=by
      rw [<- hD1];unfold QaE
      rw [if_neg (fun h=>by
       rcases h.2 with h | h | h
       ·rw [HBM.out] at h;cases h
       ·rw [HBQ.out] at h;cases h.2
       ·exact h2 h)]
      split<;>rfl
     subst e
     clear hD1 h0 h1 h2
     go_wp2_with fail
     refine (HM.out _).mono ?_
     rintro e w9 ⟨rfl,rfl⟩
     go_wp2_with fail
     refine (HQ.out _).mono ?_
     rintro e w9 ⟨rfl,rfl⟩
     go_wp2_with fail
     go_meet
     exact ⟨rfl,rfl⟩
 case rest=>
 obtain ⟨rfl,rfl⟩:=hcut
 clear hD1 HM HQ HBM HBQ
 have HMK:=Hd (show QaE m q=12∨QaE m q=3∨QaE m q=0 by unfold QaE;split;exact .inl rfl;split;exact .inr (.inl rfl);exact .inr (.inr rfl))
 cases D1 with
 | true=>
  have HE:=Hd (show Qao ⟨m,q,ks,hd,tl,ct,sm⟩=12 by
   have:=of_decide_eq_true HD1.out
   unfold Qao;simp only;rw [this,if_pos (by decide)])
  go_wp2
  go_ret
  exact ⟨congrArg (fun v=>Ending.returned (Value.int .i64 v)) HE.out.symm,hB1⟩
 | false=>
 by_cases h3:m=0/\q≠0
 ·have HE:=Hd (show Qao ⟨m,q,ks,hd,tl,ct,sm⟩=3 by
   have:QaE m q=3:=by unfold QaE;rw [if_neg (fun h=>h.1 h3.1),if_pos h3]
   unfold Qao;simp only;rw [this,if_pos (by decide)])
  obtain ⟨h3,h4⟩:=h3
  subst h3
  have k4:(q !=0)=true:=by simpa using h4
  clear h4
  go_wp2
  go_ret
  exact ⟨congrArg (fun v=>Ending.returned (Value.int .i64 v)) HE.out.symm,hB1⟩
 have HM0:=Hd (show QaE m q=0 by
  have h1:=of_decide_eq_false HD1.out
  unfold QaE at h1 ⊢
  by_cases h4:m≠0/\(QaR m=true∨q≠0/\QaR q=true∨m=q)
  ·rw [if_pos h4] at h1;exact absurd rfl h1
  ·rw [if_neg h4,if_neg h3])
 go_upto_region 3 with fail
 go_cut [33] (fun v wx=>v=.bool false/\w1=wx)
 case first=>
  by_cases h4:m=0
  ·have k0:(m==0)=true:=by simpa using h4
   have k1:(q !=0)=false:=by
    have:q=0:=Classical.byContradiction fun e=>h3 ⟨h4,e⟩
    simpa using this
   clear h3 h4
   go_wp2_with fail
   go_meet
   exact ⟨rfl,rfl⟩
  ·have k0:(m==0)=false:=by simpa using h4
   clear h3 h4
   go_wp2_with fail
   go_meet
   exact ⟨rfl,rfl⟩
 case rest=>
 obtain ⟨rfl,rfl⟩:=hcut
 clear h3
 by_cases h2:n=0
 ·subst h2
  have HE:=Hd (show Qao ⟨m,q,ks,hd,tl,ct,sm⟩=9 by unfold Qao;simp only;rw [HM0.out,if_neg (by decide),if_pos HN.out])
  go_wp2
  go_ret
  exact ⟨congrArg (fun v=>Ending.returned (Value.int .i64 v)) HE.out.symm,hB1⟩
 have h2a:((n:Int)==0)=false:=by
  have:¬ (n:Int)=0:=by omega
  simpa using this
 by_cases h3:30<n
 ·have HE:=Hd (show Qao ⟨m,q,ks,hd,tl,ct,sm⟩=2 by unfold Qao;simp only;rw [HM0.out,if_neg (by decide),HN.out,if_neg h2,if_pos h3])
  have h3a:(30:Int)<(n:Int):=by omega
  clear h2 h3
  go_wp2
  go_ret
  exact ⟨congrArg (fun v=>Ending.returned (Value.int .i64 v)) HE.out.symm,hB1⟩
 have h3a:¬ (30:Int)<(n:Int):=by omega
 obtain ⟨EF,hEF⟩:=ex_ (Qbj ⟨m,q,ks,hd,tl,ct,sm⟩)
 have HEF:=Hd hEF
 have HK:=Hd (show ∀ x,fstF (Qax m ks) n=x->Qao ⟨m,q,ks,hd,tl,ct,sm⟩=if x≠0 then x else EF by
  intro x hx
  unfold Qao
  simp only
  rw [HM0.out,if_neg (by decide),HN.out,if_neg h2,if_neg h3,hx,HEF.out])
 have hn30:n<=30:=by omega
 clear h2 h3 hEF
 go_wp2_with fail
 go_loopw [55] (fun i wr=>∃ j:Nat,j<=n/\i=.int .i64 j/\Hid (wr.heap[w0.heap.size]?=some (.cells #[.int .u8 m,.int .u8 q,.slice A n c,.string hd,.string tl,.string ct,.string sm] 24 (0,0)))/\Below w0.heap.size w0 wr/\Hid (∀ t,t<j->Qax m ks t=0)) (fun i _=>n-(intOf i).toNat)
 case atStart=>exact ⟨0,Nat.zero_le _,rfl,HF,hB1,Hd (fun t h=>absurd h (Nat.not_lt_zero _))⟩
 case round=>
  clear f0 f1 f2 f3 f4 f5 f6 f7
  clear HF
  obtain ⟨j,hj,rfl,HF,hB5,HJ⟩:=hrel
  obtain ⟨⟨f0,f1,f2,f3,f4,f5,f6⟩,f7⟩:=Qai HF.out
  rcases Nat.lt_or_ge j n with hlt | hge
  ·have HKJ:=Hd (HKF.out j wr (HO.out.below hB5) hlt)
   obtain ⟨X,hX⟩:=ex_ (Qax m ks j)
   rw [hX] at HKJ
   have HX:=Hd hX
   clear hX
   go_wp2_with fail
   refine HKJ.out.mono ?_
   rintro e w3 ⟨rfl,hb3⟩
   have HF3:=Hd (Qaa HF.out hb3)
   have hB3:=Qab hb3 hB5 hB5.size
   by_cases h1:X=0
   ·subst h1
    have HJ2:=Hd (show ∀ t,t<j+1->Qax m ks t=0 from fun t ht=>by
     rcases Nat.lt_or_ge t j with h | h
     ·exact HJ.out t h
     ·obtain rfl:t=j:=by omega
      exact HX.out)
    go_wp2
    go_roundw
    case rel=>exact ⟨j+1,by omega,by go_num,HF3,hB3,HJ2⟩
    case measure=>simp [intOf];omega
   ·have HE:=Hd (show Qao ⟨m,q,ks,hd,tl,ct,sm⟩=X by
     rw [HK.out X (by rw [fstF_hit hlt HJ.out (by rw [HX.out];exact h1),HX.out]),if_pos h1])
    have h1a:(X !=0)=true:=by simpa using h1
    clear h1
    go_wp2
    go_ret
    exact ⟨congrArg (fun v=>Ending.returned (Value.int .i64 v)) HE.out.symm,hB3⟩
  ·obtain rfl:n=j:=by omega
   have HCE:=Hd (show Qao ⟨m,q,ks,hd,tl,ct,sm⟩=EF by
    rw [HK.out 0 (fstF_no HJ.out),if_neg (by decide)])
   clear HK HJ hge hj
   have HKH:=Hd (HKO.out hd);have HKT:=Hd (HKO.out tl)
   obtain ⟨IH,hIH⟩:=ex_ (ixF (Qav hd) ks)
   obtain ⟨IT,hIT⟩:=ex_ (ixF (Qav tl) ks)
   rw [hIH] at HKH
   rw [hIT] at HKT
   obtain ⟨D2,hD2⟩:=ex_ (decide ((hd≠⟨#[]⟩/\IH<0)∨(tl≠⟨#[]⟩/\IT<0)))
   have HD2:=Hd hD2;have HIH:=Hd hIH;have HIT:=Hd hIT
   clear hIH hIT
   go_upto_region 16 with fail
   go_cut [65] (fun v wx=>v=.bool D2/\Hid (wx.heap[w0.heap.size]?=some (.cells #[.int .u8 m,.int .u8 q,.slice A n c,.string hd,.string tl,.string ct,.string sm] 24 (0,0)))/\Below w0.heap.size w0 wx)
   case first=>
    by_cases h_hd:hd=⟨#[]⟩
    ·have g_hd:hd.toList.isEmpty=true:=by rw [Qah];exact decide_eq_true h_hd
     by_cases h_tl:tl=⟨#[]⟩
     ·have g_tl:tl.toList.isEmpty=true:=by rw [Qah];exact decide_eq_true h_tl
      have e:D2=false:=by rw [<- hD2];exact decide_eq_false (fun h=>by rcases h with h | h;exact h.1 h_hd;exact h.1 h_tl)
      subst e
      clear hD2 h_tl h_hd
      go_wp2_with fail
      go_meet
      exact ⟨by first | rfl | (simp;omega),HF,hB5⟩
     have g_tl:tl.toList.isEmpty=false:=by rw [Qah];exact decide_eq_false h_tl
     by_cases h_it:IT<0
     ·have e2:D2=true:=by rw [<- hD2];exact decide_eq_true (.inr ⟨h_tl,h_it⟩)
      subst e2
      clear hD2 h_tl h_hd
      go_wp2_with fail
      refine (HKT.out _ (HO.out.below hB5)).mono ?_
      rintro e w6 ⟨rfl,hb6⟩
      have hB6:=Qab hb6 hB5 hB5.size
      have HF6:=Hd (Qaa HF.out hb6)
      clear f0 f1 f2 f3 f4 f5 f6 f7
      clear HF hb6
      have HF:=HF6
      clear HF6
      obtain ⟨⟨f0,f1,f2,f3,f4,f5,f6⟩,f7⟩:=Qai HF.out
      go_wp2_with fail
      go_meet
      exact ⟨by first | rfl | (simp;omega),HF,hB6⟩
     ·have e2:D2=false:=by rw [<- hD2];exact decide_eq_false (fun h=>by rcases h with h | h;exact h.1 h_hd;(have:=h.2;omega))
      subst e2
      clear hD2 h_tl h_hd
      go_wp2_with fail
      refine (HKT.out _ (HO.out.below hB5)).mono ?_
      rintro e w6 ⟨rfl,hb6⟩
      have hB6:=Qab hb6 hB5 hB5.size
      have HF6:=Hd (Qaa HF.out hb6)
      clear f0 f1 f2 f3 f4 f5 f6 f7
      clear HF hb6
      have HF:=HF6
      clear HF6
      obtain ⟨⟨f0,f1,f2,f3,f4,f5,f6⟩,f7⟩:=Qai HF.out
      go_wp2_with fail
      go_meet
      exact ⟨by first | rfl | (simp;omega),HF,hB6⟩
    have g_hd:hd.toList.isEmpty=false:=by rw [Qah];exact decide_eq_false h_hd
    by_cases h_ih:IH<0
    ·have e2:D2=true:=by rw [<- hD2];exact decide_eq_true (.inl ⟨h_hd,h_ih⟩)
     subst e2
     clear hD2 h_hd
     go_wp2_with fail
     refine (HKH.out _ (HO.out.below hB5)).mono ?_
     rintro e w6 ⟨rfl,hb6⟩
     have hB6:=Qab hb6 hB5 hB5.size
     have HF6:=Hd (Qaa HF.out hb6)
     clear f0 f1 f2 f3 f4 f5 f6 f7
     clear HF hb6
     have HF:=HF6
     clear HF6
     obtain ⟨⟨f0,f1,f2,f3,f4,f5,f6⟩,f7⟩:=Qai HF.out
     go_wp2_with fail
     go_meet
     exact ⟨rfl,HF,hB6⟩
    go_wp2_with fail
    refine (HKH.out _ (HO.out.below hB5)).mono ?_
    rintro e w6 ⟨rfl,hb6⟩
    have hB6:=Qab hb6 hB5 hB5.size
    have HF6:=Hd (Qaa HF.out hb6)
    clear f0 f1 f2 f3 f4 f5 f6 f7
    clear HF hb6
    have HF:=HF6
    clear HF6
    obtain ⟨⟨f0,f1,f2,f3,f4,f5,f6⟩,f7⟩:=Qai HF.out
    by_cases h_tl:tl=⟨#[]⟩
    ·have g_tl:tl.toList.isEmpty=true:=by rw [Qah];exact decide_eq_true h_tl
     have e:D2=false:=by rw [<- hD2];exact decide_eq_false (fun h=>by rcases h with h | h;(have:=h.2;omega);exact h.1 h_tl)
     subst e
     clear hD2 h_tl h_hd
     go_wp2_with fail
     go_meet
     exact ⟨by first | rfl | (simp;omega),HF,hB6⟩
    have g_tl:tl.toList.isEmpty=false:=by rw [Qah];exact decide_eq_false h_tl
    by_cases h_it:IT<0
    ·have e2:D2=true:=by rw [<- hD2];exact decide_eq_true (.inr ⟨h_tl,h_it⟩)
     subst e2
     clear hD2 h_tl h_hd
     go_wp2_with fail
     refine (HKT.out _ (HO.out.below hB6)).mono ?_
     rintro e w7 ⟨rfl,hb7⟩
     have hB7:=Qab hb7 hB6 hB6.size
     have HF7:=Hd (Qaa HF.out hb7)
     clear f0 f1 f2 f3 f4 f5 f6 f7
     clear HF hb7
     have HF:=HF7
     clear HF7
     obtain ⟨⟨f0,f1,f2,f3,f4,f5,f6⟩,f7⟩:=Qai HF.out
     go_wp2_with fail
     go_meet
     exact ⟨by first | rfl | (simp;omega),HF,hB7⟩
    ·have e2:D2=false:=by rw [<- hD2];exact decide_eq_false (fun h=>by rcases h with h | h;(have:=h.2;omega);(have:=h.2;omega))
     subst e2
     clear hD2 h_tl h_hd
     go_wp2_with fail
     refine (HKT.out _ (HO.out.below hB6)).mono ?_
     rintro e w7 ⟨rfl,hb7⟩
     have hB7:=Qab hb7 hB6 hB6.size
     have HF7:=Hd (Qaa HF.out hb7)
     clear f0 f1 f2 f3 f4 f5 f6 f7
     clear HF hb7
     have HF:=HF7
     clear HF7
     obtain ⟨⟨f0,f1,f2,f3,f4,f5,f6⟩,f7⟩:=Qai HF.out
     go_wp2_with fail
     go_meet
     exact ⟨by first | rfl | (simp;omega),HF,hB7⟩
   case rest=>
   obtain ⟨rfl,HF6,hB6⟩:=hcut
   generalize wc=w6 at HF6 hB6 ⊢
   clear f0 f1 f2 f3 f4 f5 f6 f7
   clear HF HKH HKT hD2
   have HF:=HF6
   clear HF6
   obtain ⟨⟨f0,f1,f2,f3,f4,f5,f6⟩,f7⟩:=Qai HF.out
   cases D2 with
   | true=>
    have HE:=Hd (show Qao ⟨m,q,ks,hd,tl,ct,sm⟩=5 by
     rw [HCE.out,<- HEF.out]
     unfold Qbj
     simp only
     rcases of_decide_eq_true HD2.out with h | h
     ·rw [if_pos ⟨h.1,by rw [HIH.out];exact h.2⟩]
     ·by_cases h2:hd≠⟨#[]⟩/\ixF (Qav hd) ks<0
      ·rw [if_pos h2]
      ·rw [if_neg h2,if_pos ⟨h.1,by rw [HIT.out];exact h.2⟩])
    go_wp2
    go_ret
    exact ⟨congrArg (fun v=>Ending.returned (Value.int .i64 v)) HE.out.symm,hB6⟩
   | false=>
   have E1:=Hd (show ¬ (hd≠⟨#[]⟩/\ixF (Qav hd) ks<0) from fun h=>of_decide_eq_false HD2.out (.inl ⟨h.1,by rw [<- HIH.out];exact h.2⟩))
   have E2:=Hd (show ¬ (tl≠⟨#[]⟩/\ixF (Qav tl) ks<0) from fun h=>of_decide_eq_false HD2.out (.inr ⟨h.1,by rw [<- HIT.out];exact h.2⟩))
   by_cases h1:hd=tl/\hd≠⟨#[]⟩
   ·have HE:=Hd (show Qao ⟨m,q,ks,hd,tl,ct,sm⟩=12 by
     rw [HCE.out,<- HEF.out]
     unfold Qbj
     simp only
     rw [if_neg E1.out,if_neg E2.out,if_pos h1])
    obtain ⟨h1,h2⟩:=h1
    subst h1
    have g1:(hd.toList==hd.toList)=true:=by simp
    have g2:hd.toList.isEmpty=false:=by rw [Qah,decide_eq_false h2]
    clear h2
    go_wp2
    go_ret
    exact ⟨congrArg (fun v=>Ending.returned (Value.int .i64 v)) HE.out.symm,hB6⟩
   have E3:=Hd h1
   go_upto_region 18 with fail
   go_cut [88] (fun v wx=>v=.bool false/\w6=wx)
   case first=>
    by_cases h2:hd=⟨#[]⟩
    ·have g2:hd.toList.isEmpty=true:=by rw [Qah,decide_eq_true h2]
     clear h1 h2
     go_wp2_with fail
     go_meet
     exact ⟨rfl,rfl⟩
    ·have g2:hd.toList.isEmpty=false:=by rw [Qah,decide_eq_false h2]
     have g1:(hd.toList==tl.toList)=false:=by rw [Qap,decide_eq_false (fun e=>h1 ⟨e,h2⟩)]
     clear h1 h2
     go_wp2_with fail
     go_meet
     exact ⟨rfl,rfl⟩
   case rest=>
   obtain ⟨rfl,rfl⟩:=hcut
   clear h1
   by_cases h4:tl=⟨#[]⟩/\(ct≠⟨#[]⟩∨sm≠⟨#[]⟩)
   ·have HE:=Hd (show Qao ⟨m,q,ks,hd,tl,ct,sm⟩=3 by
     rw [HCE.out,<- HEF.out]
     unfold Qbj
     simp only
     rw [if_neg E1.out,if_neg E2.out,if_neg E3.out,if_pos h4])
    obtain ⟨h4,h5⟩:=h4
    have g1:tl.toList.isEmpty=true:=by rw [Qah,decide_eq_true h4]
    by_cases h6:ct=⟨#[]⟩
    ·have g2:ct.toList.isEmpty=true:=by rw [Qah,decide_eq_true h6]
     have g3:sm.toList.isEmpty=false:=by rw [Qah,decide_eq_false (h5.resolve_left (fun e=>e h6))]
     clear h4 h5 h6
     go_wp2
     go_ret
     exact ⟨congrArg (fun v=>Ending.returned (Value.int .i64 v)) HE.out.symm,hB6⟩
    ·have g2:ct.toList.isEmpty=false:=by rw [Qah,decide_eq_false h6]
     clear h4 h5 h6
     go_wp2
     go_ret
     exact ⟨congrArg (fun v=>Ending.returned (Value.int .i64 v)) HE.out.symm,hB6⟩
   have E4:=Hd h4
   go_upto_region 20 with fail
   go_cut [99] (fun v wy=>v=.bool false/\w6=wy)
   case first=>
    by_cases h2:tl=⟨#[]⟩
    ·have g1:tl.toList.isEmpty=true:=by rw [Qah,decide_eq_true h2]
     have g2:ct.toList.isEmpty=true:=by rw [Qah,decide_eq_true (Classical.byContradiction fun e=>h4 ⟨h2,.inl e⟩)]
     have g3:sm.toList.isEmpty=true:=by rw [Qah,decide_eq_true (Classical.byContradiction fun e=>h4 ⟨h2,.inr e⟩)]
     clear h4 h2
     go_wp2_with fail
     go_meet
     exact ⟨rfl,rfl⟩
    ·have g1:tl.toList.isEmpty=false:=by rw [Qah,decide_eq_false h2]
     clear h4 h2
     go_wp2_with fail
     go_meet
     exact ⟨rfl,rfl⟩
   case rest=>
   obtain ⟨rfl,rfl⟩:=hcut
   clear h4
   have HTF:=Hd (show (ct≠⟨#[]⟩∨sm≠⟨#[]⟩)->0<=ixF (Qav tl) ks from fun h=>by
    have h1:tl≠⟨#[]⟩:=fun e=>E4.out ⟨e,h⟩
    have h2:=E2.out
    exact Int.not_lt.1 (fun h3=>h2 ⟨h1,h3⟩))
   obtain ⟨TC,hTC⟩:=ex_ (Qbs ks tl ct false)
   obtain ⟨TS,hTS⟩:=ex_ (Qbs ks tl sm true)
   have HTC:=Hd hTC;have HTS:=Hd hTS
   have HICC:=Hd (HIC.out ct false);have HICS:=Hd (HIC.out sm true)
   rw [hTC] at HICC
   rw [hTS] at HICS
   obtain ⟨D3,hD3⟩:=ex_ (decide ((ct≠⟨#[]⟩/\TC=true)∨(sm≠⟨#[]⟩/\TS=true)))
   have HD3:=Hd hD3
   clear hTC hTS
   go_upto_region 22 with fail
   go_cut [113] (fun v wx=>v=.bool D3/\Hid (wx.heap[w0.heap.size]?=some (.cells #[.int .u8 m,.int .u8 q,.slice A n c,.string hd,.string tl,.string ct,.string sm] 24 (0,0)))/\Below w0.heap.size w0 wx)
   case first=>
    by_cases h_ct:ct=⟨#[]⟩
    ·have g_ct:ct.toList.isEmpty=true:=by rw [Qah];exact decide_eq_true h_ct
     by_cases h_sm:sm=⟨#[]⟩
     ·have g_sm:sm.toList.isEmpty=true:=by rw [Qah];exact decide_eq_true h_sm
      have e2:D3=false:=by rw [<- hD3];exact decide_eq_false (fun h=>by rcases h with h | h;exact h.1 h_ct;exact h.1 h_sm)
      subst e2
      clear hD3 h_sm h_ct
      go_wp2_with fail
      go_meet
      exact ⟨by first | rfl | simp,HF,hB6⟩
     have g_sm:sm.toList.isEmpty=false:=by rw [Qah];exact decide_eq_false h_sm
     have hpt:=Hd (HTF.out (.inr h_sm))
     cases TS with
     | true=>
      have e2:D3=true:=by rw [<- hD3];exact decide_eq_true (.inr ⟨h_sm,rfl⟩)
      subst e2
      clear hD3 h_sm h_ct
      go_wp2_with fail
      refine (HICS.out _ (HO.out.below hB6) hpt.out).mono ?_
      rintro e w7 ⟨rfl,hb7⟩
      have hB7:=Qab hb7 hB6 hB6.size
      have HF7:=Hd (Qaa HF.out hb7)
      clear f0 f1 f2 f3 f4 f5 f6 f7
      clear HF hb7
      have HF:=HF7
      clear HF7
      obtain ⟨⟨f0,f1,f2,f3,f4,f5,f6⟩,f7⟩:=Qai HF.out
      go_wp2_with fail
      go_meet
      exact ⟨by first | rfl | simp,HF,hB7⟩
     | false=>
      have e2:D3=false:=by rw [<- hD3];exact decide_eq_false (fun h=>by rcases h with h | h;exact h.1 h_ct;cases h.2)
      subst e2
      clear hD3 h_sm h_ct
      go_wp2_with fail
      refine (HICS.out _ (HO.out.below hB6) hpt.out).mono ?_
      rintro e w7 ⟨rfl,hb7⟩
      have hB7:=Qab hb7 hB6 hB6.size
      have HF7:=Hd (Qaa HF.out hb7)
      clear f0 f1 f2 f3 f4 f5 f6 f7
      clear HF hb7
      have HF:=HF7
      clear HF7
      obtain ⟨⟨f0,f1,f2,f3,f4,f5,f6⟩,f7⟩:=Qai HF.out
      go_wp2_with fail
      go_meet
      exact ⟨by first | rfl | simp,HF,hB7⟩
    have g_ct:ct.toList.isEmpty=false:=by rw [Qah];exact decide_eq_false h_ct
    have hpc:=Hd (HTF.out (.inl h_ct))
    cases TC with
    | true=>
     have e2:D3=true:=by rw [<- hD3];exact decide_eq_true (.inl ⟨h_ct,rfl⟩)
     subst e2
     clear hD3 h_ct
     go_wp2_with fail
     refine (HICC.out _ (HO.out.below hB6) hpc.out).mono ?_
     rintro e w7 ⟨rfl,hb7⟩
     have hB7:=Qab hb7 hB6 hB6.size
     have HF7:=Hd (Qaa HF.out hb7)
     clear f0 f1 f2 f3 f4 f5 f6 f7
     clear HF hb7
     have HF:=HF7
     clear HF7
     obtain ⟨⟨f0,f1,f2,f3,f4,f5,f6⟩,f7⟩:=Qai HF.out
     go_wp2_with fail
     go_meet
     exact ⟨by first | rfl | simp,HF,hB7⟩
    | false=>
     go_wp2_with fail
     refine (HICC.out _ (HO.out.below hB6) hpc.out).mono ?_
     rintro e w7 ⟨rfl,hb7⟩
     have hB7:=Qab hb7 hB6 hB6.size
     have HF7:=Hd (Qaa HF.out hb7)
     clear f0 f1 f2 f3 f4 f5 f6 f7
     clear HF hb7
     have HF:=HF7
     clear HF7
     obtain ⟨⟨f0,f1,f2,f3,f4,f5,f6⟩,f7⟩:=Qai HF.out
     by_cases h_sm:sm=⟨#[]⟩
     ·have g_sm:sm.toList.isEmpty=true:=by rw [Qah];exact decide_eq_true h_sm
      have e2:D3=false:=by rw [<- hD3];exact decide_eq_false (fun h=>by rcases h with h | h;cases h.2;exact h.1 h_sm)
      subst e2
      clear hD3 h_sm h_ct
      go_wp2_with fail
      go_meet
      exact ⟨by first | rfl | simp,HF,hB7⟩
     have g_sm:sm.toList.isEmpty=false:=by rw [Qah];exact decide_eq_false h_sm
     have hpt:=Hd (HTF.out (.inr h_sm))
     cases TS with
     | true=>
      have e2:D3=true:=by rw [<- hD3];exact decide_eq_true (.inr ⟨h_sm,rfl⟩)
      subst e2
      clear hD3 h_sm h_ct
      go_wp2_with fail
      refine (HICS.out _ (HO.out.below hB7) hpt.out).mono ?_
      rintro e w8 ⟨rfl,hb8⟩
      have hB8:=Qab hb8 hB7 hB7.size
      have HF8:=Hd (Qaa HF.out hb8)
      clear f0 f1 f2 f3 f4 f5 f6 f7
      clear HF hb8
      have HF:=HF8
      clear HF8
      obtain ⟨⟨f0,f1,f2,f3,f4,f5,f6⟩,f7⟩:=Qai HF.out
      go_wp2_with fail
      go_meet
      exact ⟨by first | rfl | simp,HF,hB8⟩
     | false=>
      have e2:D3=false:=by rw [<- hD3];exact decide_eq_false (fun h=>by rcases h with h | h;cases h.2;cases h.2)
      subst e2
      clear hD3 h_sm h_ct
      go_wp2_with fail
      refine (HICS.out _ (HO.out.below hB7) hpt.out).mono ?_
      rintro e w8 ⟨rfl,hb8⟩
      have hB8:=Qab hb8 hB7 hB7.size
      have HF8:=Hd (Qaa HF.out hb8)
      clear f0 f1 f2 f3 f4 f5 f6 f7
      clear HF hb8
      have HF:=HF8
      clear HF8
      obtain ⟨⟨f0,f1,f2,f3,f4,f5,f6⟩,f7⟩:=Qai HF.out
      go_wp2_with fail
      go_meet
      exact ⟨by first | rfl | simp,HF,hB8⟩
   case rest=>
   obtain ⟨rfl,HF9,hB9⟩:=hcut
   generalize wc=w9 at HF9 hB9 ⊢
   clear f0 f1 f2 f3 f4 f5 f6 f7
   clear HF HICC HICS hD3
   have HF:=HF9
   clear HF9
   obtain ⟨⟨f0,f1,f2,f3,f4,f5,f6⟩,f7⟩:=Qai HF.out
   cases D3 with
   | true=>
    have HE:=Hd (show Qao ⟨m,q,ks,hd,tl,ct,sm⟩=5 by
     rw [HCE.out,<- HEF.out]
     unfold Qbj
     simp only
     rw [if_neg E1.out,if_neg E2.out,if_neg E3.out,if_neg E4.out]
     rcases of_decide_eq_true HD3.out with h | h
     ·rw [if_pos ⟨h.1,by rw [HTC.out];exact h.2⟩]
     ·by_cases h2:ct≠⟨#[]⟩/\Qbs ks tl ct false=true
      ·rw [if_pos h2]
      ·rw [if_neg h2,if_pos ⟨h.1,by rw [HTS.out];exact h.2⟩])
    go_wp2
    go_ret
    exact ⟨congrArg (fun v=>Ending.returned (Value.int .i64 v)) HE.out.symm,hB9⟩
   | false=>
   have E5:=Hd (show ¬ (ct≠⟨#[]⟩/\Qbs ks tl ct false=true) from fun h=>of_decide_eq_false HD3.out (.inl ⟨h.1,by rw [<- HTC.out];exact h.2⟩))
   have E6:=Hd (show ¬ (sm≠⟨#[]⟩/\Qbs ks tl sm true=true) from fun h=>of_decide_eq_false HD3.out (.inr ⟨h.1,by rw [<- HTS.out];exact h.2⟩))
   by_cases h1:ct=⟨#[]⟩
   ·have g1:ct.toList.isEmpty=true:=by rw [Qah,decide_eq_true h1]
    have HE:=Hd (show Qao ⟨m,q,ks,hd,tl,ct,sm⟩=0 by
     rw [HCE.out,<- HEF.out]
     unfold Qbj
     simp only
     rw [if_neg E1.out,if_neg E2.out,if_neg E3.out,if_neg E4.out,if_neg E5.out,if_neg E6.out,if_neg (fun h=>h.2 h1)])
    clear h1
    go_wp2
    go_ret
    exact ⟨congrArg (fun v=>Ending.returned (Value.int .i64 v)) HE.out.symm,hB9⟩
   have g1:ct.toList.isEmpty=false:=by rw [Qah,decide_eq_false h1]
   by_cases h2:ct=sm
   ·have HE:=Hd (show Qao ⟨m,q,ks,hd,tl,ct,sm⟩=12 by
     rw [HCE.out,<- HEF.out]
     unfold Qbj
     simp only
     rw [if_neg E1.out,if_neg E2.out,if_neg E3.out,if_neg E4.out,if_neg E5.out,if_neg E6.out,if_pos ⟨h2,h1⟩])
    subst h2
    have g2:(ct.toList==ct.toList)=true:=by simp
    clear h1
    go_wp2
    go_ret
    exact ⟨congrArg (fun v=>Ending.returned (Value.int .i64 v)) HE.out.symm,hB9⟩
   ·have HE:=Hd (show Qao ⟨m,q,ks,hd,tl,ct,sm⟩=0 by
     rw [HCE.out,<- HEF.out]
     unfold Qbj
     simp only
     rw [if_neg E1.out,if_neg E2.out,if_neg E3.out,if_neg E4.out,if_neg E5.out,if_neg E6.out,if_neg (fun h=>h2 h.1)])
    have g2:(ct.toList==sm.toList)=false:=by rw [Qap,decide_eq_false h2]
    clear h1 h2
    go_wp2
    go_ret
    exact ⟨congrArg (fun v=>Ending.returned (Value.int .i64 v)) HE.out.symm,hB9⟩
end Go.Proofs.YtaiabjiehpcaoaaGreatDoor
