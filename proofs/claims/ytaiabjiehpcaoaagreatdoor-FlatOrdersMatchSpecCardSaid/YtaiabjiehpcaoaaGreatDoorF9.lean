/- The walks of endsFault and CheckFormat. (Printed by genF8.py.) The walks of package flat's words, and of kit's Number, Undash. -/
import Derived.Test.YtaiabjiehpcaoaaGreatDoorV2
import Derived.Test.YtaiabjiehpcaoaaGreatDoorU2
import Derived.Test.YtaiabjiehpcaoaaGreatDoorM2
-- merged: F8 F9
set_option maxHeartbeats 2000000
set_option maxRecDepth 100000
namespace Go.Proofs.YtaiabjiehpcaoaaGreatDoor
open Go.RowKit Limb Nmb
set_option linter.unusedVariables false
set_option linter.unusedSimpArgs false
theorem kat_cols {w:World} {A:Option Addr} {f:Fmt} {FA:Nat->Option Addr} {FC:Nat->Nat} (h:Kinds w A f.kinds FA FC) (t:ByteArray):Cols w (katA f FA t) (katK f t).fields/\(katK f t).fields.length<=katC f FC t:=by
 rcases QaX f FA FC t with ⟨h1,h2,h3,h4⟩|⟨k,hk,h1,h2,h3,h4⟩
 ·rw [h2,h3,h4]
  exact ⟨⟨⟨fun c hc=>by simp [kind0] at hc,by simp [kind0]⟩,fun hn=>by simp [kind0] at hn⟩,by simp [kind0]⟩
 ·rw [h2,h3,h4]
  exact h.2.2 k hk
def prW (a b:ByteArray) (j:Nat):ByteArray:=if j=0 then a else b
theorem pr_cell {w:World} {g:Nat} {a b:ByteArray} {T:TypeId} (h:w.heap[g]?=some (.cells #[.string a,.string b] T (0,0))) {j:Nat} (hj:j<2):w.cell? ⟨g,j,none⟩=some (.string (prW a b j)):=by
 match j,hj with
 | 0,_=>exact cell_of_row w g 0 _ _ _ h
 | 1,_=>exact cell_of_row w g 1 _ _ _ h
def okT (f:Fmt) (t:ByteArray):Prop:=t=⟨#[]⟩∨0<=katI f t
def okC (f:Fmt) (n:ByteArray) (p:Bool):Prop:=n=⟨#[]⟩∨Qbs f.kinds f.tail n p=false
theorem endsfault_c (f:Fmt) (A:Option Addr) (c:Nat) (FA:Nat->Option Addr) (FC:Nat->Nat) (w0:World) (ho:Kinds w0 A f.kinds FA FC) :
  Calls Tryz.prog 54 #[fmtG f A c] w0 (RetI (Qbj f) w0):=by
 obtain ⟨m,q,ks,hd,tl,ct,sm⟩:=f
 have HKA:=Hd (fun t w (h:Kinds w A ks FA FC)=>QbR ⟨m,q,ks,hd,tl,ct,sm⟩ A c FA FC t w h)
 have HCL:=Hd (fun t w (h:Kinds w A ks FA FC)=>kat_cols (f:=⟨m,q,ks,hd,tl,ct,sm⟩) h t)
 have hn:=ho.1.2
 have HO:=Hd ho
 unfold fmtG at HKA ⊢
 simp only at HKA hn ⊢
 obtain ⟨n,hnn⟩:=ex_ (ks.length)
 rw [hnn] at HKA hn ⊢
 clear ho hnn
 go_enter Tryz.func54,Tryz.ntmps54
 have HF:=Hd (Qad (Qac w0 (.cells #[.int .u8 m,.int .u8 q,.slice A n c,.string hd,.string tl,.string ct,.string sm] 24) rfl) (.cells #[.string hd,.string tl] 9))
 have HP:=Hd (Qac (w0.alloc (.cells #[.int .u8 m,.int .u8 q,.slice A n c,.string hd,.string tl,.string ct,.string sm] 24)) (.cells #[.string hd,.string tl] 9) (g:=w0.heap.size+1) (by simp))
 have hB1:Below w0.heap.size w0 ((w0.alloc (.cells #[.int .u8 m,.int .u8 q,.slice A n c,.string hd,.string tl,.string ct,.string sm] 24)).alloc (.cells #[.string hd,.string tl] 9)):=by go_grown
 go_wp2_with fail
 generalize (w0.alloc (.cells #[.int .u8 m,.int .u8 q,.slice A n c,.string hd,.string tl,.string ct,.string sm] 24)).alloc (.cells #[.string hd,.string tl] 9)=w1 at HF HP hB1 ⊢
 go_loopw [18] (fun i wr=>∃ j:Nat,j<=2/\i=.int .i64 j/\Hid (wr.heap[w0.heap.size]?=some (.cells #[.int .u8 m,.int .u8 q,.slice A n c,.string hd,.string tl,.string ct,.string sm] 24 (0,0)))/\Hid (wr.heap[w0.heap.size+1]?=some (.cells #[.string hd,.string tl] 9 (0,0)))/\Below w0.heap.size w0 wr/\Hid (∀ t,t<j->okT ⟨m,q,ks,hd,tl,ct,sm⟩ (prW hd tl t))) (fun i _=>2-(intOf i).toNat)
 case atStart=>exact ⟨0,by decide,rfl,HF,HP,hB1,Hd (fun t h=>absurd h (Nat.not_lt_zero _))⟩
 case round=>
  clear HF HP hB1
  obtain ⟨j,hj,rfl,HF,HP,hB5,HJ⟩:=hrel
  obtain ⟨⟨f0,f1,f2,f3,f4,f5,f6⟩,f7⟩:=Qai HF.out
  rcases Nat.lt_or_ge j 2 with hlt | hge
  ·have hp:=pr_cell HP.out hlt
   obtain ⟨t,ht⟩:=ex_ (prW hd tl j)
   have HT:=Hd ht
   rw [ht] at hp
   have HKT:=Hd (HKA.out t)
   obtain ⟨⟨tg,fs,ms,un⟩,hx⟩:=ex_ (katK ⟨m,q,ks,hd,tl,ct,sm⟩ t)
   obtain ⟨XA,hXA⟩:=ex_ (katA ⟨m,q,ks,hd,tl,ct,sm⟩ FA t)
   obtain ⟨XC,hXC⟩:=ex_ (katC ⟨m,q,ks,hd,tl,ct,sm⟩ FC t)
   obtain ⟨I,hI⟩:=ex_ (katI ⟨m,q,ks,hd,tl,ct,sm⟩ t)
   rw [hx,hXA,hXC,hI] at HKT
   unfold QaO at HKT
   simp only at HKT
   have HI:=Hd hI
   clear hx hXA hXC hI ht
   obtain ⟨OK,hOK⟩:=ex_ (decide (0<=I))
   rw [hOK] at HKT
   have HOK:=Hd hOK
   obtain ⟨EM,hEM⟩:=ex_ (t.toList.isEmpty)
   have HEM:=Hd hEM
   clear hOK
   go_wp2_with fail
   refine (HKT.out _ (HO.out.below hB5)).mono ?_
   rintro e w2 ⟨rfl,hb2⟩
   have HF2:=Hd (Qaa HF.out hb2)
   have HP2:=Hd (Qaa HP.out hb2)
   have hB2:=Qab hb2 hB5 hB5.size
   cases EM with
   | true=>
    have HJ2:=Hd (show ∀ t,t<j+1->okT ⟨m,q,ks,hd,tl,ct,sm⟩ (prW hd tl t) from fun x hx=>by
     rcases Nat.lt_or_ge x j with h | h
     ·exact HJ.out x h
     ·obtain rfl:x=j:=by omega
      rw [HT.out]
      exact .inl (by have:=HEM.out;rw [Qah] at this;exact of_decide_eq_true this))
    go_wp2
    go_roundw
    case rel=>exact ⟨j+1,by omega,by go_num,Hd (Qad HF2.out _),Hd (Qad HP2.out _),hB2.alloc hB2.size _,HJ2⟩
    case measure=>simp [intOf];omega
   | false=>
    have hne:¬ t=⟨#[]⟩:=by
     have:=HEM.out
     rw [Qah] at this
     exact of_decide_eq_false this
    cases OK with
    | true=>
     have HJ2:=Hd (show ∀ t,t<j+1->okT ⟨m,q,ks,hd,tl,ct,sm⟩ (prW hd tl t) from fun x hx=>by
      rcases Nat.lt_or_ge x j with h | h
      ·exact HJ.out x h
      ·obtain rfl:x=j:=by omega
       rw [HT.out]
       exact .inr (by rw [HI.out];exact of_decide_eq_true HOK.out))
     clear hne
     go_wp2
     go_roundw
     case rel=>exact ⟨j+1,by omega,by go_num,Hd (Qad HF2.out _),Hd (Qad HP2.out _),hB2.alloc hB2.size _,HJ2⟩
     case measure=>simp [intOf];omega
    | false=>
     have HE:=Hd (show Qbj ⟨m,q,ks,hd,tl,ct,sm⟩=5 by
      have hI:katI ⟨m,q,ks,hd,tl,ct,sm⟩ t<0:=by
       rw [HI.out]
       have:=of_decide_eq_false HOK.out
       omega
      unfold katI at hI
      have e:=HT.out
      unfold prW at e
      unfold Qbj
      simp only at hI ⊢
      split at e
      ·rw [e,if_pos ⟨hne,hI⟩]
      ·by_cases h1:hd≠⟨#[]⟩/\ixF (Qav hd) ks<0
       ·rw [if_pos h1]
       ·rw [if_neg h1,e,if_pos ⟨hne,hI⟩])
     clear hne
     go_wp2
     go_ret
     exact ⟨congrArg (fun v=>Ending.returned (Value.int .i64 v)) HE.out.symm,hB2.alloc hB2.size _⟩
  ·obtain rfl:j=2:=by omega
   have HH:=Hd (HJ.out 0 (by decide))
   have HT:=Hd (HJ.out 1 (by decide))
   have e1:¬ (hd≠⟨#[]⟩/\ixF (Qav hd) ks<0):=fun h=>by
    rcases HH.out with k | k
    ·exact h.1 k
    ·have k':0<=ixF (Qav hd) ks:=k
     omega
   have e2:¬ (tl≠⟨#[]⟩/\ixF (Qav tl) ks<0):=fun h=>by
    rcases HT.out with k | k
    ·exact h.1 k
    ·have k':0<=ixF (Qav tl) ks:=k
     omega
   have E1:=Hd e1;have E2:=Hd e2
   clear e1 e2 HJ HP hj hge
   by_cases h1:hd=tl/\hd≠⟨#[]⟩
   ·have HE:=Hd (show Qbj ⟨m,q,ks,hd,tl,ct,sm⟩=12 by
     unfold Qbj
     simp only
     rw [if_neg E1.out,if_neg E2.out,if_pos h1])
    obtain ⟨h1,h2⟩:=h1
    subst h1
    have g1:(hd.toList==hd.toList)=true:=by simp
    have g2:hd.toList.isEmpty=false:=by rw [Qah,decide_eq_false h2]
    clear h2
    go_wp2
    go_ret
    exact ⟨congrArg (fun v=>Ending.returned (Value.int .i64 v)) HE.out.symm,hB5⟩
   have E3:=Hd h1
   go_upto_region 8 with fail
   go_cut [44] (fun v wx=>v=.bool false/\wr=wx)
   case first=>
    by_cases h2:hd=tl
    ·have g1:(hd.toList==tl.toList)=true:=by rw [h2];simp
     have g2:hd.toList.isEmpty=true:=by rw [Qah,decide_eq_true (Classical.byContradiction fun e=>h1 ⟨h2,e⟩)]
     clear h1 h2
     go_wp2_with fail
     go_meet
     exact ⟨rfl,rfl⟩
    ·have g1:(hd.toList==tl.toList)=false:=by rw [Qap,decide_eq_false h2]
     clear h1 h2
     go_wp2_with fail
     go_meet
     exact ⟨rfl,rfl⟩
   case rest=>
   obtain ⟨rfl,rfl⟩:=hcut
   clear h1
   by_cases h4:tl=⟨#[]⟩/\(ct≠⟨#[]⟩∨sm≠⟨#[]⟩)
   ·have HE:=Hd (show Qbj ⟨m,q,ks,hd,tl,ct,sm⟩=3 by
     unfold Qbj
     simp only
     rw [if_neg E1.out,if_neg E2.out,if_neg E3.out,if_pos h4])
    obtain ⟨h4,h5⟩:=h4
    have g1:tl.toList.isEmpty=true:=by rw [Qah,decide_eq_true h4]
    by_cases h6:ct=⟨#[]⟩
    ·have g2:ct.toList.isEmpty=true:=by rw [Qah,decide_eq_true h6]
     have g3:sm.toList.isEmpty=false:=by rw [Qah,decide_eq_false (h5.resolve_left (fun e=>e h6))]
     clear h4 h5 h6
     go_wp2
     go_ret
     exact ⟨congrArg (fun v=>Ending.returned (Value.int .i64 v)) HE.out.symm,hB5⟩
    ·have g2:ct.toList.isEmpty=false:=by rw [Qah,decide_eq_false h6]
     clear h4 h5 h6
     go_wp2
     go_ret
     exact ⟨congrArg (fun v=>Ending.returned (Value.int .i64 v)) HE.out.symm,hB5⟩
   have E4:=Hd h4
   go_upto_region 10 with fail
   go_cut [57] (fun v wy=>v=.bool false/\wr=wy)
   case first=>
    by_cases h2:tl=⟨#[]⟩
    ·have g1:tl.toList.isEmpty=true:=by rw [Qah,decide_eq_true h2]
     have g2:ct.toList.isEmpty=true:=by rw [Qah,decide_eq_true (Classical.byContradiction fun e=>h4 ⟨h2,.inl e⟩)]
     have g3:sm.toList.isEmpty=true:=by rw [Qah,decide_eq_true (Classical.byContradiction fun e=>h4 ⟨h2,.inr e⟩)]
     clear h4 h2
     go_wp2_with fail
     go_meet
     exact ⟨rfl,rfl⟩
    ·have g1:tl.toList.isEmpty=false:=by rw [Qah,decide_eq_false h2]
     clear h4 h2
     go_wp2_with fail
     go_meet
     exact ⟨rfl,rfl⟩
   case rest=>
   obtain ⟨rfl,rfl⟩:=hcut
   clear h4
   have HKT:=Hd (HKA.out tl)
   have HCT:=Hd (HCL.out tl)
   obtain ⟨⟨tg,fs,ms,un⟩,hx⟩:=ex_ (katK ⟨m,q,ks,hd,tl,ct,sm⟩ tl)
   obtain ⟨XA,hXA⟩:=ex_ (katA ⟨m,q,ks,hd,tl,ct,sm⟩ FA tl)
   obtain ⟨XC,hXC⟩:=ex_ (katC ⟨m,q,ks,hd,tl,ct,sm⟩ FC tl)
   obtain ⟨I,hI⟩:=ex_ (decide (0<=katI ⟨m,q,ks,hd,tl,ct,sm⟩ tl))
   rw [hx,hXA,hXC,hI] at HKT
   rw [hx,hXA,hXC] at HCT
   have HX:=Hd (show kndF ks tl=⟨tg,fs,ms,un⟩ from hx)
   unfold QaO at HKT
   simp only at HKT HCT
   have HCA:=Hd (fun nm w (h:Cols w XA fs)=>colat_c ⟨tg,fs,ms,un⟩ XA XC nm w h)
   unfold QaO at HCA
   simp only at HCA
   obtain ⟨nf,hnff⟩:=ex_ (fs.length)
   have HNF:=Hd hnff
   rw [hnff] at HKT HCT HCA
   have hnf:=((HCT.out wr (HO.out.below hB5)).1).1.2
   have hnc:=(HCT.out wr (HO.out.below hB5)).2
   rw [hnff] at hnf
   clear hx hXA hXC hI hnff
   go_wp2_with fail
   refine (HKT.out _ (HO.out.below hB5)).mono ?_
   rintro e w2 ⟨rfl,hb2⟩
   have HF2:=Hd (Qaa HF.out hb2)
   have hB2:=Qab hb2 hB5 hB5.size
   clear f0 f1 f2 f3 f4 f5 f6 f7 HF hb2
   have HF3:=Hd (Qad (Qad HF2.out (.cells #[.string tg,.slice XA nf XC,.int .i64 ms,.string un] 52)) (.cells #[.string ct,.string sm] 9))
   have HK3:=Hd (Qad (Qac w2 (.cells #[.string tg,.slice XA nf XC,.int .i64 ms,.string un] 52) rfl) (.cells #[.string ct,.string sm] 9))
   have HP3:=Hd (Qac (w2.alloc (.cells #[.string tg,.slice XA nf XC,.int .i64 ms,.string un] 52)) (.cells #[.string ct,.string sm] 9) (g:=w2.heap.size+1) (by simp))
   have hB3:Below w0.heap.size w0 ((w2.alloc (.cells #[.string tg,.slice XA nf XC,.int .i64 ms,.string un] 52)).alloc (.cells #[.string ct,.string sm] 9)):=(hB2.alloc hB2.size _).alloc (by have:=hB2.size;simp;omega) _
   obtain ⟨⟨f0,f1,f2,f3,f4,f5,f6⟩,f7⟩:=Qai (Qad HF2.out (.cells #[.string tg,.slice XA nf XC,.int .i64 ms,.string un] 52))
   go_wp2_with fail
   generalize hL:w2.heap.size=L at HK3 HP3 ⊢
   clear f0 f1 f2 f3 f4 f5 f6 f7 HF2 hB2
   generalize (w2.alloc (.cells #[.string tg,.slice XA nf XC,.int .i64 ms,.string un] 52)).alloc (.cells #[.string ct,.string sm] 9)=w3 at HF3 HK3 HP3 hB3 ⊢
   go_loopw [71] (fun i wy=>∃ j:Nat,j<=2/\i=.int .i64 j/\Hid (wy.heap[w0.heap.size]?=some (.cells #[.int .u8 m,.int .u8 q,.slice A n c,.string hd,.string tl,.string ct,.string sm] 24 (0,0)))/\Hid (wy.heap[L]?=some (.cells #[.string tg,.slice XA nf XC,.int .i64 ms,.string un] 52 (0,0)))/\Hid (wy.heap[L+1]?=some (.cells #[.string ct,.string sm] 9 (0,0)))/\Below w0.heap.size w0 wy/\Hid (∀ t,t<j->okC ⟨m,q,ks,hd,tl,ct,sm⟩ (prW ct sm t) (decide (t=1)))) (fun i _=>2-(intOf i).toNat)
   case atStart=>exact ⟨0,by decide,rfl,HF3,HK3,HP3,hB3,Hd (fun t h=>absurd h (Nat.not_lt_zero _))⟩
   case round=>
    clear HF3 HK3 HP3 hB3 hB5
    obtain ⟨j,hj,rfl,HF,HK,HP,hB5,HJ⟩:=hrel
    obtain ⟨⟨f0,f1,f2,f3,f4,f5,f6⟩,f7⟩:=Qai HF.out
    obtain ⟨⟨k0,k1,k2,k3⟩,-,k5⟩:=Qaw HK.out
    rcases Nat.lt_or_ge j 2 with hlt | hge
    ·have hp:=pr_cell HP.out hlt
     obtain ⟨t,ht⟩:=ex_ (prW ct sm j)
     have HT:=Hd ht
     rw [ht] at hp
     clear ht
     by_cases h1:t=⟨#[]⟩
     ·have g1:t.toList.isEmpty=true:=by rw [Qah,decide_eq_true h1]
      have HJ2:=Hd (show ∀ t,t<j+1->okC ⟨m,q,ks,hd,tl,ct,sm⟩ (prW ct sm t) (decide (t=1)) from fun x hx=>by
       rcases Nat.lt_or_ge x j with h | h
       ·exact HJ.out x h
       ·obtain rfl:x=j:=by omega
        rw [HT.out]
        exact .inl h1)
      clear h1
      go_wp2
      go_roundw
      case rel=>exact ⟨j+1,by omega,by go_num,HF,HK,HP,hB5,HJ2⟩
      case measure=>simp [intOf];omega
     have g1:t.toList.isEmpty=false:=by rw [Qah,decide_eq_false h1]
     have H1:=Hd h1
     clear h1
     have HCO:=Hd (HCT.out wr (HO.out.below hB5)).1
     have HCN:=Hd (HCA.out t wr HCO.out)
     have HIX:=Hd (QaT (Qaj t) fs)
     obtain ⟨X,hX⟩:=ex_ (ixF (Qaj t) fs)
     rw [hX] at HCN HIX
     have HXX:=Hd hX
     clear hX
     have HBAD:=Hd (show Qbs ks tl t (decide (j=1))=true->Qbj ⟨m,q,ks,hd,tl,ct,sm⟩=5 from fun hb=>by
      unfold Qbj
      simp only
      rw [if_neg E1.out,if_neg E2.out,if_neg E3.out,if_neg E4.out]
      have e:=HT.out
      unfold prW at e
      split at e
      ·rename_i e0
       subst e0
       subst e
       rw [if_pos ⟨H1.out,by simpa using hb⟩]
      ·have e0:j=1:=by omega
       subst e0
       subst e
       by_cases h9:ct≠⟨#[]⟩/\Qbs ks tl ct false=true
       ·rw [if_pos h9]
       ·rw [if_neg h9,if_pos ⟨H1.out,by simpa using hb⟩])
     have HTF:=Hd (show Qbs ks tl t (decide (j=1))=(decide (X<0)||(decide ((cA fs X.toNat).kind≠2)||!decide (j=1)&&decide ((cA fs X.toNat).places≠0))) by
      unfold Qbs colN
      rw [HX.out]
      simp only
      rw [HXX.out])
     go_wp2_with fail
     refine HCN.out.mono ?_
     rintro e w5 ⟨rfl,hb5⟩
     have HF6:=Hd (Qaa HF.out hb5)
     have HK6:=Hd (Qaa HK.out hb5)
     have HP6:=Hd (Qaa HP.out hb5)
     have hB6:=Qab hb5 hB5 hB5.size
     clear f0 f1 f2 f3 f4 f5 f6 f7 k0 k1 k2 k3 k5 HF HK HP
     obtain ⟨⟨k0,k1,k2,k3⟩,-,k5⟩:=Qaw HK6.out
     rcases HIX.out with ⟨h2,-⟩|⟨x,hx,h2,-,-⟩
     ·subst h2
      have HE:=Hd (HBAD.out (by rw [HTF.out];rfl))
      go_wp2
      go_ret
      exact ⟨congrArg (fun v=>Ending.returned (Value.int .i64 v)) HE.out.symm,hB6⟩
     subst h2
     have hx0:¬ (x:Int)<0:=by omega
     rw [HNF.out] at hx
     obtain ⟨bc,oc,rfl,hbc,x0,x1,x2,x3,x4,x5,x6,x7⟩:=(HCO.out.below hb5).cells (j:=x) (by rw [HNF.out];exact hx)
     rw [Int.toNat_natCast] at HTF
     obtain ⟨C,hC⟩:=ex_ (cA fs x)
     rw [hC] at x1 x3 HTF
     clear x0 x2 x4 x5 x6 x7 hC
     by_cases h3:C.kind=2
     case neg=>
      have HE:=Hd (HBAD.out (by rw [HTF.out,decide_eq_true h3];simp))
      have g3:(C.kind !=2)=true:=by simpa using h3
      clear h3
      go_wp2
      go_ret
      exact ⟨congrArg (fun v=>Ending.returned (Value.int .i64 v)) HE.out.symm,hB6⟩
     have g3:(C.kind !=2)=false:=by simpa using h3
     have H3:=Hd h3
     clear h3
     by_cases h4:j=0/\C.places≠0
     ·have HE:=Hd (HBAD.out (by rw [HTF.out,decide_eq_false (show ¬ j=1 by omega),decide_eq_true h4.2];simp))
      obtain ⟨h4,h5⟩:=h4
      subst h4
      have g4:(C.places !=0)=true:=by simpa using h5
      clear h5
      go_wp2
      go_ret
      exact ⟨congrArg (fun v=>Ending.returned (Value.int .i64 v)) HE.out.symm,hB6⟩
     have HJ2:=Hd (show ∀ t,t<j+1->okC ⟨m,q,ks,hd,tl,ct,sm⟩ (prW ct sm t) (decide (t=1)) from fun y hy=>by
      rcases Nat.lt_or_ge y j with h | h
      ·exact HJ.out y h
      ·obtain rfl:y=j:=by omega
       rw [HT.out]
       refine .inr ?_
       show Qbs ks tl t _=false
       rw [HTF.out,decide_eq_false hx0,decide_eq_false (fun h=>h H3.out)]
       by_cases h6:y=1
       ·rw [decide_eq_true h6];rfl
       ·rw [decide_eq_false (show ¬ C.places≠0 from fun h=>h4 ⟨by omega,h⟩)];simp)
     by_cases h5:j=0
     ·subst h5
      have g4:(C.places !=0)=false:=by
       have:C.places=0:=Classical.byContradiction fun e=>h4 ⟨rfl,e⟩
       simpa using this
      clear h4
      go_wp2
      go_roundw
      case rel=>exact ⟨1,by omega,by go_num,HF6,HK6,HP6,hB6,HJ2⟩
      case measure=>simp [intOf]
     ·have h6:j=1:=by omega
      subst h6
      clear h4 h5
      go_wp2
      go_roundw
      case rel=>exact ⟨2,by omega,by go_num,HF6,HK6,HP6,hB6,HJ2⟩
      case measure=>simp [intOf]
    ·obtain rfl:j=2:=by omega
     have e5:¬ (ct≠⟨#[]⟩/\Qbs ks tl ct false=true):=fun h=>by
      rcases HJ.out 0 (by decide) with k | k
      ·exact h.1 k
      ·have k':Qbs ks tl ct false=false:=k
       rw [k'] at h;cases h.2
     have e6:¬ (sm≠⟨#[]⟩/\Qbs ks tl sm true=true):=fun h=>by
      rcases HJ.out 1 (by decide) with k | k
      ·exact h.1 k
      ·have k':Qbs ks tl sm true=false:=k
       rw [k'] at h;cases h.2
     have E5:=Hd e5;have E6:=Hd e6
     clear e5 e6
     by_cases h1:ct=sm
     ·subst h1
      have g0:(ct.toList==ct.toList)=true:=by simp
      by_cases h2:ct=⟨#[]⟩
      ·have g1:ct.toList.isEmpty=true:=by rw [Qah,decide_eq_true h2]
       have HE:=Hd (show Qbj ⟨m,q,ks,hd,tl,ct,ct⟩=0 by
        unfold Qbj
        simp only
        rw [if_neg E1.out,if_neg E2.out,if_neg E3.out,if_neg E4.out,if_neg E5.out,if_neg E6.out,if_neg (fun h=>h.2 h2)])
       clear h2
       go_wp2
       go_ret
       exact ⟨congrArg (fun v=>Ending.returned (Value.int .i64 v)) HE.out.symm,hB5⟩
      ·have g1:ct.toList.isEmpty=false:=by rw [Qah,decide_eq_false h2]
       have HE:=Hd (show Qbj ⟨m,q,ks,hd,tl,ct,ct⟩=12 by
        unfold Qbj
        simp only
        rw [if_neg E1.out,if_neg E2.out,if_neg E3.out,if_neg E4.out,if_neg E5.out,if_neg E6.out,if_pos ⟨True.intro,h2⟩])
       clear h2
       go_wp2
       go_ret
       exact ⟨congrArg (fun v=>Ending.returned (Value.int .i64 v)) HE.out.symm,hB5⟩
     ·have g0:(ct.toList==sm.toList)=false:=by rw [Qap,decide_eq_false h1]
      have HE:=Hd (show Qbj ⟨m,q,ks,hd,tl,ct,sm⟩=0 by
       unfold Qbj
       simp only
       rw [if_neg E1.out,if_neg E2.out,if_neg E3.out,if_neg E4.out,if_neg E5.out,if_neg E6.out,if_neg (fun h=>h1 h.1)])
      clear h1
      go_wp2
      go_ret
      exact ⟨congrArg (fun v=>Ending.returned (Value.int .i64 v)) HE.out.symm,hB5⟩
theorem check_c (f:Fmt) (A:Option Addr) (c:Nat) (FA:Nat->Option Addr) (FC:Nat->Nat) (w0:World) (ho:Kinds w0 A f.kinds FA FC) (hc:f.kinds.length<=c) (hm:0<=f.mark/\f.mark<=255) (hq:0<=f.quote/\f.quote<=255) :
  Calls Tryz.prog 18 #[fmtG f A c] w0 (RetI (Qao f) w0):=by
 have HM:=Hd (fun w=>marks_c f A c w hm hq)
 have HKF:=Hd (fun i w (h:Kinds w A f.kinds FA FC) hi=>kindfault_c f A c FA FC i w h hi hc)
 have HEF:=Hd (fun w (h:Kinds w A f.kinds FA FC)=>endsfault_c f A c FA FC w h)
 have hn:=ho.1.2
 have HO:=Hd ho
 obtain ⟨m,q,ks,hd,tl,ct,sm⟩:=f
 unfold fmtG at HM HKF HEF ⊢
 simp only at HM HKF HEF HO hn hc ⊢
 obtain ⟨n,hnn⟩:=ex_ (ks.length)
 have HN:=Hd hnn
 rw [hnn] at HM HKF HEF hn hc ⊢
 obtain ⟨MF,hMF⟩:=ex_ (QaE m q)
 rw [hMF] at HM
 have HMF:=Hd hMF
 obtain ⟨EF,hEF⟩:=ex_ (Qbj ⟨m,q,ks,hd,tl,ct,sm⟩)
 rw [hEF] at HEF
 have HEE:=Hd hEF
 have HF:=Hd (Qac w0 (.cells #[.int .u8 m,.int .u8 q,.slice A n c,.string hd,.string tl,.string ct,.string sm] 24) rfl)
 have hB1:Below w0.heap.size w0 (w0.alloc (.cells #[.int .u8 m,.int .u8 q,.slice A n c,.string hd,.string tl,.string ct,.string sm] 24)):=by go_grown
 clear ho hnn hm hq hMF hEF
 go_enter Tryz.func18,Tryz.ntmps18
 go_wp2_with fail
 refine (HM.out _).mono ?_
 rintro e w2 ⟨rfl,hb2⟩
 have HF2:=Hd (Qaa HF.out hb2)
 have hB2:=Qab hb2 hB1 hB1.size
 clear HF hb2 hB1
 obtain ⟨⟨f0,f1,f2,f3,f4,f5,f6⟩,f7⟩:=Qai HF2.out
 by_cases h1:MF=0
 case neg=>
  have HE:=Hd (show Qao ⟨m,q,ks,hd,tl,ct,sm⟩=MF by unfold Qao;simp only;rw [HMF.out,if_pos h1])
  have h1a:(MF !=0)=true:=by simpa using h1
  clear h1
  go_wp2
  go_ret
  exact ⟨congrArg (fun v=>Ending.returned (Value.int .i64 v)) HE.out.symm,hB2⟩
 subst h1
 by_cases h2:n=0
 ·subst h2
  have HE:=Hd (show Qao ⟨m,q,ks,hd,tl,ct,sm⟩=9 by unfold Qao;simp only;rw [HMF.out,if_neg (by decide),if_pos HN.out])
  go_wp2
  go_ret
  exact ⟨congrArg (fun v=>Ending.returned (Value.int .i64 v)) HE.out.symm,hB2⟩
 have h2a:((n:Int)==0)=false:=by
  have:¬ (n:Int)=0:=by omega
  simpa using this
 by_cases h3:30<n
 ·have HE:=Hd (show Qao ⟨m,q,ks,hd,tl,ct,sm⟩=2 by unfold Qao;simp only;rw [HMF.out,if_neg (by decide),HN.out,if_neg h2,if_pos h3])
  have h3a:(30:Int)<(n:Int):=by omega
  clear h2 h3
  go_wp2
  go_ret
  exact ⟨congrArg (fun v=>Ending.returned (Value.int .i64 v)) HE.out.symm,hB2⟩
 have h3a:¬ (30:Int)<(n:Int):=by omega
 have HK:=Hd (show ∀ x,fstF (Qax m ks) n=x->Qao ⟨m,q,ks,hd,tl,ct,sm⟩=if x≠0 then x else EF by
  intro x hx
  unfold Qao
  simp only
  rw [HMF.out,if_neg (by decide),HN.out,if_neg h2,if_neg h3,hx,HEE.out])
 have hn30:n<=30:=by omega
 clear h2 h3
 go_wp2_with fail
 go_loopw [22] (fun i wr=>∃ j:Nat,j<=n/\i=.int .i64 j/\Hid (wr.heap[w0.heap.size]?=some (.cells #[.int .u8 m,.int .u8 q,.slice A n c,.string hd,.string tl,.string ct,.string sm] 24 (0,0)))/\Below w0.heap.size w0 wr/\Hid (∀ t,t<j->Qax m ks t=0)) (fun i _=>n-(intOf i).toNat)
 case atStart=>exact ⟨0,Nat.zero_le _,rfl,HF2,hB2,Hd (fun t h=>absurd h (Nat.not_lt_zero _))⟩
 case round=>
  clear f0 f1 f2 f3 f4 f5 f6 f7 HF2
  obtain ⟨j,hj,rfl,HF,hB5,HJ⟩:=hrel
  obtain ⟨⟨f0,f1,f2,f3,f4,f5,f6⟩,f7⟩:=Qai HF.out
  rcases Nat.lt_or_ge j n with hlt | hge
  ·have HKJ:=Hd (HKF.out j wr (HO.out.below hB5) hlt)
   obtain ⟨X,hX⟩:=ex_ (Qax m ks j)
   rw [hX] at HKJ
   have HX:=Hd hX
   clear hX
   go_wp2_with fail
   refine HKJ.out.mono ?_
   rintro e w3 ⟨rfl,hb3⟩
   have HF3:=Hd (Qaa HF.out hb3)
   have hB3:=Qab hb3 hB5 hB5.size
   by_cases h1:X=0
   ·subst h1
    have HJ2:=Hd (show ∀ t,t<j+1->Qax m ks t=0 from fun t ht=>by
     rcases Nat.lt_or_ge t j with h | h
     ·exact HJ.out t h
     ·obtain rfl:t=j:=by omega
      exact HX.out)
    go_wp2
    go_roundw
    case rel=>exact ⟨j+1,by omega,by go_num,HF3,hB3,HJ2⟩
    case measure=>simp [intOf];omega
   ·have HE:=Hd (show Qao ⟨m,q,ks,hd,tl,ct,sm⟩=X by
     rw [HK.out X (by rw [fstF_hit hlt HJ.out (by rw [HX.out];exact h1),HX.out]),if_pos h1])
    have h1a:(X !=0)=true:=by simpa using h1
    clear h1
    go_wp2
    go_ret
    exact ⟨congrArg (fun v=>Ending.returned (Value.int .i64 v)) HE.out.symm,hB3⟩
  ·obtain rfl:j=n:=by omega
   have HE:=Hd (show Qao ⟨m,q,ks,hd,tl,ct,sm⟩=EF by
    rw [HK.out 0 (fstF_no HJ.out),if_neg (by decide)])
   have HEJ:=Hd (HEF.out wr (HO.out.below hB5))
   go_wp2_with fail
   refine HEJ.out.mono ?_
   rintro e w3 ⟨rfl,hb3⟩
   have hB3:=Qab hb3 hB5 hB5.size
   go_wp2
   go_ret
   exact ⟨congrArg (fun v=>Ending.returned (Value.int .i64 v)) HE.out.symm,hB3⟩
end Go.Proofs.YtaiabjiehpcaoaaGreatDoor
namespace Go.Proofs.YtaiabjiehpcaoaaGreatDoor
open Go.RowKit Limb Nmb Work
set_option linter.unusedVariables false
set_option linter.unusedSimpArgs false
def RetNo (s:ByteArray) (w:World) (e:Ending) (w':World):Prop:=e=.returned (.tuple #[.int .i64 (nVal s),.bool (nOk s)])/\Below w.heap.size w w'
theorem nOk_no {s:ByteArray} (h:nOk s=false) (w w':World) (hb:Below w.heap.size w w'):RetNo s w (.returned (.tuple #[.int .i64 0,.bool false])) w':=by
 unfold RetNo nVal
 rw [h]
 exact ⟨rfl,hb⟩
theorem nOk_yes {s:ByteArray} (h:nOk s=true) (w w':World) (hb:Below w.heap.size w w'):RetNo s w (.returned (.tuple #[.int .i64 ((dv s.data.toList:Nat):Int),.bool true])) w':=by
 unfold RetNo nVal
 rw [h]
 exact ⟨rfl,hb⟩
theorem number_c (s:ByteArray) (w:World) (hs:s.size<=9223372036854775807) :
  Calls Tryz.prog 180 #[.string s,.int .i64 4] w (RetNo s w):=by
 have HD:=Hd (fun w=>isdigs_c s w hs)
 by_cases h1:s.size<=4
 case neg=>
  have HN:=Hd (show nOk s=false by unfold nOk;rw [decide_eq_false h1];rfl)
  have h2:(4:Int)<(s.size:Int):=by omega
  clear h1
  go_enter Tryz.func180,Tryz.ntmps180
  go_wp2
  go_ret2
  exact nOk_no HN.out _ _ (Below.refl _ _)
 have h2:¬ (4:Int)<(s.size:Int):=by omega
 have HE:∀ d z,digs s.data.toList=d->(decide (1<s.size)&&decide (byA s.data.toList 0=48))=z->nOk s=(d&&!z):=by
  intro d z h3 h4
  unfold nOk
  rw [decide_eq_true h1,h3,h4,Bool.true_and]
 have HEE:=Hd HE
 cases hd:digs s.data.toList with
 | false=>
  have HN:=Hd (show nOk s=false by rw [HE _ _ hd rfl];rfl)
  rw [hd] at HD
  clear hd HE h1
  go_enter Tryz.func180,Tryz.ntmps180
  go_wp2_with fail
  refine (HD.out _).mono ?_
  rintro e w2 ⟨rfl,rfl⟩
  go_wp2
  go_ret2
  exact nOk_no HN.out _ _ (Below.refl _ _)
 | true=>
  rw [hd] at HD
  have HA:=Hd (fun w=>atoi_c s w (by omega) hd)
  have h0:=(digs_yes hd).1
  have hl:s.data.toList.length=s.size:=by simp
  have hz:0<s.size:=by omega
  have hb0:byA s.data.toList 0=(s[0].toNat:Int):=by rw [byA_get h0];rfl
  by_cases h5:1<s.size/\s[0].toNat=48
  ·have HN:=Hd (show nOk s=false by
    rw [HE _ _ hd rfl,hb0,decide_eq_true h5.1,decide_eq_true (show (s[0].toNat:Int)=48 by omega)];rfl)
   obtain ⟨h5,h6⟩:=h5
   have g1:(1:Int)<(s.size:Int):=by omega
   have g2:((s[0].toNat:Int)==48)=true:=by rw [h6];rfl
   clear hd HE h1 hb0 hl h0 h5 h6
   go_enter Tryz.func180,Tryz.ntmps180
   go_wp2_with fail
   refine (HD.out _).mono ?_
   rintro e w2 ⟨rfl,rfl⟩
   go_wp2
   go_ret2
   exact nOk_no HN.out _ _ (Below.refl _ _)
  have HN:=Hd (show nOk s=true by
   rw [HE _ _ hd rfl,hb0]
   by_cases h6:1<s.size
   ·rw [decide_eq_true h6,decide_eq_false (show ¬ (s[0].toNat:Int)=48 from fun e=>h5 ⟨h6,by omega⟩)];rfl
   ·rw [decide_eq_false h6];rfl)
  by_cases h6:1<s.size
  ·have g1:(1:Int)<(s.size:Int):=by omega
   have g2:((s[0].toNat:Int)==48)=false:=by
    have:¬ (s[0].toNat:Int)=48:=fun e=>h5 ⟨h6,by omega⟩
    simpa using this
   clear hd HE h1 hb0 hl h0 h5 h6
   go_enter Tryz.func180,Tryz.ntmps180
   go_wp2_with fail
   refine (HD.out _).mono ?_
   rintro e w2 ⟨rfl,rfl⟩
   go_wp2_with fail
   refine (HA.out _).mono ?_
   rintro e w3 ⟨rfl,hb3⟩
   go_wp2
   go_quiet (fail)
   go_wp2
   go_ret2
   exact nOk_yes HN.out _ _ (below_drewN hb3 _)
  ·have g1:¬ (1:Int)<(s.size:Int):=by omega
   clear hd HE h1 hb0 hl h0 h5 h6
   go_enter Tryz.func180,Tryz.ntmps180
   go_wp2_with fail
   refine (HD.out _).mono ?_
   rintro e w2 ⟨rfl,rfl⟩
   go_wp2_with fail
   refine (HA.out _).mono ?_
   rintro e w3 ⟨rfl,hb3⟩
   go_wp2
   go_quiet (fail)
   go_wp2
   go_ret2
   exact nOk_yes HN.out _ _ (below_drewN hb3 _)
theorem lit_dec (s:ByteArray) (l:List UInt8):(s.toList==l)=decide (s=bs l):=by
 rw [Lib.toList_data,Bool.eq_iff_iff,decide_eq_true_iff,beq_iff_eq]
 exact ⟨fun h=>by rw [<- h,bs_self],fun h=>by rw [h,bs_toList]⟩
theorem undash_c (s:ByteArray) (w:World):Calls Tryz.prog 113 #[.string s] w fun e w'=>w=w'/\e=.returned (.string (undS s)):=by
 have hd:(s.toList==[45])=decide (s=⟨#[45]⟩):=lit_dec s [45]
 by_cases h:s=⟨#[45]⟩
 ·have HU:=Hd (show undS s=⟨#[]⟩ by unfold undS;rw [if_pos h];rfl)
  rw [decide_eq_true h] at hd
  clear h
  go_enter Tryz.func113,Tryz.ntmps113
  go_wp2
  go_ret
  exact ⟨rfl,by rw [HU.out];rfl⟩
 ·have HU:=Hd (show undS s=s by unfold undS;rw [if_neg h])
  rw [decide_eq_false h] at hd
  clear h
  go_enter Tryz.func113,Tryz.ntmps113
  go_wp2
  go_ret
  exact ⟨rfl,by rw [HU.out];rfl⟩
def Sts (w:World) (A:Option Addr) (L:List ByteArray):Prop :=
 0<L.length->∃ (b off:Nat) (cs:Array Value) (f:Nat×Nat),A=some ⟨b,off,none⟩/\w.heap[b]?=some (.cells cs 9 f)/\∀ j,j<L.length->cs[off+j]?=some (.string (wd L j))
theorem Sts.keep {w w':World} {A:Option Addr} {L:List ByteArray} (h:Sts w A L) (hk:∀ (g:Nat) (cs:Array Value) (f:Nat×Nat),w.heap[g]?=some (.cells cs 9 f)->w'.heap[g]?=some (.cells cs 9 f)):Sts w' A L:=fun hn=>by
 obtain ⟨b,off,cs,f,e,hh,hc⟩:=h hn
 exact ⟨b,off,cs,f,e,hk _ _ _ hh,hc⟩
theorem Sts.below {w w':World} {A:Option Addr} {L:List ByteArray} (h:Sts w A L) (hb:Below w.heap.size w w'):Sts w' A L:=h.keep fun _ _ _ hh=>Qaa hh hb
theorem Sts.far {w:World} {A:Option Addr} {L:List ByteArray} {b i:Nat} {cs:Array Value} {T:TypeId} {f:Nat×Nat} (h:Sts w A L) (hr:w.heap[b]?=some (.cells cs T f)) (hT:9≠T) (u:Value):Sts (w.setCell ⟨b,i,none⟩ u) A L :=
 h.keep fun _ _ _ hh=>Qaf hh (QaJ hh hr hT) u
theorem Sts.cells {w:World} {A:Option Addr} {L:List ByteArray} (h:Sts w A L) (hn:0<L.length):∃ b off,A=some ⟨b,off,none⟩/\b<w.heap.size/\∀ j,j<L.length->w.cell? ⟨b,off+j,none⟩=some (.string (wd L j)):=by
 obtain ⟨b,off,cs,f,e,hh,hc⟩:=h hn
 exact ⟨b,off,e,Qan hh,fun j hj=>(cell_of_row w b (off+j) cs 9 f hh).trans (hc j hj)⟩
theorem grown_tr {a b c:World} {row:Option Nat} (h:a.grownBy b row) (k:b.grownBy c row):a.grownBy c row :=
 ⟨k.os.trans h.os,k.tape.trans h.tape,k.output.trans h.output,Nat.le_trans h.size k.size,fun i hi hne=>(k.block i (Nat.lt_of_lt_of_le hi h.size) hne).trans (h.block i hi hne)⟩
theorem grown_of {w w':World} (h:Below w.heap.size w w') (row:Option Nat):w.grownBy w' row:=⟨h.os,h.tape,h.output,h.size,fun k hk _=>h.block k hk⟩
theorem Qbh (w:World) (b i:Nat) (u:Value):w.grownBy (w.setCell ⟨b,i,none⟩ u) (some b) :=
 ⟨rfl,rfl,rfl,by simp,fun k _ hne=>Below.heap_setCell w _ u k (fun e=>hne (by rw [e]))⟩
theorem grown_block {w w':World} {b g:Nat} {o:Obj} (h:w.grownBy w' (some b)) (hne:g≠b) (hc:w.heap[g]?=some o):w'.heap[g]?=some o :=
 (h.block g (Qan hc) (fun e=>hne (by injection e))).trans hc
def Wds (w:World) (b:Nat) (L:List ByteArray) (bad:Bool):Prop :=
 ∃ A c,w.heap[b]?=some (.cells #[.slice A L.length c,.bool bad] 139 (0,0))/\L.length<=c/\c<=9223372036854775807/\Sts w A L
theorem wd_tail {L:List ByteArray} (j:Nat):wd L.tail j=wd L (j+1):=by
 cases L with
 | nil=>rfl
 | cons a L=>rfl
theorem sts_tail {w:World} {g off:Nat} {a:ByteArray} {L:List ByteArray} (h:Sts w (some ⟨g,off,none⟩) (a :: L)):Sts w (some ⟨g,off+1,none⟩) L:=fun hn=>by
 obtain ⟨b,o,cs,f,e,hh,hc⟩:=h (by simp)
 injection e with e
 injection e with e1 e2
 subst e1;subst e2
 exact ⟨_,_,cs,f,rfl,hh,fun j hj=>by
  have:=hc (j+1) (by simpa using hj)
  rw [show off+1+j=off+(j+1) by omega,this]
  rfl⟩
def RetNx (b:Nat) (L:List ByteArray) (bad:Bool) (v:Value) (w:World) (e:Ending) (w':World):Prop:=e=.returned v/\Wds w' b L.tail bad/\w.grownBy w' (some b)
theorem next_c (b:Nat) (L:List ByteArray) (bad:Bool) (w:World) (h:Wds w b L bad) :
  Calls Tryz.prog 111 #[.pointer (some ⟨b,0,none⟩)] w (RetNx b L (bad||L.isEmpty) (.string (wd L 0)) w):=by
 obtain ⟨A,c,hh,hc,hm,hs⟩:=h
 obtain ⟨g0,g1,g2,g3,g4⟩:=box2 hh
 cases L with
 | nil=>
  have HH:=Hd hh
  clear hh hs
  go_enter Tryz.func111,Tryz.ntmps111
  go_wp2
  go_ret
  refine ⟨rfl,⟨A,c,?_,hc,hm,fun hn=>absurd hn (by simp)⟩,Qbh _ _ _ _⟩
  have:=Qae HH.out 1 (.bool true)
  simpa using this
 | cons a L=>
  have HST:=Hd hs
  obtain ⟨g,off,rfl,hg,hcs⟩:=hs.cells (by simp)
  have h0:w.cell? ⟨g,off,none⟩=some (.string a):=hcs 0 (by simp)
  have HH:=Hd hh
  have hlen:(a :: L).length=L.length+1:=rfl
  rw [hlen] at g0 hc
  have g0':w.cell? ⟨b,0,none⟩=some (.slice (some ⟨g,off,none⟩) (L.length+1) c):=g0
  obtain ⟨n,hn⟩:=ex_ (L.length)
  have HN:=Hd hn
  rw [hn] at g0' hc
  have i1:(0:Int)<((n+1:Nat):Int):=by omega
  have i2:(((n+1:Nat):Int)==0)=false:=by
   have:¬ ((n+1:Nat):Int)=0:=by omega
   simpa using this
  clear hh hcs g0 hn hlen
  by_cases hcc:c=1
  ·subst hcc
   go_enter Tryz.func111,Tryz.ntmps111
   go_wp2
   go_ret
   obtain rfl:n=0:=by omega
   refine ⟨rfl,⟨some ⟨g,off,none⟩,0,?_,by rw [List.tail_cons,HN.out];exact Nat.le_refl 0,by omega,fun hn=>absurd hn (by rw [List.tail_cons,HN.out];omega)⟩,Qbh _ _ _ _⟩
   have:=Qae HH.out 0 (.slice (some ⟨g,off,none⟩) 0 0)
   rw [List.tail_cons,HN.out]
   simpa using this
  ·go_enter Tryz.func111,Tryz.ntmps111
   go_wp2
   go_ret
   refine ⟨rfl,⟨some ⟨g,off+1,none⟩,c-1,?_,by rw [List.tail_cons,HN.out];omega,by omega,Sts.far (sts_tail HST.out) HH.out (by decide) _⟩,Qbh _ _ _ _⟩
   have:=Qae HH.out 0 (.slice (some ⟨g,off+1,none⟩) n (c-1))
   rw [List.tail_cons,HN.out]
   simpa using this
theorem wnum_c (b:Nat) (L:List ByteArray) (bad:Bool) (w:World) (hz:∀ s∈L,s.size<=9223372036854775807) (h:Wds w b L bad) :
  Calls Tryz.prog 112 #[.pointer (some ⟨b,0,none⟩)] w (RetNx b L (bad||!nOk (wd L 0)) (.int .i64 (nVal (wd L 0))) w):=by
 have HX:=Hd (next_c b L bad w h)
 have HS:=Hd (number_c (wd L 0) · (wd_sz hz 0))
 have HE:=Hd (show (bad||L.isEmpty||!nOk (wd L 0))=(bad||!nOk (wd L 0)) from by
  cases L with
  | nil=>cases bad<;>rfl
  | cons a L=>simp)
 have hbb:b<w.heap.size:=by obtain ⟨A,c,hh,-⟩:=h;exact Qan hh
 clear h hz
 obtain ⟨NV,hNV⟩:=ex_ (nVal (wd L 0))
 obtain ⟨NO,hNO⟩:=ex_ (nOk (wd L 0))
 obtain ⟨s,hs⟩:=ex_ (wd L 0)
 unfold RetNo at HS
 rw [hs] at HX HS hNV hNO HE ⊢
 rw [hNV,hNO] at HS
 rw [hNO] at HE
 rw [hNV,hNO]
 clear hs hNV hNO
 go_enter Tryz.func112,Tryz.ntmps112
 go_wp2_with fail
 refine HX.out.mono ?_
 rintro e w2 ⟨rfl,h2,hg2⟩
 go_wp2_with fail
 refine (HS.out _).mono ?_
 rintro e w3 ⟨rfl,hb3⟩
 obtain ⟨A,c,hh,hc,hm,hst⟩:=h2
 have hh3:=Qaa hh hb3
 have HST:=Hd (hst.below hb3)
 have HH:=Hd hh3
 have HG:=Hd (grown_tr hg2 (grown_of hb3 (some b)))
 obtain ⟨g0,g1,g2,g3,g4⟩:=box2 hh3
 obtain ⟨n,hn⟩:=ex_ (L.tail.length)
 have HN:=Hd hn
 rw [hn] at g0 hc
 have HC:=Hd hc
 obtain ⟨BB,hBB⟩:=ex_ ((bad||L.isEmpty))
 rw [hBB] at g1 HE
 clear hh hh3 hst hb3 hg2 hn hBB hc
 have HFin:∀ x,x=(BB||!NO)->Wds (w3.setCell ⟨b,1,none⟩ (.bool x)) b L.tail (bad||!NO):=fun x hx=>by
  subst hx
  rw [<- HE.out]
  refine ⟨A,c,?_,by rw [HN.out];exact HC.out,hm,Sts.far HST.out HH.out (by decide) _⟩
  have:=Qae HH.out 1 (.bool (BB||!NO))
  simpa using this
 have HFIN:=Hd HFin
 clear HFin
 cases BB with
 | true=>
  go_wp2
  go_ret
  exact ⟨rfl,HFIN.out _ rfl,grown_tr HG.out (Qbh _ _ _ _)⟩
 | false=>
  cases NO with
  | true=>
   go_wp2
   go_ret
   exact ⟨rfl,HFIN.out _ rfl,grown_tr HG.out (Qbh _ _ _ _)⟩
  | false=>
   go_wp2
   go_ret
   exact ⟨rfl,HFIN.out _ rfl,grown_tr HG.out (Qbh _ _ _ _)⟩
theorem wbyte_c (b:Nat) (L:List ByteArray) (bad:Bool) (w:World) (hz:∀ s∈L,s.size<=9223372036854775807) (h:Wds w b L bad) :
  Calls Tryz.prog 179 #[.pointer (some ⟨b,0,none⟩)] w (RetNx b L (bad||!yOk (wd L 0)) (.int .u8 (nVal (wd L 0)%256)) w):=by
 have HX:=Hd (wnum_c b L bad w hz h)
 have hbd:=nVal_bd (wd L 0)
 have HE:=Hd (show ∀ x,decide (255<nVal (wd L 0))=x->(bad||!nOk (wd L 0)||x)=(bad||!yOk (wd L 0)) from fun x hx=>by
  subst hx
  unfold yOk
  cases bad with
  | true=>rfl
  | false=>
   cases nOk (wd L 0) with
   | false=>rfl
   | true=>
    by_cases h:255<nVal (wd L 0)
    ·rw [decide_eq_true h,decide_eq_false (show ¬ nVal (wd L 0)<=255 by omega)];rfl
    ·rw [decide_eq_false h,decide_eq_true (show nVal (wd L 0)<=255 by omega)];rfl)
 clear h hz
 obtain ⟨YO,hYO⟩:=ex_ ((bad||!yOk (wd L 0)))
 obtain ⟨BB,hBB⟩:=ex_ ((bad||!nOk (wd L 0)))
 obtain ⟨NV,hNV⟩:=ex_ (nVal (wd L 0))
 rw [hNV,hYO,hBB] at HE
 rw [hNV,hBB] at HX
 rw [hNV] at hbd
 rw [hNV,hYO]
 clear hNV hYO hBB
 have hcv:∀ w,(convert 3 5 (.int .i64 NV)).run Tryz.prog w=.ok (.int .u8 (NV%256)) w:=fun w=>by
  rfl
 go_enter Tryz.func179,Tryz.ntmps179
 go_wp2_with fail
 refine HX.out.mono ?_
 rintro e w3 ⟨rfl,h2,hg2⟩
 obtain ⟨A,c,hh3,hc,hm,hst⟩:=h2
 have HST:=Hd hst
 have HH:=Hd hh3
 have HG:=Hd hg2
 obtain ⟨g0,g1,g2,g3,g4⟩:=box2 hh3
 obtain ⟨n,hn⟩:=ex_ (L.tail.length)
 have HN:=Hd hn
 rw [hn] at g0 hc
 have HC:=Hd hc
 clear hh3 hst hg2 hn hc
 have HFin:∀ x,(BB||x)=YO->∀ z,z=(BB||x)->Wds (w3.setCell ⟨b,1,none⟩ (.bool z)) b L.tail YO:=fun x hx z hz=>by
  subst hz
  subst hx
  refine ⟨A,c,?_,by rw [HN.out];exact HC.out,hm,Sts.far HST.out HH.out (by decide) _⟩
  have:=Qae HH.out 1 (.bool (BB||x))
  simpa using this
 have HFIN:=Hd HFin
 clear HFin
 cases BB with
 | true=>
  have HZ:=Hd (HE.out _ rfl)
  go_wp2
  go_ret
  exact ⟨rfl,HFIN.out _ HZ.out _ rfl,grown_tr HG.out (Qbh _ _ _ _)⟩
 | false=>
  by_cases h9:255<NV
  ·have HZ:=Hd (HE.out true (decide_eq_true h9))
   go_wp2
   go_ret
   exact ⟨rfl,HFIN.out _ HZ.out _ rfl,grown_tr HG.out (Qbh _ _ _ _)⟩
  ·have HZ:=Hd (HE.out false (decide_eq_false h9))
   go_wp2
   go_ret
   exact ⟨rfl,HFIN.out _ HZ.out _ (decide_eq_false (show ¬ 255<NV by omega)),grown_tr HG.out (Qbh _ _ _ _)⟩
end Go.Proofs.YtaiabjiehpcaoaaGreatDoor
