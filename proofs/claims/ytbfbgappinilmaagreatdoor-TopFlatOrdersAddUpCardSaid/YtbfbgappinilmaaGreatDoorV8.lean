/- The walks of marked of the program and quoted of the reference. -/
import Derived.Test.YtbfbgappinilmaaGreatDoorYP
import Derived.Test.YtbfbgappinilmaaGreatDoorZA
namespace Go.Proofs.YtbfbgappinilmaaGreatDoor
open Go.RowKit Limb Nmb Work
set_option maxHeartbeats 4000000 in
set_option maxRecDepth 100000 in
theorem mark6_c (f:Fmt) (A:Option Addr) (n cp:Nat) (c:Col) (s:ByteArray) (m0:Int) (w:World) (hs:s.size<=9223372036854775807) (hv:s≠⟨#[]⟩->valOk c s.data.toList=true) (hk:ColK f.mark c) (hm:0<=f.mark/\f.mark<=255) (hq:f.quote=0∨(0<=f.quote/\f.quote<128)) (hw:(wrS f.mark c s).size<=1000) (ht:Tab w) (hM:w.cell? ⟨1,0,none⟩=some (.int .i64 m0)) :
  Calls Tryz.prog 87 #[.agg #[.int .u8 f.mark,.int .u8 f.quote,.slice A n cp,.string f.head,.string f.tail,.string f.count,.string f.sum],colG c,.string s] w (RetS (mrkS f.mark f.quote c s) w):=by
 have HW:=Lib.hid (fun w ht=>written_c f A n cp c s w hs hv hk ht)
 obtain ⟨m,q,ks,hd,tl,ct,sm⟩:=f
 obtain ⟨nm,kd,wi,pl,fm,rt,fl,nd⟩:=c
 unfold colG at HW ⊢
 simp only at HW hm hq hw ⊢
 have hF0:=heap_old (heap_new w (.cells #[.int .u8 m,.int .u8 q,.slice A n cp,.string hd,.string tl,.string ct,.string sm] 44) rfl) (.cells #[.string nm,.int .i64 kd,.int .i64 wi,.int .i64 pl,.int .i64 fm,.bool rt,.int .u8 fl,.bool nd] 91)
 have hC0:=heap_new (w.alloc (.cells #[.int .u8 m,.int .u8 q,.slice A n cp,.string hd,.string tl,.string ct,.string sm] 44)) (.cells #[.string nm,.int .i64 kd,.int .i64 wi,.int .i64 pl,.int .i64 fm,.bool rt,.int .u8 fl,.bool nd] 91) (g:=w.heap.size+1) (by simp)
 have hB0:Below w.heap.size w ((w.alloc (.cells #[.int .u8 m,.int .u8 q,.slice A n cp,.string hd,.string tl,.string ct,.string sm] 44)).alloc (.cells #[.string nm,.int .i64 kd,.int .i64 wi,.int .i64 pl,.int .i64 fm,.bool rt,.int .u8 fl,.bool nd] 91)):=by go_grown
 have HTB:=Lib.hid (ht.below hB0)
 have HM0:=Lib.hid ((hB0.cell (p:=⟨1,0,none⟩) (World.block_lt_of_cell? _ _ hM)).trans hM)
 obtain ⟨RS,hRS⟩:∃ x,mrkS m q ⟨nm,kd,wi,pl,fm,rt,fl,nd⟩ s=x:=⟨_,rfl⟩
 rw [hRS]
 obtain ⟨W,hW⟩:∃ x,wrS m ⟨nm,kd,wi,pl,fm,rt,fl,nd⟩ s=x:=⟨_,rfl⟩
 unfold mrkS at hRS
 rw [hW] at hRS HW hw
 have HRS:=Lib.hid hRS
 clear hRS hW ht hv hk
 go_enter Tryz.func87,Tryz.ntmps87
 obtain ⟨⟨f0,f1,f2,f3,f4,f5,f6⟩,f7⟩:=obox7 hF0
 obtain ⟨⟨x0,x1,x2,x3,x4,x5,x6,x7⟩,x8⟩:=obox8 hC0
 go_wp2_with fail
 refine (HW.out _ HTB.out).mono ?_
 rintro e w1 ⟨rfl,hb1⟩
 have HB1:=Lib.hid (below_then hb1 hB0 hB0.size)
 have hF1:=heap_below hF0 hb1
 have HM1:=Lib.hid ((hb1.cell (p:=⟨1,0,none⟩) (World.block_lt_of_cell? _ _ HM0.out)).trans HM0.out)
 clear f0 f1 f2 f3 f4 f5 f6 f7 x0 x1 x2 x3 x4 x5 x6 x7 x8 hF0 hC0 hb1 hB0 hM
 have hz1:=HB1.out.size
 obtain ⟨⟨f0,f1,f2,f3,f4,f5,f6⟩,f7⟩:=obox7 hF1
 clear hF1
 by_cases h0:q=0
 ·have HX:=Lib.hid (show W=RS by rw [<- HRS.out,if_pos (.inl h0)])
  have k0:(q==0)=true:=by simpa using h0
  clear h0
  go_wp2
  go_ret
  exact ⟨congrArg (fun b=>Ending.returned (Value.string b)) HX.out,HB1.out⟩
 have k0:(q==0)=false:=beq_eq_false_iff_ne.2 h0
 have hqr:0<=q/\q<128:=by rcases hq with h | h;exact absurd h h0;exact h
 have HI1:=Lib.hid (fun w=>ixbyte_c W m w hm)
 have HI2:=Lib.hid (fun w=>ixbyte_c W q w (by omega))
 have henc:=enc_small hqr.1 hqr.2
 obtain ⟨Q,hQ⟩:∃ x,(⟨#[UInt8.ofNat q.toNat]⟩:ByteArray)=x:=⟨_,rfl⟩
 have hQs:Q.size=1:=by rw [<- hQ];rfl
 have HQD:=Lib.hid (show Q.data.toList=[qB q] by rw [<- hQ];rfl)
 obtain ⟨RA,hRA⟩:∃ x,bs (Lib.replaceAll W.data.toList [qB q] [qB q,qB q])=x:=⟨_,rfl⟩
 have HRA:=Lib.hid (show RA.data.toList=Lib.replaceAll W.data.toList [qB q] [qB q,qB q] by rw [<- hRA];rfl)
 have hRs:RA.size<=3000:=by
  have h1:=repA_len W.data.toList (qB q)
  rw [<- HRA.out] at h1
  have h2:RA.data.toList.length=RA.size:=by simp
  have h3:W.data.toList.length=W.size:=by simp
  omega
 have HREP:=Lib.hid (show ∀ w,w.cell? ⟨1,0,none⟩=some (.int .i64 m0)->Calls Tryz.prog 128 #[.string W,.string Q,.string (Q++Q)] w fun e w'=>e=.returned (.string RA)/\Below w.heap.size w w' from fun w hM=>by
  have hc:=Lib.countB_le Q (by omega) W.size W (Nat.le_refl _)
  refine (Tryz.strings_ReplaceAll W Q (Q++Q) m0 w (by omega) hM (by omega) (by rw [ByteArray.size_append,hQs];omega)).mono ?_
  rintro e w' ⟨rfl,hb⟩
  refine ⟨?_,hb⟩
  rw [ByteArray.data_append,Array.toList_append,HQD.out,<- hRA]
  rfl)
 rw [show (⟨#[UInt8.ofNat q.toNat]⟩:ByteArray)=Q from hQ] at henc
 have hcv:∀ w,(convert 5 9 (.int .u8 q)).run Tryz.prog w=.ok (.string Q) w:=fun w=>by rw [<- henc];exact run_convert_int_string _ _ _ _ _ (by kernel_rfl) (by kernel_rfl)
 have hcat1:¬ 9223372036854775807<1+RA.size:=by omega
 have hcat2:¬ 9223372036854775807<1+RA.size+1:=by omega
 clear hQ hRA hq henc
 obtain ⟨I1,hI1⟩:∃ x,Lib.indexByte W.data.toList (UInt8.ofNat m.toNat)=x:=⟨_,rfl⟩
 obtain ⟨I2,hI2⟩:∃ x,Lib.indexByte W.data.toList (UInt8.ofNat q.toNat)=x:=⟨_,rfl⟩
 rw [hI1] at HI1
 rw [hI2] at HI2
 rw [show Lib.indexByte W.data.toList (qB m)=I1 from hI1,show Lib.indexByte W.data.toList (qB q)=I2 from hI2] at HRS
 have HN0:=Lib.hid h0
 clear hI1 hI2 h0 hm hqr
 by_cases h1:I1<0
 ·by_cases h2:I2<0
  ·have HX:=Lib.hid (show W=RS by rw [<- HRS.out,if_pos (.inr ⟨h1,h2⟩)])
   go_wp2_with fail
   refine (HI1.out _).mono ?_
   rintro e w2 ⟨rfl,rfl⟩
   go_wp2_with fail
   refine (HI2.out _).mono ?_
   rintro e w2 ⟨rfl,rfl⟩
   go_wp2
   go_ret
   exact ⟨congrArg (fun b=>Ending.returned (Value.string b)) HX.out,HB1.out⟩
  ·have HX:=Lib.hid (show Q++RA++Q=RS by
    rw [<- HRS.out,if_neg (fun h=>h.elim HN0.out (fun h=>h2 h.2))]
    exact bs_cat _ _ _ _ (by rw [ByteArray.data_append,Array.toList_append,HQD.out,HRA.out]) HQD.out)
   go_wp2_with fail
   refine (HI1.out _).mono ?_
   rintro e w2 ⟨rfl,rfl⟩
   go_wp2_with fail
   refine (HI2.out _).mono ?_
   rintro e w2 ⟨rfl,rfl⟩
   go_wp2_with fail
   refine (HREP.out _ HM1.out).mono ?_
   rintro e w2 ⟨rfl,hb2⟩
   have hB2:=below_then hb2 HB1.out HB1.out.size
   go_wp2
   go_ret
   exact ⟨congrArg (fun b=>Ending.returned (Value.string b)) HX.out,hB2⟩
 ·have HX:=Lib.hid (show Q++RA++Q=RS by
   rw [<- HRS.out,if_neg (fun h=>h.elim HN0.out (fun h=>h1 h.1))]
   exact bs_cat _ _ _ _ (by rw [ByteArray.data_append,Array.toList_append,HQD.out,HRA.out]) HQD.out)
  go_wp2_with fail
  refine (HI1.out _).mono ?_
  rintro e w2 ⟨rfl,rfl⟩
  go_wp2_with fail
  refine (HREP.out _ HM1.out).mono ?_
  rintro e w2 ⟨rfl,hb2⟩
  have hB2:=below_then hb2 HB1.out HB1.out.size
  go_wp2
  go_ret
  exact ⟨congrArg (fun b=>Ending.returned (Value.string b)) HX.out,hB2⟩
end Go.Proofs.YtbfbgappinilmaaGreatDoor
