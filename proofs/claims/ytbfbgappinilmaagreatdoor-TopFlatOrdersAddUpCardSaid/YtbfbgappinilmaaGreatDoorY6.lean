
/- The walks of the program's sumOf and SumOf. (Printed by genY6.py.) -/
import Derived.Test.YtbfbgappinilmaaGreatDoorY5
import Derived.Test.YtbfbgappinilmaaGreatDoorG1
namespace Go.Proofs.YtbfbgappinilmaaGreatDoor
open Go.RowKit Limb Nmb Work
set_option linter.unusedVariables false
set_option linter.unusedSimpArgs false
theorem made_zero {z p:Int} (h:(made z p).2.2≠0):(made z p).1=0/\(made z p).2.1=0:=by
 by_cases hz:z.natAbs<=1000000000000000
 ·rw [show made z p=(z,p,0) from if_pos hz] at h;exact absurd rfl h
 ·rw [show made z p=(0,0,1) from if_neg hz];exact ⟨rfl,rfl⟩
theorem readR_zero {neg:Bool} {l:List UInt8} {nb:Int} (h:(readR neg l nb).2.2≠0):(readR neg l nb).1=0/\(readR neg l nb).2.1=0:=by
 cases neg with
 | true=>
  by_cases h0:numL l=0
  ·have e:readR true l nb=(0,0,10):=by simp [readR,h0]
   rw [e];exact ⟨rfl,rfl⟩
  ·have e:readR true l nb=made (-(numL l:Int)) nb:=by simp [readR,h0]
   rw [e] at h ⊢;exact made_zero h
 | false=>
  have e:readR false l nb=made (numL l:Int) nb:=by simp [readR]
  rw [e] at h ⊢;exact made_zero h
theorem readText_dec2 (l:List UInt8):decB (readText l).1 (readText l).2.1=true:=by
 by_cases h:(readText l).2.2=0
 ·exact readText_dec h
 ·have e:readText l=(0,0,10)∨∃ neg m nb,readText l=readR neg m nb:=by
   unfold readText
   simp only
   by_cases hb:(decide (40<l.length)||!wholeB (cutL (if (l.head? == some 45)=true then l.tail else l) 46).1||((cutL (if (l.head? == some 45)=true then l.tail else l) 46).2.2&&(!digB (cutL (if (l.head? == some 45)=true then l.tail else l) 46).2.1||decide (9<(cutL (if (l.head? == some 45)=true then l.tail else l) 46).2.1.length))))=true
   ·rw [if_pos hb];exact .inl rfl
   ·rw [if_neg hb];exact .inr ⟨_,_,_,rfl⟩
  rcases e with e | ⟨neg,m,nb,e⟩
  ·rw [e];decide
  ·rw [e] at h ⊢
   obtain ⟨h1,h2⟩:=readR_zero h
   rw [h1,h2]
   decide
def rowZ (f:Fmt) (tag name:ByteArray) (r:RowP):Int :=
 if (tag≠⟨#[]⟩/\r.tag≠tag)∨ixF (nameIs name) (katK f r.tag).fields<0∨wd r.vals (ixF (nameIs name) (katK f r.tag).fields).toNat=⟨#[]⟩ then 0
 else scaled (readText (wd r.vals (ixF (nameIs name) (katK f r.tag).fields).toNat).data.toList).1 (readText (wd r.vals (ixF (nameIs name) (katK f r.tag).fields).toNat).data.toList).2.1 9
def sumZr (f:Fmt) (tag name:ByteArray) (rs:List RowP):Nat->Int
 | 0=>0
 | j+1=>sumZr f tag name rs j+rowZ f tag name (rA rs j)
theorem scl_bd {u p:Int} (h:decB u p=true) : -1000000000000000000000000<=scaled u p 9/\scaled u p 9<=1000000000000000000000000:=by
 have:=decB_out h
 exact scaled_bound (by omega) (by omega)
set_option maxHeartbeats 8000000 in
set_option maxRecDepth 100000 in
theorem sumofX_c (f:Fmt) (A:Option Addr) (cp:Nat) (FA:Nat->Option Addr) (FC:Nat->Nat) (L:Option Addr) (LC:Nat) (rs:List RowP) (RA:Nat->Option Addr) (RC:Nat->Nat) (tag name:ByteArray) (w:World) (ho:Kinds w A f.kinds FA FC) (hl:RowsM w L rs RA RC) (hrk:∀ j,j<rs.length->RowK f (rA rs j)) (h2000:rs.length<=1000000000000000) :
  Calls Tryz.prog 37 #[fmtG f A cp,.slice L rs.length LC,.string tag,.string name] w (RetD (fewF (sumZr f tag name rs rs.length) 9) w):=by
 have HKA:=Lib.hid (fun t w h=>kindat_c f A cp FA FC t w h)
 have HCC:=Lib.hid (fun t=>kat_cases f FA FC t)
 have HKI:=Lib.hid ho;have HLM:=Lib.hid hl;have HRK:=Lib.hid hrk
 obtain ⟨R,hR⟩:∃ x,fewF (sumZr f tag name rs rs.length) 9=x:=⟨_,rfl⟩
 have HR:=Lib.hid hR
 rw [hR]
 clear ho hl hrk hR
 obtain ⟨m,q,ks,hd,tl,ct,sm⟩:=f
 unfold fmtG at HKA ⊢
 simp only at HKA HCC HKI ⊢
 obtain ⟨n,hn⟩:∃ x,ks.length=x:=⟨_,rfl⟩
 rw [hn] at HKA ⊢
 clear hn
 obtain ⟨nr,hnr⟩:∃ x,rs.length=x:=⟨_,rfl⟩
 have HNR:=Lib.hid hnr
 rw [hnr] at HR h2000 ⊢
 clear hnr
 have hF0:=heap_old (heap_new w (.cells #[.int .u8 m,.int .u8 q,.slice A n cp,.string hd,.string tl,.string ct,.string sm] 44) rfl) (.cells #[.int .i64 0,.int .i64 0] 31)
 have hZ0:=heap_new (w.alloc (.cells #[.int .u8 m,.int .u8 q,.slice A n cp,.string hd,.string tl,.string ct,.string sm] 44)) (.cells #[.int .i64 0,.int .i64 0] 31) (g:=w.heap.size+1) (by simp)
 have hB0:Below w.heap.size w ((w.alloc (.cells #[.int .u8 m,.int .u8 q,.slice A n cp,.string hd,.string tl,.string ct,.string sm] 44)).alloc (.cells #[.int .i64 0,.int .i64 0] 31)):=by go_grown
 go_enter Tryz.func37,Tryz.ntmps37
 go_wp2_with fail
 refine (of_c 0 _ (by decide) (by decide)).mono ?_
 rintro _ w2 ⟨s1,A1,n1,c1,rfl,hz,hb2⟩
 have HF2:=Lib.hid (heap_old (heap_below hF0 hb2) (.cells #[.bool s1,.slice A1 n1 c1] 73))
 have HZ2:=Lib.hid (heap_old (heap_below hZ0 hb2) (.cells #[.bool s1,.slice A1 n1 c1] 73))
 have HS2:=Lib.hid (heap_new w2 (.cells #[.bool s1,.slice A1 n1 c1] 73) rfl)
 have hB2:=below_then hb2 hB0 hB0.size
 have HB2:Hid (Below w.heap.size w (w2.alloc (.cells #[.bool s1,.slice A1 n1 c1] 73))):=Lib.hid (hB2.alloc hB2.size _)
 have HG2:=Lib.hid (hz.alloc (.cells #[.bool s1,.slice A1 n1 c1] 73))
 have hNS:w.heap.size+1<w2.heap.size:=lt_heap (heap_below hZ0 hb2)
 clear hF0 hZ0 hB0 hz hb2 hB2
 go_upto_region 2 with fail
 obtain ⟨SB,hSB⟩:∃ x,w2.heap.size=x:=⟨_,rfl⟩
 rw [hSB] at HS2 hNS
 try rw [hSB]
 generalize w2.alloc (.cells #[.bool s1,.slice A1 n1 c1] 73)=w3 at HF2 HZ2 HS2 HB2 HG2 ⊢
 clear hSB
 go_wp2_with fail
 go_loopw [21] (fun i wr=>∃ (j:Nat) (z:Int) (s:Bool) (SA:Option Addr) (sn sc:Nat),j<=nr/\i=.int .i64 j/\Hid (sumZr ⟨m,q,ks,hd,tl,ct,sm⟩ tag name rs j=z)/\Hid (-(j:Int)*1000000000000000000000000<=z/\z<=(j:Int)*1000000000000000000000000)/\Hid (Big .u32 127 B32 wr s SA sn sc z)/\Hid (wr.heap[w.heap.size]?=some (.cells #[.int .u8 m,.int .u8 q,.slice A n cp,.string hd,.string tl,.string ct,.string sm] 44 (0,0)))/\Hid (wr.heap[w.heap.size+1]?=some (.cells #[.int .i64 0,.int .i64 0] 31 (0,0)))/\Hid (wr.heap[SB]?=some (.cells #[.bool s,.slice SA sn sc] 73 (0,0)))/\Hid (Below w.heap.size w wr)) (fun i _=>nr-(intOf i).toNat)
 case atStart=>exact ⟨0,0,s1,A1,n1,c1,Nat.zero_le _,rfl,Lib.hid rfl,Lib.hid (by omega),HG2,HF2,HZ2,HS2,HB2⟩
 case round=>
  clear HF2 HZ2 HS2 HB2 HG2
  obtain ⟨j,z,s,SA,sn,sc,hj,rfl,HZ0,HBD,HG,HF,HZ,HS,HB⟩:=hrel
  have hzr:=HB.out.size
  rcases Nat.lt_or_ge j nr with hlt | hge
  ·obtain ⟨b,off,rfl,hbw,c0,c1⟩:=(HLM.out.below HB.out).cells (j:=j) (by rw [HNR.out];exact hlt)
   have HRJ:=Lib.hid ((HLM.out.below HB.out).each j (by rw [HNR.out];exact hlt))
   have HRO:=Lib.hid (HRK.out j (by rw [HNR.out];exact hlt))
   have HSC:=Lib.hid (show sumZr ⟨m,q,ks,hd,tl,ct,sm⟩ tag name rs (j+1)=sumZr ⟨m,q,ks,hd,tl,ct,sm⟩ tag name rs j+rowZ ⟨m,q,ks,hd,tl,ct,sm⟩ tag name (rA rs j) from rfl)
   obtain ⟨r,hr⟩:∃ x,rA rs j=x:=⟨_,rfl⟩
   obtain ⟨RJ,hRJ⟩:∃ x,RA j=x:=⟨_,rfl⟩
   obtain ⟨CJ,hCJ⟩:∃ x,RC j=x:=⟨_,rfl⟩
   rw [hr,hRJ,hCJ] at HRJ
   rw [hr] at c0 HRO HSC
   rw [hr,hRJ,hCJ] at c1
   clear hr hRJ hCJ
   obtain ⟨rt,vs⟩:=r
   have HKJ:=Lib.hid (fun w h=>HKA.out rt w h)
   have HCJ:=Lib.hid (HCC.out rt)
   have hmany:=HRO.out.many
   have hkind:=HRO.out.kind
   simp only at hmany hkind c0 c1
   obtain ⟨nv,hnv⟩:∃ x,vs.length=x:=⟨_,rfl⟩
   have HNV:=Lib.hid hnv
   rw [hnv] at c1 hmany
   have HMN:=Lib.hid hmany
   clear hmany
   have hnvc:nv<=CJ:=by rw [<- hnv];exact HRJ.out.len.1
   have hnvb:=HRJ.out.len.2
   clear hnv
   have hF5:=heap_old HF.out (.cells #[.string rt,.slice RJ nv CJ] 39);have hZ5:=heap_old HZ.out (.cells #[.string rt,.slice RJ nv CJ] 39);have hS5:=heap_old HS.out (.cells #[.string rt,.slice RJ nv CJ] 39)
   have hR5:=heap_new wr (.cells #[.string rt,.slice RJ nv CJ] 39) rfl
   have hb5:Below wr.heap.size wr (wr.alloc (.cells #[.string rt,.slice RJ nv CJ] 39)):=by go_grown
   have HG5:=Lib.hid (HG.out.alloc (.cells #[.string rt,.slice RJ nv CJ] 39))
   go_upto_region 5 with fail
   obtain ⟨rn,hrn⟩:∃ x,wr.heap.size=x:=⟨_,rfl⟩
   rw [hrn] at hR5
   try rw [hrn]
   have HB5:=Lib.hid (below_then hb5 HB.out hzr)
   generalize wr.alloc (.cells #[.string rt,.slice RJ nv CJ] 39)=w5 at hF5 hZ5 hS5 hR5 hb5 HG5 HB5 ⊢
   have HF5:=Lib.hid hF5;have HZ5:=Lib.hid hZ5;have HS5:=Lib.hid hS5;have HR5:=Lib.hid hR5
   have HRJ5:=Lib.hid (HRJ.out.below hb5)
   obtain ⟨⟨f0,f1,f2,f3,f4,f5,f6⟩,f7⟩:=obox7 hF5
   obtain ⟨r0,r1,-,-,r2⟩:=box2 hR5
   clear c0 c1 hF5 hZ5 hS5 hR5 hrn hbw hb5 HG HF HZ HS HB HRJ
   go_wp2_with fail
   refine (HKJ.out _ (HKI.out.below HB5.out)).mono ?_
   rintro _ w6 ⟨rfl,hb6⟩
   rcases HCJ.out with ⟨h1,-,-,-⟩|⟨k,hk,h1,h2,h3,h4⟩
   ·omega
   have hdec:decide ((0:Int)<=(k:Int))=true:=decide_eq_true (by omega)
   rw [h1,h2,h3,h4,hdec]
   have hmany:=HMN.out
   rw [h2] at hmany
   have HCO:=Lib.hid ((HKI.out).2.2 k hk)
   have HCA:=Lib.hid (fun w h=>colat_c (kA ks k) (FA k) (FC k) name w h)
   have HIX:=Lib.hid (ixF_spec (nameIs name) (kA ks k).fields)
   have HRZ:=Lib.hid (show rowZ ⟨m,q,ks,hd,tl,ct,sm⟩ tag name ⟨rt,vs⟩=if (tag≠⟨#[]⟩/\rt≠tag)∨ixF (nameIs name) (kA ks k).fields<0∨wd vs (ixF (nameIs name) (kA ks k).fields).toNat=⟨#[]⟩ then 0 else scaled (readText (wd vs (ixF (nameIs name) (kA ks k).fields).toNat).data.toList).1 (readText (wd vs (ixF (nameIs name) (kA ks k).fields).toNat).data.toList).2.1 9 by unfold rowZ;simp only;rw [h2])
   obtain ⟨K,hK⟩:∃ x,kA ks k=x:=⟨_,rfl⟩
   rw [hK] at HCO HCA HIX HRZ hmany ⊢
   clear h1 h2 h3 h4 hdec hK hk hkind
   obtain ⟨kt,fs,km,ku⟩:=K
   unfold kindG at HCA ⊢
   simp only at HCO HCA HIX HRZ hmany ⊢
   obtain ⟨KA,hKA⟩:∃ x,FA k=x:=⟨_,rfl⟩
   obtain ⟨KC,hKC⟩:∃ x,FC k=x:=⟨_,rfl⟩
   have hnf:fs.length=nv:=hmany.symm
   have HNF:=Lib.hid hnf
   rw [hKA,hKC] at HCO HCA ⊢
   rw [hnf] at HCO HCA ⊢
   clear hKA hKC hmany hnf
   have HF7:=Lib.hid (heap_old (heap_below HF5.out hb6) (.cells #[.string kt,.slice KA nv KC,.int .i64 km,.string ku] 83));have HZ7:=Lib.hid (heap_old (heap_below HZ5.out hb6) (.cells #[.string kt,.slice KA nv KC,.int .i64 km,.string ku] 83));have HS7:=Lib.hid (heap_old (heap_below HS5.out hb6) (.cells #[.string kt,.slice KA nv KC,.int .i64 km,.string ku] 83))
   have HR7:=Lib.hid (heap_old (heap_below HR5.out hb6) (.cells #[.string kt,.slice KA nv KC,.int .i64 km,.string ku] 83))
   have HK7:=Lib.hid (heap_new w6 (.cells #[.string kt,.slice KA nv KC,.int .i64 km,.string ku] 83) rfl)
   have hb67:Below w5.heap.size w5 (w6.alloc (.cells #[.string kt,.slice KA nv KC,.int .i64 km,.string ku] 83)):=hb6.alloc hb6.size _
   have HG7:=Lib.hid (HG5.out.below hb67)
   have HRJ7:=Lib.hid (HRJ5.out.below hb67)
   have HB7:=Lib.hid (below_then hb67 HB5.out HB5.out.size)
   clear f0 f1 f2 f3 f4 f5 f6 f7 r0 r1 r2 HF5 HZ5 HS5 HR5 HG5 HB5 HRJ5 hb6 hb67
   go_upto_region 6 with fail
   obtain ⟨k0,hk0⟩:∃ x,w6.heap.size=x:=⟨_,rfl⟩
   rw [hk0] at HK7
   try rw [hk0]
   generalize w6.alloc (.cells #[.string kt,.slice KA nv KC,.int .i64 km,.string ku] 83)=w7 at HF7 HZ7 HS7 HR7 HK7 HG7 HRJ7 HB7 ⊢
   clear hk0
   obtain ⟨⟨y0,y1,y2,y3⟩,-,y4⟩:=obox4 HK7.out
   go_wp2_with fail
   refine (HCA.out _ (HCO.out.1.below HB7.out)).mono ?_
   rintro _ w8 ⟨rfl,hb8⟩
   have HF8:=Lib.hid (heap_below HF7.out hb8);have HZ8:=Lib.hid (heap_below HZ7.out hb8);have HS8:=Lib.hid (heap_below HS7.out hb8);have HR8:=Lib.hid (heap_below HR7.out hb8)
   have HG8:=Lib.hid (HG7.out.below hb8);have HRJ8:=Lib.hid (HRJ7.out.below hb8)
   have HB8:=Lib.hid (below_then hb8 HB7.out HB7.out.size)
   clear y0 y1 y2 y3 y4 HF7 HZ7 HS7 HR7 HK7 HG7 HRJ7 HB7 hb8
   obtain ⟨r0,r1,-,-,r2⟩:=box2 HR8.out
   have hte:=emp_dec tag
   have hrt:=bytes_dec rt tag
   by_cases hA:tag≠⟨#[]⟩/\rt≠tag
   ·have HZE:=Lib.hid (show rowZ ⟨m,q,ks,hd,tl,ct,sm⟩ tag name ⟨rt,vs⟩=0 by rw [HRZ.out,if_pos (.inl hA)])
    rw [decide_eq_false hA.1] at hte
    rw [decide_eq_false hA.2] at hrt
    generalize ixF (nameIs name) fs=ii
    clear hA
    have HZN:=Lib.hid (show sumZr ⟨m,q,ks,hd,tl,ct,sm⟩ tag name rs (j+1)=z by rw [HSC.out,HZ0.out,HZE.out];exact Int.add_zero _)
    have HZB:=Lib.hid (show -((j+1:Nat):Int)*1000000000000000000000000<=z/\z<=((j+1:Nat):Int)*1000000000000000000000000 by have:=HBD.out;omega)
    go_wp2
    go_roundw
    case rel=>exact ⟨j+1,z,s,SA,sn,sc,by omega,by go_num,HZN,HZB,HG8,HF8,HZ8,HS8,HB8⟩
    case measure=>simp [intOf];omega
   rcases HIX.out with ⟨h1,-⟩|⟨ic,hi,h1,-,-⟩
   ·have HZE:=Lib.hid (show rowZ ⟨m,q,ks,hd,tl,ct,sm⟩ tag name ⟨rt,vs⟩=0 by rw [HRZ.out,if_pos (.inr (.inl (by rw [h1];decide)))])
    rw [h1]
    clear h1
    by_cases ht0:tag=⟨#[]⟩
    ·rw [decide_eq_true ht0] at hte
     clear hA ht0
     have HZN:=Lib.hid (show sumZr ⟨m,q,ks,hd,tl,ct,sm⟩ tag name rs (j+1)=z by rw [HSC.out,HZ0.out,HZE.out];exact Int.add_zero _)
     have HZB:=Lib.hid (show -((j+1:Nat):Int)*1000000000000000000000000<=z/\z<=((j+1:Nat):Int)*1000000000000000000000000 by have:=HBD.out;omega)
     go_wp2
     go_roundw
     case rel=>exact ⟨j+1,z,s,SA,sn,sc,by omega,by go_num,HZN,HZB,HG8,HF8,HZ8,HS8,HB8⟩
     case measure=>simp [intOf];omega
    ·have ht1:rt=tag:=Classical.byContradiction fun k=>hA ⟨ht0,k⟩
     rw [decide_eq_false ht0] at hte
     rw [decide_eq_true ht1] at hrt
     clear hA ht0 ht1
     have HZN:=Lib.hid (show sumZr ⟨m,q,ks,hd,tl,ct,sm⟩ tag name rs (j+1)=z by rw [HSC.out,HZ0.out,HZE.out];exact Int.add_zero _)
     have HZB:=Lib.hid (show -((j+1:Nat):Int)*1000000000000000000000000<=z/\z<=((j+1:Nat):Int)*1000000000000000000000000 by have:=HBD.out;omega)
     go_wp2
     go_roundw
     case rel=>exact ⟨j+1,z,s,SA,sn,sc,by omega,by go_num,HZN,HZB,HG8,HF8,HZ8,HS8,HB8⟩
     case measure=>simp [intOf];omega
   ·have hicv:ic<nv:=by rw [<- HNF.out];exact hi
    obtain ⟨b2,off2,rfl,hbw2,hcs⟩:=HRJ8.out.vals.cells (by show 0<vs.length;rw [HNV.out];omega)
    have s0:=hcs ic (by show ic<vs.length;rw [HNV.out];exact hicv)
    simp only at s0
    have hsz:=wd_size HRJ8.out.size ic
    simp only at hsz
    have HRZ2:=Lib.hid (show rowZ ⟨m,q,ks,hd,tl,ct,sm⟩ tag name ⟨rt,vs⟩=if wd vs ic=⟨#[]⟩ then 0 else scaled (readText (wd vs ic).data.toList).1 (readText (wd vs ic).data.toList).2.1 9 by
     rw [HRZ.out,h1,Int.toNat_natCast]
     by_cases h9:wd vs ic=⟨#[]⟩
     ·rw [if_pos h9,if_pos (.inr (.inr h9))]
     ·rw [if_neg h9,if_neg (by rintro (k | k | k);exact hA k;omega;exact h9 k)])
    obtain ⟨sv,hs⟩:∃ x,wd vs ic=x:=⟨_,rfl⟩
    rw [hs] at s0 hsz HRZ2
    rw [h1]
    clear h1 hs hcs hi
    by_cases ht0:tag=⟨#[]⟩
    ·rw [decide_eq_true ht0] at hte
     clear hA ht0
     have hsv:=emp_dec sv
     by_cases h0:sv=⟨#[]⟩
     ·have HZE:=Lib.hid (show rowZ ⟨m,q,ks,hd,tl,ct,sm⟩ tag name ⟨rt,vs⟩=0 by rw [HRZ2.out,if_pos h0])
      rw [decide_eq_true h0] at hsv
      clear h0
      have HZN:=Lib.hid (show sumZr ⟨m,q,ks,hd,tl,ct,sm⟩ tag name rs (j+1)=z by rw [HSC.out,HZ0.out,HZE.out];exact Int.add_zero _)
      have HZB:=Lib.hid (show -((j+1:Nat):Int)*1000000000000000000000000<=z/\z<=((j+1:Nat):Int)*1000000000000000000000000 by have:=HBD.out;omega)
      go_wp2
      go_roundw
      case rel=>exact ⟨j+1,z,s,SA,sn,sc,by omega,by go_num,HZN,HZB,HG8,HF8,HZ8,HS8,HB8⟩
      case measure=>simp [intOf];omega
     rw [decide_eq_false h0] at hsv
     have HZE:=Lib.hid (show rowZ ⟨m,q,ks,hd,tl,ct,sm⟩ tag name ⟨rt,vs⟩=scaled (readText sv.data.toList).1 (readText sv.data.toList).2.1 9 by rw [HRZ2.out,if_neg h0])
     have hdc:=readText_dec2 sv.data.toList
     have HRT:=Lib.hid (fun w=>readtext_c sv w hsz)
     obtain ⟨⟨u,p,e⟩,hrd⟩:∃ x,readText sv.data.toList=x:=⟨_,rfl⟩
     rw [hrd] at HZE hdc HRT
     simp only at HZE hdc
     unfold RetD at HRT
     simp only at HRT
     have HDC:=Lib.hid hdc
     have hbd:=scl_bd hdc
     have HSM:=Lib.hid (show Small z from small_of_le (by have:=HBD.out;omega) (by have:=HBD.out;omega))
     have HSV:=Lib.hid (show Small (scaled u p 9) from small_of_le (by omega) (by omega))
     have HZN:=Lib.hid (show sumZr ⟨m,q,ks,hd,tl,ct,sm⟩ tag name rs (j+1)=z+scaled u p 9 by rw [HSC.out,HZ0.out,HZE.out])
     have HZB:=Lib.hid (show -((j+1:Nat):Int)*1000000000000000000000000<=z+scaled u p 9/\z+scaled u p 9<=((j+1:Nat):Int)*1000000000000000000000000 by have:=HBD.out;omega)
     clear h0 hrd hdc hbd
     go_wp2_with fail
     refine (HRT.out _).mono ?_
     rintro _ wc ⟨rfl,hbc⟩
     have HF9:=Lib.hid (heap_old (heap_below HF8.out hbc) (.cells #[.int .i64 u,.int .i64 p] 31));have HZ9:=Lib.hid (heap_old (heap_below HZ8.out hbc) (.cells #[.int .i64 u,.int .i64 p] 31));have HS9:=Lib.hid (heap_old (heap_below HS8.out hbc) (.cells #[.int .i64 u,.int .i64 p] 31))
     have HD9:=Lib.hid (heap_new wc (.cells #[.int .i64 u,.int .i64 p] 31) rfl)
     have hbc9:Below w8.heap.size w8 (wc.alloc (.cells #[.int .i64 u,.int .i64 p] 31)):=hbc.alloc hbc.size _
     have HG9:=Lib.hid (HG8.out.below hbc9)
     have HB9:=Lib.hid (below_then hbc9 HB8.out HB8.out.size)
     clear HF8 HZ8 HS8 HG8 HB8 r0 r1 r2 HR8 HRJ8 hbc hbc9 s0 hbw2
     go_upto_region 9 with fail
     obtain ⟨DB,hDB⟩:∃ x,wc.heap.size=x:=⟨_,rfl⟩
     rw [hDB] at HD9
     try rw [hDB]
     generalize wc.alloc (.cells #[.int .i64 u,.int .i64 p] 31)=w8 at HF9 HZ9 HS9 HD9 HG9 HB9 ⊢
     clear hDB
     have HG8:=HG9
     have HSB:=Lib.hid (show ∀ wx,Below w8.heap.size w8 wx->(fun w':World=>w'.cell? ⟨SB,0,none⟩=some (.bool s)/\w'.cell? ⟨SB,1,none⟩=some (.slice SA sn sc)/\w'.cell? ⟨DB,0,none⟩=some (.int .i64 u)/\w'.cell? ⟨DB,1,none⟩=some (.int .i64 p)) wx from fun wx h=>by
      obtain ⟨a0,a1,-,-,-⟩:=box2 (heap_below HS9.out h)
      obtain ⟨b0,b1,-,-,-⟩:=box2 (heap_below HD9.out h)
      exact ⟨a0,a1,b0,b1⟩)
     have hT:=HSB.out _ ((Below.refl _ _).drew)
     have hfz:w8.frozen? ⟨SB,0,none⟩=false/\w8.frozen? ⟨SB,1,none⟩=false:=⟨(box2 HS9.out).2.2.1,(box2 HS9.out).2.2.2.1⟩
     refine region_till 4 (fun w':World=>w'.cell? ⟨SB,0,none⟩=some (.bool s)/\w'.cell? ⟨SB,1,none⟩=some (.slice SA sn sc)/\w'.cell? ⟨DB,0,none⟩=some (.int .i64 u)/\w'.cell? ⟨DB,1,none⟩=some (.int .i64 p)) (by kernel_rfl) ?_
     refine Till.tk (i:=0) (v:=?_) rfl [3] hT (Or.inl ⟨by rfl,?_⟩) ?_
     rotate_left
     ·(intro w' hw';obtain ⟨u1,u2,u3,u4⟩:=hw';go_simp;try with_reducible rfl)
     (try simp only [Act.put,Till.a,Till.b,Till.c])
     refine Till.tk (i:=1) (v:=?_) rfl [2,3] hT (Or.inl ⟨by rfl,?_⟩) ?_
     rotate_left
     ·(intro w' hw';obtain ⟨u1,u2,u3,u4⟩:=hw';go_simp;try with_reducible rfl)
     (try simp only [Act.put,Till.a,Till.b,Till.c])
     refine Till.step (i:=2) (by kernel_rfl) rfl ?_
     intro K hK
     go_simp
     (go_at_call 57;refine (value_c u p _ HDC.out).mono ?_;rintro _ wa ⟨sa,Aa,na,ca,rfl,hva,hba⟩;(have Ta:Below w8.heap.size w8 wa:=by exact ⟨hba.os,hba.tape,hba.output,hba.size,hba.block⟩))
     have hT:=HSB.out _ Ta
     refine hK.out _ _ (fun _=>hT) ?_
     clear hK K
     (try simp only [Act.put,Till.a,Till.b,Till.c])
     refine Till.step (i:=3) (by kernel_rfl) rfl ?_
     intro K hK
     go_simp
     (go_at_call 54;refine (plus_c _ (HG8.out.below Ta) hva HSM.out HSV.out).mono ?_;rintro _ wb ⟨sb,Ab,nb,cb,rfl,hvb,hbb⟩;(have Tb:Below w8.heap.size w8 wb:=below_then hbb Ta Ta.size))
     have hT:=HSB.out _ Tb
     refine hK.out _ _ (fun _=>hT) ?_
     clear hK K
     (try simp only [Act.put,Till.a,Till.b,Till.c])
     obtain ⟨-,-,fz0,fz1,-⟩:=box2 (heap_below HS9.out Tb)
     refine Till.step (i:=4) (by kernel_rfl) rfl ?_
     intro K hK
     go_simp
     refine hK.out _ _ (fun h=>absurd h (by decide)) ?_
     clear hK K
     (try simp only [Act.put,Till.a,Till.b,Till.c])
     refine Till.done (by kernel_rfl) ?_ _
     have HSb:=Lib.hid (heap_below HS9.out Tb);have HFb:=Lib.hid (heap_below HF9.out Tb);have HZb:=Lib.hid (heap_below HZ9.out Tb)
     have HBb:=Lib.hid (below_then Tb HB9.out HB9.out.size)
     have hNS1:w.heap.size≠SB/\w.heap.size+1≠SB/\w.heap.size<=SB:=by omega
     have HF10:=Lib.hid (show ((wb.setCell ⟨SB,0,none⟩ (.bool sb)).setCell ⟨SB,1,none⟩ (.slice Ab nb cb)).heap[w.heap.size]?=_ from heap_far (heap_far HFb.out (p:=⟨SB,0,none⟩) hNS1.1 _) (p:=⟨SB,1,none⟩) hNS1.1 _)
     have HZ10:=Lib.hid (show ((wb.setCell ⟨SB,0,none⟩ (.bool sb)).setCell ⟨SB,1,none⟩ (.slice Ab nb cb)).heap[w.heap.size+1]?=_ from heap_far (heap_far HZb.out (p:=⟨SB,0,none⟩) hNS1.2.1 _) (p:=⟨SB,1,none⟩) hNS1.2.1 _)
     have HS10:=Lib.hid (show ((wb.setCell ⟨SB,0,none⟩ (.bool sb)).setCell ⟨SB,1,none⟩ (.slice Ab nb cb)).heap[SB]?=some (.cells #[.bool sb,.slice Ab nb cb] 73 (0,0)) from heap_set (heap_set HSb.out 0 _) 1 _)
     have HG10:=Lib.hid (hvb.box2 HSb.out (by decide) (.bool sb) (.slice Ab nb cb))
     have HB10:=Lib.hid ((HBb.out.setCell (p:=⟨SB,0,none⟩) hNS1.2.2 (.bool sb)).setCell (p:=⟨SB,1,none⟩) hNS1.2.2 (.slice Ab nb cb))
     go_wp2
     go_roundw
     case rel=>exact ⟨j+1,z+scaled u p 9,sb,Ab,nb,cb,by omega,by go_num,HZN,HZB,HG10,HF10,HZ10,HS10,HB10⟩
     case measure=>simp [intOf];omega
    ·have ht1:rt=tag:=Classical.byContradiction fun k=>hA ⟨ht0,k⟩
     rw [decide_eq_false ht0] at hte
     rw [decide_eq_true ht1] at hrt
     clear hA ht0 ht1
     have hsv:=emp_dec sv
     by_cases h0:sv=⟨#[]⟩
     ·have HZE:=Lib.hid (show rowZ ⟨m,q,ks,hd,tl,ct,sm⟩ tag name ⟨rt,vs⟩=0 by rw [HRZ2.out,if_pos h0])
      rw [decide_eq_true h0] at hsv
      clear h0
      have HZN:=Lib.hid (show sumZr ⟨m,q,ks,hd,tl,ct,sm⟩ tag name rs (j+1)=z by rw [HSC.out,HZ0.out,HZE.out];exact Int.add_zero _)
      have HZB:=Lib.hid (show -((j+1:Nat):Int)*1000000000000000000000000<=z/\z<=((j+1:Nat):Int)*1000000000000000000000000 by have:=HBD.out;omega)
      go_wp2
      go_roundw
      case rel=>exact ⟨j+1,z,s,SA,sn,sc,by omega,by go_num,HZN,HZB,HG8,HF8,HZ8,HS8,HB8⟩
      case measure=>simp [intOf];omega
     rw [decide_eq_false h0] at hsv
     have HZE:=Lib.hid (show rowZ ⟨m,q,ks,hd,tl,ct,sm⟩ tag name ⟨rt,vs⟩=scaled (readText sv.data.toList).1 (readText sv.data.toList).2.1 9 by rw [HRZ2.out,if_neg h0])
     have hdc:=readText_dec2 sv.data.toList
     have HRT:=Lib.hid (fun w=>readtext_c sv w hsz)
     obtain ⟨⟨u,p,e⟩,hrd⟩:∃ x,readText sv.data.toList=x:=⟨_,rfl⟩
     rw [hrd] at HZE hdc HRT
     simp only at HZE hdc
     unfold RetD at HRT
     simp only at HRT
     have HDC:=Lib.hid hdc
     have hbd:=scl_bd hdc
     have HSM:=Lib.hid (show Small z from small_of_le (by have:=HBD.out;omega) (by have:=HBD.out;omega))
     have HSV:=Lib.hid (show Small (scaled u p 9) from small_of_le (by omega) (by omega))
     have HZN:=Lib.hid (show sumZr ⟨m,q,ks,hd,tl,ct,sm⟩ tag name rs (j+1)=z+scaled u p 9 by rw [HSC.out,HZ0.out,HZE.out])
     have HZB:=Lib.hid (show -((j+1:Nat):Int)*1000000000000000000000000<=z+scaled u p 9/\z+scaled u p 9<=((j+1:Nat):Int)*1000000000000000000000000 by have:=HBD.out;omega)
     clear h0 hrd hdc hbd
     go_wp2_with fail
     refine (HRT.out _).mono ?_
     rintro _ wc ⟨rfl,hbc⟩
     have HF9:=Lib.hid (heap_old (heap_below HF8.out hbc) (.cells #[.int .i64 u,.int .i64 p] 31));have HZ9:=Lib.hid (heap_old (heap_below HZ8.out hbc) (.cells #[.int .i64 u,.int .i64 p] 31));have HS9:=Lib.hid (heap_old (heap_below HS8.out hbc) (.cells #[.int .i64 u,.int .i64 p] 31))
     have HD9:=Lib.hid (heap_new wc (.cells #[.int .i64 u,.int .i64 p] 31) rfl)
     have hbc9:Below w8.heap.size w8 (wc.alloc (.cells #[.int .i64 u,.int .i64 p] 31)):=hbc.alloc hbc.size _
     have HG9:=Lib.hid (HG8.out.below hbc9)
     have HB9:=Lib.hid (below_then hbc9 HB8.out HB8.out.size)
     clear HF8 HZ8 HS8 HG8 HB8 r0 r1 r2 HR8 HRJ8 hbc hbc9 s0 hbw2
     go_upto_region 9 with fail
     obtain ⟨DB,hDB⟩:∃ x,wc.heap.size=x:=⟨_,rfl⟩
     rw [hDB] at HD9
     try rw [hDB]
     generalize wc.alloc (.cells #[.int .i64 u,.int .i64 p] 31)=w8 at HF9 HZ9 HS9 HD9 HG9 HB9 ⊢
     clear hDB
     have HG8:=HG9
     have HSB:=Lib.hid (show ∀ wx,Below w8.heap.size w8 wx->(fun w':World=>w'.cell? ⟨SB,0,none⟩=some (.bool s)/\w'.cell? ⟨SB,1,none⟩=some (.slice SA sn sc)/\w'.cell? ⟨DB,0,none⟩=some (.int .i64 u)/\w'.cell? ⟨DB,1,none⟩=some (.int .i64 p)) wx from fun wx h=>by
      obtain ⟨a0,a1,-,-,-⟩:=box2 (heap_below HS9.out h)
      obtain ⟨b0,b1,-,-,-⟩:=box2 (heap_below HD9.out h)
      exact ⟨a0,a1,b0,b1⟩)
     have hT:=HSB.out _ ((Below.refl _ _).drew)
     have hfz:w8.frozen? ⟨SB,0,none⟩=false/\w8.frozen? ⟨SB,1,none⟩=false:=⟨(box2 HS9.out).2.2.1,(box2 HS9.out).2.2.2.1⟩
     refine region_till 4 (fun w':World=>w'.cell? ⟨SB,0,none⟩=some (.bool s)/\w'.cell? ⟨SB,1,none⟩=some (.slice SA sn sc)/\w'.cell? ⟨DB,0,none⟩=some (.int .i64 u)/\w'.cell? ⟨DB,1,none⟩=some (.int .i64 p)) (by kernel_rfl) ?_
     refine Till.tk (i:=0) (v:=?_) rfl [3] hT (Or.inl ⟨by rfl,?_⟩) ?_
     rotate_left
     ·(intro w' hw';obtain ⟨u1,u2,u3,u4⟩:=hw';go_simp;try with_reducible rfl)
     (try simp only [Act.put,Till.a,Till.b,Till.c])
     refine Till.tk (i:=1) (v:=?_) rfl [2,3] hT (Or.inl ⟨by rfl,?_⟩) ?_
     rotate_left
     ·(intro w' hw';obtain ⟨u1,u2,u3,u4⟩:=hw';go_simp;try with_reducible rfl)
     (try simp only [Act.put,Till.a,Till.b,Till.c])
     refine Till.step (i:=2) (by kernel_rfl) rfl ?_
     intro K hK
     go_simp
     (go_at_call 57;refine (value_c u p _ HDC.out).mono ?_;rintro _ wa ⟨sa,Aa,na,ca,rfl,hva,hba⟩;(have Ta:Below w8.heap.size w8 wa:=by exact ⟨hba.os,hba.tape,hba.output,hba.size,hba.block⟩))
     have hT:=HSB.out _ Ta
     refine hK.out _ _ (fun _=>hT) ?_
     clear hK K
     (try simp only [Act.put,Till.a,Till.b,Till.c])
     refine Till.step (i:=3) (by kernel_rfl) rfl ?_
     intro K hK
     go_simp
     (go_at_call 54;refine (plus_c _ (HG8.out.below Ta) hva HSM.out HSV.out).mono ?_;rintro _ wb ⟨sb,Ab,nb,cb,rfl,hvb,hbb⟩;(have Tb:Below w8.heap.size w8 wb:=below_then hbb Ta Ta.size))
     have hT:=HSB.out _ Tb
     refine hK.out _ _ (fun _=>hT) ?_
     clear hK K
     (try simp only [Act.put,Till.a,Till.b,Till.c])
     obtain ⟨-,-,fz0,fz1,-⟩:=box2 (heap_below HS9.out Tb)
     refine Till.step (i:=4) (by kernel_rfl) rfl ?_
     intro K hK
     go_simp
     refine hK.out _ _ (fun h=>absurd h (by decide)) ?_
     clear hK K
     (try simp only [Act.put,Till.a,Till.b,Till.c])
     refine Till.done (by kernel_rfl) ?_ _
     have HSb:=Lib.hid (heap_below HS9.out Tb);have HFb:=Lib.hid (heap_below HF9.out Tb);have HZb:=Lib.hid (heap_below HZ9.out Tb)
     have HBb:=Lib.hid (below_then Tb HB9.out HB9.out.size)
     have hNS1:w.heap.size≠SB/\w.heap.size+1≠SB/\w.heap.size<=SB:=by omega
     have HF10:=Lib.hid (show ((wb.setCell ⟨SB,0,none⟩ (.bool sb)).setCell ⟨SB,1,none⟩ (.slice Ab nb cb)).heap[w.heap.size]?=_ from heap_far (heap_far HFb.out (p:=⟨SB,0,none⟩) hNS1.1 _) (p:=⟨SB,1,none⟩) hNS1.1 _)
     have HZ10:=Lib.hid (show ((wb.setCell ⟨SB,0,none⟩ (.bool sb)).setCell ⟨SB,1,none⟩ (.slice Ab nb cb)).heap[w.heap.size+1]?=_ from heap_far (heap_far HZb.out (p:=⟨SB,0,none⟩) hNS1.2.1 _) (p:=⟨SB,1,none⟩) hNS1.2.1 _)
     have HS10:=Lib.hid (show ((wb.setCell ⟨SB,0,none⟩ (.bool sb)).setCell ⟨SB,1,none⟩ (.slice Ab nb cb)).heap[SB]?=some (.cells #[.bool sb,.slice Ab nb cb] 73 (0,0)) from heap_set (heap_set HSb.out 0 _) 1 _)
     have HG10:=Lib.hid (hvb.box2 HSb.out (by decide) (.bool sb) (.slice Ab nb cb))
     have HB10:=Lib.hid ((HBb.out.setCell (p:=⟨SB,0,none⟩) hNS1.2.2 (.bool sb)).setCell (p:=⟨SB,1,none⟩) hNS1.2.2 (.slice Ab nb cb))
     go_wp2
     go_roundw
     case rel=>exact ⟨j+1,z+scaled u p 9,sb,Ab,nb,cb,by omega,by go_num,HZN,HZB,HG10,HF10,HZ10,HS10,HB10⟩
     case measure=>simp [intOf];omega
  ·obtain rfl:j=nr:=by omega
   have HE:=Lib.hid (show fewF z 9=R by rw [<- HZ0.out];exact HR.out)
   have HFE:=Lib.hid (fewest_c wr 9 (by decide) HG.out (by have:=HBD.out;omega))
   rw [HE.out] at HFE
   obtain ⟨a0,a1,-,-,-⟩:=box2 HS.out
   go_wp2_with fail
   refine HFE.out.mono ?_
   rintro _ w9 ⟨rfl,hb9⟩
   have hR9:=heap_below HZ.out hb9
   have hB9:=below_then hb9 HB.out hzr
   obtain ⟨z0,z1,z2,z3,z5⟩:=box2 hR9
   go_wp2
   have hz9:((w9.setCell ⟨w.heap.size+1,0,none⟩ (.int .i64 R.1)).setCell ⟨w.heap.size+1,1,none⟩ (.int .i64 R.2.1)).heap[w.heap.size+1]?=some (.cells #[.int .i64 R.1,.int .i64 R.2.1] 31 (0,0)):=heap_set (heap_set hR9 0 _) 1 _
   obtain ⟨r0,r1,-,-,-⟩:=box2 hz9
   refine bodyPost_ret (v:=.tuple #[.agg #[.int .i64 R.1,.int .i64 R.2.1],.int .i64 R.2.2]) (by simp [results,Tryz.results37,go_sem,r0,r1]) rfl ⟨rfl,?_⟩
   exact (hB9.setCell (p:=⟨w.heap.size+1,0,none⟩) (by show w.heap.size<=w.heap.size+1;omega) _).setCell (p:=⟨w.heap.size+1,1,none⟩) (by show w.heap.size<=w.heap.size+1;omega) _
theorem sumof_c (f:Fmt) (A:Option Addr) (cp:Nat) (FA:Nat->Option Addr) (FC:Nat->Nat) (L:Option Addr) (LC:Nat) (rs:List RowP) (RA:Nat->Option Addr) (RC:Nat->Nat) (tag name:ByteArray) (w:World) (ho:Kinds w A f.kinds FA FC) (hl:RowsM w L rs RA RC) (hrk:∀ j,j<rs.length->RowK f (rA rs j)) (h2000:rs.length<=2000) :
  Calls Tryz.prog 37 #[fmtG f A cp,.slice L rs.length LC,.string tag,.string name] w (RetD (fewF (sumZr f tag name rs rs.length) 9) w) :=
 sumofX_c f A cp FA FC L LC rs RA RC tag name w ho hl hrk (Nat.le_trans h2000 (by decide))
end Go.Proofs.YtbfbgappinilmaaGreatDoor
