/- The walks of isUnder and overOf. The walk of overOf. The walk of rowOrder. -/
import Derived.Test.YtbfbgappinilmaaGreatDoorC5
import Derived.Deep.DeepCutAuto
-- merged: C3 C4 C7
namespace Go.Proofs.YtbfbgappinilmaaGreatDoor
open Go.RowKit Limb Nmb Work
set_option linter.unusedVariables false
set_option linter.unusedSimpArgs false
theorem checkF_kinds {f:Fmt} (h:checkF f=0) {k:Nat} (hk:k<f.kinds.length):kindF f.mark f.kinds k=0:=by
 have h2:fstF (kindF f.mark f.kinds) f.kinds.length=0:=by
  unfold checkF at h
  split at h
  ·rename_i e;exact absurd h e
  split at h;· cases h
  split at h;· cases h
  split at h
  ·rename_i e;exact absurd h e
  ·rename_i e;exact Classical.byContradiction e
 exact fstF_zero h2 k hk
theorem kindF_under {m:Int} {ks:List RKd} {i:Nat} (h:kindF m ks i=0) (hu:(kA ks i).under≠⟨#[]⟩):(ks.take i).any (tagIs (kA ks i).under)=true:=by
 unfold kindF at h
 split at h;· cases h
 split at h;· cases h
 split at h;· cases h
 split at h;· cases h
 split at h
 ·rename_i e;exact absurd h e
 split at h;· cases h
 split at h;· cases h
 rename_i e
 cases hb:(ks.take i).any (tagIs (kA ks i).under) with
 | true=>rfl
 | false=>exact absurd ⟨hu,hb⟩ e
theorem und_lt {f:Fmt} (hf:checkF f=0) {t:ByteArray} (h:0<=katI f t) (hu:(katK f t).under≠⟨#[]⟩):0<=katI f (katK f t).under/\katI f (katK f t).under<katI f t:=by
 obtain ⟨k,hk,e1,e2,e3⟩:=kat_at (show ¬ katI f t<0 by omega)
 rw [e2] at hu ⊢
 have h1:=kindF_under (checkF_kinds hf hk) hu
 obtain ⟨x,hx,h2⟩:=List.any_eq_true.1 h1
 obtain ⟨j,hj,rfl⟩:=List.getElem_of_mem hx
 rw [List.length_take] at hj
 rw [List.getElem_take] at h2
 rw [e1]
 rcases ixF_spec (tagIs (kA f.kinds k).under) f.kinds with ⟨h3,h4⟩|⟨i,hi,h3,h4,h5⟩
 ·rw [h4 j (by omega)] at h2;cases h2
 ·have h6:katI f (kA f.kinds k).under=(i:Int):=h3
  rw [h6]
  rcases Nat.lt_or_ge j i with h7 | h7
  ·rw [h5 j (by omega) h7] at h2;cases h2
  ·omega
theorem katI_lt (f:Fmt) (t:ByteArray):katI f t<f.kinds.length:=by
 rcases ixF_spec (tagIs t) f.kinds with ⟨h,-⟩|⟨k,hk,h,-⟩
 ·show ixF (tagIs t) f.kinds<_;omega
 ·show ixF (tagIs t) f.kinds<_;omega
set_option maxHeartbeats 4000000 in
set_option maxRecDepth 100000 in
theorem isunder_c (f:Fmt) (A:Option Addr) (cp:Nat) (FA:Nat->Option Addr) (FC:Nat->Nat) (t over:ByteArray) (w:World) (ho:Kinds w A f.kinds FA FC) (hf:checkF f=0) :
  Calls Tryz.prog 181 #[fmtG f A cp,.string t,.string over] w (RetB (undB f t over) w):=by
 have HKA:=Lib.hid (fun t w h=>kindat_c f A cp FA FC t w h)
 have HKI:=Lib.hid ho
 have HUL:=Lib.hid (fun t h h2=>und_lt (t:=t) hf h h2)
 have HIL:=Lib.hid (fun t=>katI_lt f t)
 have HU0:=Lib.hid (show ∀ t,underB f over 0 t=false from fun _=>rfl)
 have HU1:=Lib.hid (show ∀ n t,underB f over (n+1) t=if katI f t<0∨(katK f t).under=⟨#[]⟩ then false else if (katK f t).under=over then true else underB f over n (katK f t).under from fun _ _=>rfl)
 obtain ⟨R,hR⟩:∃ x,undB f t over=x:=⟨_,rfl⟩
 have HR:=Lib.hid (show underB f over f.kinds.length t=R from hR)
 rw [hR]
 unfold RetB
 generalize underB f over=UB at HU0 HU1 HR
 generalize katI f=IF at HKA HUL HIL HU1
 generalize katK f=KF at HKA HUL HU1
 generalize katA f FA=AF at HKA
 generalize katC f FC=CF at HKA
 clear ho hf hR
 obtain ⟨m,q,ks,hd,tl,ct,sm⟩:=f
 unfold fmtG at HKA ⊢
 unfold kindG at HKA
 simp only at HKA HKI HIL HR ⊢
 obtain ⟨nk,hnk⟩:∃ x,ks.length=x:=⟨_,rfl⟩
 rw [hnk] at HKA HIL HR ⊢
 clear hnk
 have hP:=heap_new w (.cells #[.int .u8 m,.int .u8 q,.slice A nk cp,.string hd,.string tl,.string ct,.string sm] 44) rfl
 have hB1:Below w.heap.size w (w.alloc (.cells #[.int .u8 m,.int .u8 q,.slice A nk cp,.string hd,.string tl,.string ct,.string sm] 44)):=by go_grown
 go_enter Tryz.func181,Tryz.ntmps181
 go_upto_region 1 with fail
 generalize w.alloc (.cells #[.int .u8 m,.int .u8 q,.slice A nk cp,.string hd,.string tl,.string ct,.string sm] 44)=w1 at hP hB1 ⊢
 have HW:=Lib.hid (show ∀ wx,Below w1.heap.size w1 wx->wx.heap[w.heap.size]?=some (.cells #[.int .u8 m,.int .u8 q,.slice A nk cp,.string hd,.string tl,.string ct,.string sm] 44 (0,0))/\Kinds wx A ks FA FC/\Below w.heap.size w wx from fun wx h=>by
  have h2:=below_then h hB1 hB1.size
  exact ⟨heap_below hP h,HKI.out.below h2,h2⟩)
 have hz1:w.heap.size<w1.heap.size:=lt_heap hP
 clear hP hB1
 obtain ⟨q1,qk,qb⟩:=HW.out _ (Below.refl _ _)
 obtain ⟨⟨p0,p1,p2,p3,p4,p5,p6⟩,-⟩:=obox7 q1
 go_wp2_with fail
 refine (HKA.out t _ qk).mono ?_
 rintro _ w2 ⟨rfl,hb2⟩
 have hB3:Below w1.heap.size w1 (w2.alloc (.cells #[.string (KF t).tag,.slice (AF t) (KF t).fields.length (CF t),.int .i64 (KF t).most,.string (KF t).under] 83)):=hb2.alloc hb2.size _
 have hN3:=heap_new w2 (.cells #[.string (KF t).tag,.slice (AF t) (KF t).fields.length (CF t),.int .i64 (KF t).most,.string (KF t).under] 83) rfl
 have hz2:=hb2.size
 clear q1 qk qb p0 p1 p2 p3 p4 p5 p6 hb2
 go_upto_region 2 with fail
 obtain ⟨kb,hkb⟩:∃ x,w2.heap.size=x:=⟨_,rfl⟩
 rw [hkb] at hN3 hz2
 try rw [hkb]
 generalize w2.alloc (.cells #[.string (KF t).tag,.slice (AF t) (KF t).fields.length (CF t),.int .i64 (KF t).most,.string (KF t).under] 83)=w3 at hN3 hB3 ⊢
 have HN3:=Lib.hid hN3;have HB3:=Lib.hid hB3
 clear hkb hN3 hB3
 go_loopg [7,8] nk (fun k p o wr=>∃ (kb:Nat) (t:ByteArray),p=.pointer (some ⟨kb,0,none⟩)/\o=.bool (decide (0<=IF t))/\w1.heap.size<=kb/\IF t<(k:Int)/\Hid (UB k t=R)/\Hid (wr.heap[kb]?=some (.cells #[.string (KF t).tag,.slice (AF t) (KF t).fields.length (CF t),.int .i64 (KF t).most,.string (KF t).under] 83 (0,0)))/\Hid (Below w1.heap.size w1 wr))
 case atStart=>exact ⟨kb,t,rfl,rfl,hz2,HIL.out t,HR,HN3,HB3⟩
 case round=>
  clear HN3 HB3
  obtain ⟨kb,t,rfl,rfl,hkb,hlt,HU,HN,HB⟩:=hrel
  have hzr:=HB.out.size
  obtain ⟨q1,qk,qb⟩:=HW.out _ HB.out
  by_cases hneg:IF t<0
  ·have HE:=Lib.hid (show R=false by
    rw [<- HU.out]
    cases gk with
    | zero=>exact HU0.out t
    | succ n=>rw [HU1.out n t,if_pos (.inl hneg)])
   have hd:decide (0<=IF t)=false:=decide_eq_false (by omega)
   rw [hd]
   clear hneg hd q1 qk
   go_wp2
   go_ret
   exact ⟨by rw [HE.out];rfl,qb⟩
  have hd:decide (0<=IF t)=true:=decide_eq_true (by omega)
  rw [hd]
  obtain ⟨n,hgk⟩:∃ n,gk=n+1:=⟨gk-1,by omega⟩
  have HU2:=Lib.hid (show (if (KF t).under=⟨#[]⟩ then false else if (KF t).under=over then true else UB n (KF t).under)=R by
   rw [<- HU.out,hgk,HU1.out n t]
   by_cases h0:(KF t).under=⟨#[]⟩
   ·rw [if_pos h0,if_pos (.inr h0)]
   ·rw [if_neg h0,if_neg (c:=IF t<0∨(KF t).under=⟨#[]⟩) (fun h=>h.elim hneg h0)])
  have HUT:=Lib.hid (HUL.out t (by omega))
  have hlt2:IF t<=(n:Int):=by omega
  obtain ⟨K,hK⟩:∃ x,KF t=x:=⟨_,rfl⟩
  rw [hK] at HN HU2 HUT
  obtain ⟨kt,fs,km,ku⟩:=K
  simp only at HN HU2 HUT
  obtain ⟨nf,hnf⟩:∃ x,fs.length=x:=⟨_,rfl⟩
  rw [hnf] at HN
  generalize AF t=KA at HN
  generalize CF t=KC at HN
  obtain ⟨⟨k0,k1,k2,k3⟩,-,k4⟩:=obox4 HN.out
  have e1:=emp_dec ku
  have e2:=bytes_dec ku over
  clear hnf hK hneg hd HU
  by_cases h0:ku=⟨#[]⟩
  ·have HE:=Lib.hid (show R=false by rw [<- HU2.out,if_pos h0])
   rw [decide_eq_true h0] at e1
   clear h0 q1 qk
   go_wp2
   go_ret
   exact ⟨by rw [HE.out];rfl,qb⟩
  rw [decide_eq_false h0] at e1
  by_cases h1:ku=over
  ·have HE:=Lib.hid (show R=true by rw [<- HU2.out,if_neg h0,if_pos h1])
   rw [decide_eq_true h1] at e2
   clear h0 h1 q1 qk
   go_wp2
   go_ret
   exact ⟨by rw [HE.out];rfl,qb⟩
  have HU3:=Lib.hid (show UB n ku=R by rw [<- HU2.out,if_neg h0,if_neg h1])
  have HUN:=Lib.hid (HUT.out h0)
  rw [decide_eq_false h1] at e2
  have hN4:=heap_new wr (.cells #[.string kt,.slice KA nf KC,.int .i64 km,.string ku] 83) rfl
  have hB4:Below w1.heap.size w1 (wr.alloc (.cells #[.string kt,.slice KA nf KC,.int .i64 km,.string ku] 83)):=HB.out.alloc hzr _
  clear h0 h1 q1 qk qb HUT HU2
  go_upto_region 3 with fail
  obtain ⟨kc,hkc⟩:∃ x,wr.heap.size=x:=⟨_,rfl⟩
  rw [hkc] at hN4 hzr
  try rw [hkc]
  generalize wr.alloc (.cells #[.string kt,.slice KA nf KC,.int .i64 km,.string ku] 83)=w4 at hN4 hB4 ⊢
  have HN4:=Lib.hid hN4;have HB4:=Lib.hid hB4
  clear hkc hN4 hB4 k0 k1 k2 k3 k4 e1 e2 HN HB
  obtain ⟨q1,qk,-⟩:=HW.out _ HB4.out
  obtain ⟨⟨p0,p1,p2,p3,p4,p5,p6⟩,-⟩:=obox7 q1
  obtain ⟨⟨k0,k1,k2,k3⟩,-,k4⟩:=obox4 HN4.out
  go_wp2_with fail
  refine (HKA.out ku _ qk).mono ?_
  rintro _ w5 ⟨rfl,hb5⟩
  have hN5:=heap_below HN4.out hb5
  have HN5:=Lib.hid hN5
  have HB5:=Lib.hid (below_then hb5 HB4.out HB4.out.size)
  obtain ⟨⟨k0,k1,k2,k3⟩,⟨z0,z1,z2,z3⟩,k4⟩:=obox4 hN5
  clear hb5 hN5 q1 qk p0 p1 p2 p3 p4 p5 p6 HN4 HB4
  have HF:=Lib.hid (show ((((w5.setCell ⟨kc,0,none⟩ (.string (KF ku).tag)).setCell ⟨kc,1,none⟩ (.slice (AF ku) (KF ku).fields.length (CF ku))).setCell ⟨kc,2,none⟩ (.int .i64 (KF ku).most)).setCell ⟨kc,3,none⟩ (.string (KF ku).under)).heap[kc]?=some (.cells #[.string (KF ku).tag,.slice (AF ku) (KF ku).fields.length (CF ku),.int .i64 (KF ku).most,.string (KF ku).under] 83 (0,0)) from heap_set (heap_set (heap_set (heap_set HN5.out 0 _) 1 _) 2 _) 3 _)
  have HBF:=Lib.hid (show Below w1.heap.size w1 ((((w5.setCell ⟨kc,0,none⟩ (.string (KF ku).tag)).setCell ⟨kc,1,none⟩ (.slice (AF ku) (KF ku).fields.length (CF ku))).setCell ⟨kc,2,none⟩ (.int .i64 (KF ku).most)).setCell ⟨kc,3,none⟩ (.string (KF ku).under)) from (((HB5.out.setCell (p:=⟨kc,0,none⟩) hzr _).setCell (p:=⟨kc,1,none⟩) hzr _).setCell (p:=⟨kc,2,none⟩) hzr _).setCell (p:=⟨kc,3,none⟩) hzr _)
  go_wp2
  go_roundg n
  case rel=>exact ⟨kc,ku,rfl,rfl,hzr,by have:=HUN.out;omega,HU3,HF,HBF⟩
  case measure=>omega
theorem overI_lt (f:Fmt) (rs:List RowP) (tag:ByteArray):∀ i:Nat,-1<=overI f rs tag i/\overI f rs tag i<(i:Int)
 | 0=>⟨Int.le_refl _,by show (-1:Int)<0;decide⟩
 | k+1=>by
  have:=overI_lt f rs tag k
  unfold overI
  split
  ·omega
  ·split<;>omega
set_option maxHeartbeats 4000000 in
set_option maxRecDepth 100000 in
theorem overof_c (f:Fmt) (A:Option Addr) (cp:Nat) (FA:Nat->Option Addr) (FC:Nat->Nat) (L:Option Addr) (LC:Nat) (rs:List RowP) (RA:Nat->Option Addr) (RC:Nat->Nat) (i:Nat) (tag:ByteArray) (w:World) (ho:Kinds w A f.kinds FA FC) (hf:checkF f=0) (hl:RowsM w L rs RA RC) (hi:i<=rs.length) :
  Calls Tryz.prog 161 #[fmtG f A cp,.slice L rs.length LC,.int .i64 (i:Int),.string tag] w (RetI (overI f rs tag i) w):=by
 have HIU:=Lib.hid (fun t w h=>isunder_c f A cp FA FC t tag w h hf)
 have HKI:=Lib.hid ho;have HLM:=Lib.hid hl
 have hnr:=hl.len
 have HOS:=Lib.hid (show ∀ k:Nat,overI f rs tag (k+1)=if (rA rs k).tag=tag then (k:Int) else if undB f (rA rs k).tag tag=false then -1 else overI f rs tag k from fun _=>rfl)
 have HO0:=Lib.hid (show overI f rs tag 0=-1 from rfl)
 obtain ⟨R,hR⟩:∃ x,overI f rs tag i=x:=⟨_,rfl⟩
 have HR:=Lib.hid hR
 rw [hR]
 unfold RetI
 clear ho hf hl hR
 generalize overI f rs tag=OV at HOS HO0 HR
 unfold RetB at HIU
 have HUB:=Lib.hid (show ∀ t,∃ b,undB f t tag=b from fun t=>⟨_,rfl⟩)
 obtain ⟨UD,hUD⟩:∃ x:ByteArray->Bool,(fun t=>undB f t tag)=x:=⟨_,rfl⟩
 have hUDa:∀ t,undB f t tag=UD t:=fun t=>by rw [<- hUD]
 have HIU2:Hid (∀ t w,Kinds w A f.kinds FA FC->Calls Tryz.prog 181 #[fmtG f A cp,.string t,.string tag] w fun e w'=>e=.returned (.bool (UD t))/\Below w.heap.size w w'):=Lib.hid (fun t w h=>by rw [<- hUDa];exact HIU.out t w h)
 have HOS2:=Lib.hid (show ∀ k:Nat,OV (k+1)=if (rA rs k).tag=tag then (k:Int) else if UD (rA rs k).tag=false then -1 else OV k from fun k=>by rw [<- hUDa];exact HOS.out k)
 clear hUD hUDa HIU HOS HUB
 obtain ⟨m,q,ks,hd,tl,ct,sm⟩:=f
 unfold fmtG at HIU2 ⊢
 simp only at HIU2 HKI ⊢
 obtain ⟨nk,hnk⟩:∃ x,ks.length=x:=⟨_,rfl⟩
 rw [hnk] at HIU2 ⊢
 clear hnk
 obtain ⟨nr,hnr2⟩:∃ x,rs.length=x:=⟨_,rfl⟩
 have HNR:=Lib.hid hnr2
 rw [hnr2] at hnr hi ⊢
 clear hnr2
 have hP:=heap_new w (.cells #[.int .u8 m,.int .u8 q,.slice A nk cp,.string hd,.string tl,.string ct,.string sm] 44) rfl
 have hB1:Below w.heap.size w (w.alloc (.cells #[.int .u8 m,.int .u8 q,.slice A nk cp,.string hd,.string tl,.string ct,.string sm] 44)):=by go_grown
 go_enter Tryz.func161,Tryz.ntmps161
 go_upto_region 1 with fail
 generalize w.alloc (.cells #[.int .u8 m,.int .u8 q,.slice A nk cp,.string hd,.string tl,.string ct,.string sm] 44)=w1 at hP hB1 ⊢
 have HW:=Lib.hid (show ∀ wx,Below w1.heap.size w1 wx->wx.heap[w.heap.size]?=some (.cells #[.int .u8 m,.int .u8 q,.slice A nk cp,.string hd,.string tl,.string ct,.string sm] 44 (0,0))/\Kinds wx A ks FA FC/\RowsM wx L rs RA RC/\Below w.heap.size w wx from fun wx h=>by
  have h2:=below_then h hB1 hB1.size
  exact ⟨heap_below hP h,HKI.out.below h2,HLM.out.below h2,h2⟩)
 clear hP hB1
 go_wp2_with fail
 go_loopw [9] (fun x wr=>∃ (j:Nat) (v:Int),x=.int .i64 v/\v=(j:Int)-1/\j<=i/\Hid (OV j=R)/\Hid (Below w1.heap.size w1 wr)) (fun x _=>(intOf x+1).toNat)
 case atStart=>exact ⟨i,(i:Int)-1,by first | rfl | (congr 1;go_num) | go_num,rfl,Nat.le_refl _,HR,Lib.hid (Below.refl _ _)⟩
 case round=>
  obtain ⟨j,v,rfl,hv,hj,HO,HB⟩:=hrel
  obtain ⟨q1,qk,ql,qb⟩:=HW.out _ HB.out
  cases j with
  | zero=>
   have HE:=Lib.hid (show R=-1 by rw [<- HO.out];exact HO0.out)
   have hv2:v=-1:=by omega
   subst hv2
   clear hv q1 qk ql
   go_wp2
   go_ret
   exact ⟨by rw [HE.out];rfl,qb⟩
  | succ k=>
   have hv2:v=(k:Int):=by omega
   subst hv2
   have hkl:k<rs.length:=by rw [HNR.out];omega
   obtain ⟨b,off,rfl,hbk,c0,c1⟩:=ql.cells hkl
   have HO2:=Lib.hid (show (if (rA rs k).tag=tag then (k:Int) else if UD (rA rs k).tag=false then -1 else OV k)=R by rw [<- HO.out];exact (HOS2.out k).symm)
   obtain ⟨rt,hrt⟩:∃ x,(rA rs k).tag=x:=⟨_,rfl⟩
   rw [hrt] at c0 HO2
   have hkr:k<nr:=by omega
   have hk0:decide ((0:Int)<=(k:Int))=true:=decide_eq_true (by omega)
   have e1:=bytes_dec rt tag
   clear hv hrt hkl ql HO c1
   by_cases h1:rt=tag
   ·have HE:=Lib.hid (show R=(k:Int) by rw [<- HO2.out,if_pos h1])
    rw [decide_eq_true h1] at e1
    clear h1 q1 qk
    go_wp2
    go_ret
    exact ⟨by rw [HE.out];rfl,qb⟩
   rw [decide_eq_false h1] at e1
   have HO3:=Lib.hid (show (if UD rt=false then -1 else OV k)=R by rw [<- HO2.out,if_neg h1])
   have HQK:=Lib.hid qk
   have HCI:=Lib.hid (fun wx h=>HIU2.out rt wx (qk.below h))
   have HP:=Lib.hid q1
   have HC0:=Lib.hid c0
   have HBK:=Lib.hid hbk
   have HSB:=Lib.hid (show ∀ wx,Below wr.heap.size wr wx->(fun w':World=>w'.cell? ⟨w.heap.size,0,none⟩=some (.int .u8 m)/\w'.cell? ⟨w.heap.size,1,none⟩=some (.int .u8 q)/\w'.cell? ⟨w.heap.size,2,none⟩=some (.slice A nk cp)/\w'.cell? ⟨w.heap.size,3,none⟩=some (.string hd)/\w'.cell? ⟨w.heap.size,4,none⟩=some (.string tl)/\w'.cell? ⟨w.heap.size,5,none⟩=some (.string ct)/\w'.cell? ⟨w.heap.size,6,none⟩=some (.string sm)/\w'.cell? ⟨b,off+k*2,none⟩=some (.string rt)) wx from fun wx h=>by
    obtain ⟨⟨f0,f1,f2,f3,f4,f5,f6⟩,f7⟩:=obox7 (heap_below HP.out h)
    exact ⟨f0,f1,f2,f3,f4,f5,f6,(h.cell (p:=⟨b,off+k*2,none⟩) HBK.out).trans HC0.out⟩)
   have T1:Below wr.heap.size wr wr:=Below.refl _ _
   clear h1 HO2 q1 qk qb
   go_upto_region 6 with fail
   clear c0 hbk
   go_region_held3 (fun w':World=>w'.cell? ⟨w.heap.size,0,none⟩=some (.int .u8 m)/\w'.cell? ⟨w.heap.size,1,none⟩=some (.int .u8 q)/\w'.cell? ⟨w.heap.size,2,none⟩=some (.slice A nk cp)/\w'.cell? ⟨w.heap.size,3,none⟩=some (.string hd)/\w'.cell? ⟨w.heap.size,4,none⟩=some (.string tl)/\w'.cell? ⟨w.heap.size,5,none⟩=some (.string ct)/\w'.cell? ⟨w.heap.size,6,none⟩=some (.string sm)/\w'.cell? ⟨b,off+k*2,none⟩=some (.string rt))
    (first | (with_reducible exact HSB.out _ T5) | (refine HSB.out _ ?_;go_grown))
    (first | (go_at_call 181;refine (HCI.out _ (by go_grown)).mono ?_;rintro e w5 ⟨rfl,hb5'⟩;(have T5:Below wr.heap.size wr w5:=by exact ⟨hb5'.os,hb5'.tape,hb5'.output,hb5'.size,hb5'.block⟩)))
   have HB5:=Lib.hid (below_then T5 HB.out HB.out.size)
   obtain ⟨-,-,-,qb⟩:=HW.out _ HB5.out
   clear T5 HB e1
   cases hu:UD rt with
   | true=>
    have HO4:=Lib.hid (show OV k=R by rw [<- HO3.out,hu,if_neg (by decide)])
    clear hu
    go_wp2
    go_roundw
    case rel=>exact ⟨k,(k:Int)-1,by first | rfl | go_num,rfl,by omega,HO4,HB5⟩
    case measure=>first | (simp [intOf];done) | (simp [intOf];omega)
   | false=>
    have HE:=Lib.hid (show R=-1 by rw [<- HO3.out,hu,if_pos rfl])
    clear hu
    go_wp2
    go_ret
    exact ⟨by rw [HE.out];rfl,qb⟩
theorem manyN_le (rs:List RowP) (tag:ByteArray) (fr:Nat):∀ n,manyN rs tag fr n<=n
 | 0=>Nat.le_refl _
 | n+1=>by
  have:=manyN_le rs tag fr n
  unfold manyN
  split<;>omega
set_option maxHeartbeats 4000000 in
set_option maxRecDepth 100000 in
theorem roworder_c (f:Fmt) (A:Option Addr) (cp:Nat) (FA:Nat->Option Addr) (FC:Nat->Nat) (L:Option Addr) (LC:Nat) (rs:List RowP) (RA:Nat->Option Addr) (RC:Nat->Nat) (i:Nat) (w:World) (ho:Kinds w A f.kinds FA FC) (hf:checkF f=0) (hl:RowsM w L rs RA RC) (hLC:rs.length<=LC) (hi:i<rs.length) (hLM:LC<=9223372036854775807) :
  Calls Tryz.prog 133 #[fmtG f A cp,.slice L rs.length LC,.int .i64 (i:Int)] w (RetI (rowO f rs i) w):=by
 have HKA:=Lib.hid (fun w h=>kindat_c f A cp FA FC (rA rs i).tag w h)
 have HOV:=Lib.hid (fun t w h h2=>overof_c f A cp FA FC L LC rs RA RC i t w h hf h2 (Nat.le_of_lt hi))
 have HOI:=Lib.hid (fun t=>overI_lt f rs t i)
 have HKI:=Lib.hid ho;have HLM:=Lib.hid hl
 have hnr:=hl.len
 have HM1:=Lib.hid (show ∀ fr n,manyN rs (rA rs i).tag fr (n+1)=manyN rs (rA rs i).tag fr n+(if (rA rs (fr+n)).tag=(rA rs i).tag then 1 else 0) from fun _ _=>rfl)
 have HM0:=Lib.hid (show ∀ fr,manyN rs (rA rs i).tag fr 0=0 from fun _=>rfl)
 have HML:=Lib.hid (fun fr n=>manyN_le rs (rA rs i).tag fr n)
 obtain ⟨R,hR⟩:∃ x,rowO f rs i=x:=⟨_,rfl⟩
 have HFI:=Lib.hid (show fromI f rs i=if (katK f (rA rs i).tag).under=⟨#[]⟩ then 0 else overI f rs (katK f (rA rs i).tag).under i from rfl)
 obtain ⟨FI,hFI⟩:∃ x,fromI f rs i=x:=⟨_,rfl⟩
 have HR:=Lib.hid hR
 unfold rowO at HR
 rw [hFI] at HR HFI
 rw [hR]
 unfold RetI at HOV ⊢
 clear ho hf hl hR hFI
 obtain ⟨rt,hrt⟩:∃ x,(rA rs i).tag=x:=⟨_,rfl⟩
 have HRT:=Lib.hid hrt
 rw [hrt] at HKA HM1 HM0 HML HFI HR
 obtain ⟨MN,hMN⟩:∃ x,manyN rs rt=x:=⟨_,rfl⟩
 rw [hMN] at HM1 HM0 HML HR
 obtain ⟨K,hK⟩:∃ x,katK f rt=x:=⟨_,rfl⟩
 rw [hK] at HKA HFI HR
 generalize katA f FA rt=KA at HKA
 generalize katC f FC rt=KC at HKA
 generalize decide (0<=katI f rt)=KO at HKA
 obtain ⟨OV,hOV⟩:∃ x:ByteArray->Int,(fun t=>overI f rs t i)=x:=⟨_,rfl⟩
 have hOVa:∀ t,overI f rs t i=OV t:=fun t=>by rw [<- hOV]
 have HOV2:Hid (∀ t w,Kinds w A f.kinds FA FC->RowsM w L rs RA RC->Calls Tryz.prog 161 #[fmtG f A cp,.slice L rs.length LC,.int .i64 (i:Int),.string t] w fun e w'=>e=.returned (.int .i64 (OV t))/\Below w.heap.size w w'):=Lib.hid (fun t w h h2=>by rw [<- hOVa];exact HOV.out t w h h2)
 have HOI2:Hid (∀ t,-1<=OV t/\OV t<(i:Int)):=Lib.hid (fun t=>by rw [<- hOVa];exact HOI.out t)
 rw [hOVa] at HFI
 clear hrt hMN hK hOV hOVa HOV HOI
 obtain ⟨m,q,ks,hd,tl,ct,sm⟩:=f
 obtain ⟨kt,fs,km,ku⟩:=K
 unfold fmtG at HKA HOV2 ⊢
 unfold kindG at HKA
 simp only at HKA HOV2 HKI HFI HR ⊢
 obtain ⟨nk,hnk⟩:∃ x,ks.length=x:=⟨_,rfl⟩
 rw [hnk] at HKA HOV2 ⊢
 obtain ⟨nf,hnf⟩:∃ x,fs.length=x:=⟨_,rfl⟩
 rw [hnf] at HKA
 obtain ⟨nr,hnr2⟩:∃ x,rs.length=x:=⟨_,rfl⟩
 have HNR:=Lib.hid hnr2
 rw [hnr2] at hnr hi hLC HOV2 HR ⊢
 clear hnk hnf hnr2
 have hP:=heap_new w (.cells #[.int .u8 m,.int .u8 q,.slice A nk cp,.string hd,.string tl,.string ct,.string sm] 44) rfl
 have hB1:Below w.heap.size w (w.alloc (.cells #[.int .u8 m,.int .u8 q,.slice A nk cp,.string hd,.string tl,.string ct,.string sm] 44)):=by go_grown
 go_enter Tryz.func133,Tryz.ntmps133
 go_upto_region 1 with fail
 generalize w.alloc (.cells #[.int .u8 m,.int .u8 q,.slice A nk cp,.string hd,.string tl,.string ct,.string sm] 44)=w1 at hP hB1 ⊢
 have HW:=Lib.hid (show ∀ wx,Below w1.heap.size w1 wx->wx.heap[w.heap.size]?=some (.cells #[.int .u8 m,.int .u8 q,.slice A nk cp,.string hd,.string tl,.string ct,.string sm] 44 (0,0))/\Kinds wx A ks FA FC/\RowsM wx L rs RA RC/\Below w.heap.size w wx from fun wx h=>by
  have h2:=below_then h hB1 hB1.size
  exact ⟨heap_below hP h,HKI.out.below h2,HLM.out.below h2,h2⟩)
 clear hP hB1
 obtain ⟨q1,qk,ql,qb⟩:=HW.out _ (Below.refl _ _)
 obtain ⟨⟨p0,p1,p2,p3,p4,p5,p6⟩,-⟩:=obox7 q1
 obtain ⟨b,off,rfl,hbk,c0,c1⟩:=ql.cells (j:=i) (by rw [HNR.out];exact hi)
 rw [HRT.out] at c0
 have QK:=Lib.hid qk;have QB:=Lib.hid qb
 clear q1 qk ql qb c1
 obtain ⟨B1,hB1⟩:∃ x,decide (hd≠⟨#[]⟩/\(decide (rt=hd)≠decide (i=0)))=x:=⟨_,rfl⟩
 obtain ⟨B2,hB2⟩:∃ x,decide (tl≠⟨#[]⟩/\rt=tl/\i≠nr-1)=x:=⟨_,rfl⟩
 have HB1:=Lib.hid hB1;have HB2:=Lib.hid hB2
 clear hB1 hB2
 go_upto_region 2 with fail
 go_cut [19] (fun v wx=>v=.bool B1/\w1=wx)
 case first=>
  have e1:=emp_dec hd
  have e2:=bytes_dec rt hd
  by_cases k1:hd=⟨#[]⟩
  ·have HE:=Lib.hid (show B1=false by rw [<- HB1.out];exact decide_eq_false (fun h=>h.1 k1))
   rw [decide_eq_true k1] at e1
   clear k1
   go_wp2
   go_meet
   exact ⟨by rw [HE.out],rfl⟩
  ·rw [decide_eq_false k1] at e1
   have HE:=Lib.hid (show B1=(decide (rt=hd) !=decide (i=0)) by
    rw [<- HB1.out]
    cases decide (rt=hd)<;>cases decide (i=0)<;>simp [k1])
   obtain ⟨X,hX⟩:∃ x,decide (rt=hd)=x:=⟨_,rfl⟩
   rw [hX] at e2 HE
   clear k1 hX
   rcases Nat.eq_zero_or_pos i with h0 | h0
   ·rw [decide_eq_true h0] at HE
    have h0i:((i:Int)==0)=true:=by simp [h0]
    clear h0
    cases X<;>(go_wp2;go_meet;exact ⟨by rw [HE.out];rfl,rfl⟩)
   ·rw [decide_eq_false (by omega)] at HE
    have h0i:((i:Int)==0)=false:=beq_eq_false_iff_ne.2 (by omega)
    clear h0
    cases X<;>(go_wp2;go_meet;exact ⟨by rw [HE.out];rfl,rfl⟩)
 case rest=>
 obtain ⟨rfl,rfl⟩:=hcut
 cases hb1:B1 with
 | true=>
  have HE:=Lib.hid (show R=8 by rw [<- HR.out];exact if_pos (of_decide_eq_true (HB1.out.trans hb1)))
  clear hb1
  go_wp2
  go_ret
  exact ⟨by rw [HE.out];rfl,QB.out⟩
 | false=>
 have HR1:=Lib.hid ((if_neg (of_decide_eq_false (HB1.out.trans hb1))).symm.trans HR.out)
 clear hb1 HR HB1
 go_upto_region 4 with fail
 go_cut [32] (fun v wx=>v=.bool B2/\w1=wx)
 case first=>
  have e1:=emp_dec tl
  have e2:=bytes_dec rt tl
  by_cases k1:tl=⟨#[]⟩
  ·have HE:=Lib.hid (show B2=false by rw [<- HB2.out];exact decide_eq_false (fun h=>h.1 k1))
   rw [decide_eq_true k1] at e1
   clear k1
   go_wp2
   go_meet
   exact ⟨by rw [HE.out],rfl⟩
  ·rw [decide_eq_false k1] at e1
   by_cases k2:rt=tl
   ·rw [decide_eq_true k2] at e2
    obtain ⟨n1,hn1⟩:∃ x,nr-1=x:=⟨_,rfl⟩
    have hix:(nr:Int)-1=(n1:Int):=by omega
    have hwr:IntKind.i64.wrap ((n1:Nat):Int)=(n1:Int):=IntWalk.i64_in _ (by omega)
    by_cases k3:i=n1
    ·have HE:=Lib.hid (show B2=false by rw [<- HB2.out,hn1];exact decide_eq_false (fun h=>h.2.2 k3))
     have h3:((i:Int) !=(n1:Int))=false:=by rw [k3];simp
     clear k1 k2 k3 hn1
     go_wp2
     go_meet
     exact ⟨by rw [HE.out],rfl⟩
    ·have HE:=Lib.hid (show B2=true by rw [<- HB2.out,hn1];exact decide_eq_true ⟨k1,k2,k3⟩)
     have h3:((i:Int) !=(n1:Int))=true:=by simp;omega
     clear k1 k2 k3 hn1
     go_wp2
     go_meet
     exact ⟨by rw [HE.out],rfl⟩
   ·have HE:=Lib.hid (show B2=false by rw [<- HB2.out];exact decide_eq_false (fun h=>k2 h.2.1))
    rw [decide_eq_false k2] at e2
    clear k1 k2
    go_wp2
    go_meet
    exact ⟨by rw [HE.out],rfl⟩
 case rest=>
 obtain ⟨rfl,rfl⟩:=hcut
 cases hb2:B2 with
 | true=>
  have HE:=Lib.hid (show R=8 by rw [<- HR1.out];exact if_pos (of_decide_eq_true (HB2.out.trans hb2)))
  clear hb2
  go_wp2
  go_ret
  exact ⟨by rw [HE.out];rfl,QB.out⟩
 | false=>
 have HR2:=Lib.hid ((if_neg (of_decide_eq_false (HB2.out.trans hb2))).symm.trans HR1.out)
 clear hb2 HR1 HB2
 go_wp2_with fail
 refine (HKA.out _ QK.out).mono ?_
 rintro _ w2 ⟨rfl,hb2⟩
 have hKD:=heap_new w2 (.cells #[.string kt,.slice KA nf KC,.int .i64 km,.string ku] 83) rfl
 have hBk:Below w1.heap.size w1 (w2.alloc (.cells #[.string kt,.slice KA nf KC,.int .i64 km,.string ku] 83)):=hb2.alloc hb2.size _
 clear hb2 p0 p1 p2 p3 p4 p5 p6 c0 hbk QK QB HKA
 go_upto_region 7 with fail
 obtain ⟨KB,hKB⟩:∃ x,w2.heap.size=x:=⟨_,rfl⟩
 rw [hKB] at hKD
 try rw [hKB]
 generalize w2.alloc (.cells #[.string kt,.slice KA nf KC,.int .i64 km,.string ku] 83)=wk at hKD hBk ⊢
 have HW2:=Lib.hid (show ∀ wx,Below wk.heap.size wk wx->wx.heap[w.heap.size]?=some (.cells #[.int .u8 m,.int .u8 q,.slice A nk cp,.string hd,.string tl,.string ct,.string sm] 44 (0,0))/\wx.heap[KB]?=some (.cells #[.string kt,.slice KA nf KC,.int .i64 km,.string ku] 83 (0,0))/\Kinds wx A ks FA FC/\RowsM wx (some ⟨b,off,none⟩) rs RA RC/\Below w.heap.size w wx from fun wx h=>by
  have h2:=below_then h hBk hBk.size
  obtain ⟨g1,g2,g3,g4⟩:=HW.out wx h2
  exact ⟨g1,heap_below hKD h,g2,g3,g4⟩)
 clear hKD hBk hKB
 obtain ⟨q1,q2,qk,ql,qb⟩:=HW2.out _ (Below.refl _ _)
 obtain ⟨⟨p0,p1,p2,p3,p4,p5,p6⟩,-⟩:=obox7 q1
 obtain ⟨⟨k0,k1,k2,k3⟩,-,-⟩:=obox4 q2
 have e1:=emp_dec ku
 obtain ⟨S0,hS0⟩:∃ x,decide (ku=⟨#[]⟩)=x:=⟨_,rfl⟩
 rw [hS0] at e1
 have HS0:=Lib.hid hS0
 have QK:=Lib.hid qk;have QL:=Lib.hid ql;have QB:=Lib.hid qb
 clear hS0 q1 q2 qk ql qb
 go_upto_if 57 with fail
 go_cut [10] (fun v wx=>∃ FR:Nat,v=.int .i64 (FR:Int)/\FR<=i/\Hid (FI=(FR:Int))/\Hid (Below wk.heap.size wk wx))
 case first=>
  cases hS:S0 with
  | true=>
   have hse:=of_decide_eq_true (HS0.out.trans hS)
   have HE:=Lib.hid (show FI=((0:Nat):Int) by rw [HFI.out,if_pos hse];rfl)
   clear hS hse
   go_wp2
   go_meet
   exact ⟨0,rfl,Nat.zero_le _,HE,Lib.hid (Below.refl _ _)⟩
  | false=>
   have hsn:=of_decide_eq_false (HS0.out.trans hS)
   have HE:=Lib.hid (show FI=OV ku by rw [HFI.out,if_neg hsn])
   have hov:=HOI2.out ku
   clear hS hsn
   go_wp2_with fail
   refine (HOV2.out ku _ QK.out QL.out).mono ?_
   rintro _ w3 ⟨rfl,hb3⟩
   obtain ⟨OK,hOK⟩:∃ x,OV ku=x:=⟨_,rfl⟩
   rw [hOK] at hov
   rw [hOK]
   have HOK:=Lib.hid hOK
   have HB3:=Lib.hid hb3
   clear hOK hb3
   rcases Int.lt_or_le OK 0 with hneg | hpos
   ·have HE2:=Lib.hid (show R=8 by rw [<- HR2.out];exact if_pos (by rw [HE.out,HOK.out];exact hneg))
    have hB:=(HW2.out _ HB3.out).2.2.2.2
    go_wp2
    go_ret
    exact ⟨by rw [HE2.out];rfl,hB⟩
   ·obtain ⟨FR,hFR⟩:∃ x,OK.toNat=x:=⟨_,rfl⟩
    have hOF:OK=(FR:Int):=by omega
    subst hOF
    have hn:¬ ((FR:Int)<0):=by omega
    clear hFR hpos
    go_wp2
    go_meet
    exact ⟨FR,rfl,by omega,Lib.hid (HE.out.trans HOK.out),HB3⟩
 case rest=>
 obtain ⟨FR,rfl,hFR,HF,HB⟩:=hcut
 have HR3:=Lib.hid ((if_neg (by rw [HF.out];omega)).symm.trans HR2.out)
 rw [HF.out,Int.toNat_natCast] at HR3
 clear p0 p1 p2 p3 p4 p5 p6 k0 k1 k2 k3 e1 HR2 QK QL QB HFI
 obtain ⟨q1,q2,qk,ql,qb⟩:=HW2.out _ HB.out
 obtain ⟨⟨k0,k1,k2,k3⟩,-,-⟩:=obox4 q2
 have QB:=Lib.hid qb
 by_cases hm0:km=0
 ·have HE:=Lib.hid (show R=0 by rw [<- HR3.out];exact if_pos hm0)
  have hm1:(km==0)=true:=by simp [hm0]
  clear q1 q2 qk ql qb hm0
  go_wp2
  go_ret
  exact ⟨by rw [HE.out];rfl,QB.out⟩
 have HR4:=Lib.hid ((if_neg hm0).symm.trans HR3.out)
 have hm1:(km==0)=false:=beq_eq_false_iff_ne.2 hm0
 obtain ⟨nn,hnn⟩:∃ x,i+1-FR=x:=⟨_,rfl⟩
 have HNN:=Lib.hid hnn
 rw [hnn] at HR4
 have hwi:IntKind.i64.wrap ((i:Int)+1)=(i:Int)+1:=IntWalk.i64_in _ (by omega)
 have g1:(0:Int)<=(FR:Int):=by omega
 have g2:(FR:Int)<=(i:Int)+1:=by omega
 have g3:(i:Int)+1<=(LC:Int):=by omega
 have g4:¬ LC=FR:=by omega
 have g5:((i:Int)+1).toNat-FR=nn:=by omega
 have g6:i+1-FR=nn:=hnn
 clear q1 q2 qk ql qb hm0 HR3
 go_wp2_with fail
 clear k0 k1 k2 k3
 go_loopw [75,11] (fun x y wr=>∃ j:Nat,j<=nn/\x=.int .i64 (j:Int)/\y=.int .i64 ((MN FR j:Nat):Int)/\Hid (Below wk.heap.size wk wr)) (fun x _ _=>nn-(intOf x).toNat)
 case atStart=>exact ⟨0,Nat.zero_le _,rfl,by rw [HM0.out];rfl,HB⟩
 case round=>
  clear HB QB
  obtain ⟨j,hj,rfl,rfl,HB⟩:=hrel
  have hml:=HML.out FR j
  obtain ⟨-,q2,-,ql,qb⟩:=HW2.out _ HB.out
  have QB:=Lib.hid qb
  rcases Nat.lt_or_ge j nn with hlt | hge
  ·obtain ⟨b',off',hbe,hbk,c0,c1⟩:=ql.cells (j:=FR+j) (by rw [HNR.out];omega)
   cases hbe
   have HMS:=Lib.hid (HM1.out FR j)
   obtain ⟨MJ,hMJ⟩:∃ x,MN FR j=x:=⟨_,rfl⟩
   rw [hMJ] at HMS hml
   rw [hMJ]
   rw [show off+(FR+j)*2=off+FR*2+j*2 by omega] at c0 c1
   obtain ⟨r,hr⟩:∃ x,rA rs (FR+j)=x:=⟨_,rfl⟩
   rw [hr] at c0 c1 HMS
   generalize RA (FR+j)=RJ at c1
   generalize RC (FR+j)=CJ at c1
   obtain ⟨rt2,vs⟩:=r
   simp only at c0 c1 HMS
   obtain ⟨nv,hnv⟩:∃ x,vs.length=x:=⟨_,rfl⟩
   rw [hnv] at c1
   have hRD:=heap_new wr (.cells #[.string rt2,.slice RJ nv CJ] 39) rfl
   have HB2:=Lib.hid (HB.out.alloc HB.out.size (.cells #[.string rt2,.slice RJ nv CJ] 39))
   have e1:=bytes_dec rt2 rt
   clear hMJ hr hnv q2 ql qb
   go_upto_region 18 with fail
   obtain ⟨rb,hrb⟩:∃ x,wr.heap.size=x:=⟨_,rfl⟩
   rw [hrb] at hRD
   try rw [hrb]
   generalize wr.alloc (.cells #[.string rt2,.slice RJ nv CJ] 39)=w2 at hRD HB2 ⊢
   obtain ⟨r0,r1,-,-,-⟩:=box2 hRD
   clear hrb c0 c1 hbk hRD HB QB
   by_cases h1:rt2=rt
   ·have HN:=Lib.hid (show MN FR (j+1)=MJ+1 by rw [HMS.out,if_pos h1])
    rw [decide_eq_true h1] at e1
    clear h1
    go_wp2
    go_roundw
    case rel=>exact ⟨j+1,by omega,by go_num,by rw [HN.out];go_num,HB2⟩
    case measure=>simp [intOf];omega
   ·have HN:=Lib.hid (show MN FR (j+1)=MJ by rw [HMS.out,if_neg h1];rfl)
    rw [decide_eq_false h1] at e1
    clear h1
    go_wp2
    go_roundw
    case rel=>exact ⟨j+1,by omega,by go_num,by rw [HN.out],HB2⟩
    case measure=>simp [intOf];omega
  ·obtain rfl:j=nn:=by omega
   obtain ⟨⟨k0,k1,k2,k3⟩,-,-⟩:=obox4 q2
   obtain ⟨MJ,hMJ⟩:∃ x,MN FR j=x:=⟨_,rfl⟩
   have HR5:=HR4.out
   rw [hMJ] at HR5
   rw [hMJ]
   have HR5:=Lib.hid HR5
   clear hMJ q2 ql qb
   by_cases hkm:km<(MJ:Int)
   ·have HE:=Lib.hid (show R=2 by rw [<- HR5.out];exact if_pos hkm)
    go_wp2
    go_ret
    exact ⟨by rw [HE.out];rfl,QB.out⟩
   ·have HE:=Lib.hid (show R=0 by rw [<- HR5.out];exact if_neg hkm)
    go_wp2
    go_ret
    exact ⟨by rw [HE.out];rfl,QB.out⟩
end Go.Proofs.YtbfbgappinilmaaGreatDoor
