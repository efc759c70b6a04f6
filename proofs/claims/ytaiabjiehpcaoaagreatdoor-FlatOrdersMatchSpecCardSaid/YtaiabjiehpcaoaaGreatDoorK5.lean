/- The walks of the program's valueFault, checkRow, CheckRow. (Printed by genV3.py.) The walks of days and dates: the reference's. -/
import Derived.Test.YtaiabjiehpcaoaaGreatDoorV2
import Derived.Test.YtaiabjiehpcaoaaGreatDoorF9
import Derived.Test.YtaiabjiehpcaoaaGreatDoorA8
import Derived.Test.YtaiabjiehpcaoaaGreatDoorM2
-- merged: V3 E3 K5
set_option maxHeartbeats 4000000
set_option maxRecDepth 100000
namespace Go.Proofs.YtaiabjiehpcaoaaGreatDoor
open Go.RowKit Limb Nmb Work
set_option linter.unusedVariables false
set_option linter.unusedSimpArgs false
theorem ixbyte_c (s:ByteArray) (m:Int) (w:World) (h:0<=m/\m<=255) :
  Calls Tryz.prog 90 #[.string s,.int .u8 m] w fun e w'=>e=.returned (.int .i64 (Lib.indexByte s.data.toList (UInt8.ofNat m.toNat)))/\w=w':=by
 refine (Tryz.strings_IndexByte s m w).mono ?_
 rintro e w' ⟨h1,h2⟩
 exact ⟨h1,h2.symm⟩
theorem valfault_c (f:Fmt) (A:Option Addr) (n cp:Nat) (c:Col) (s:ByteArray) (w:World) (hs:s.size<=9223372036854775807) (hm:0<=f.mark/\f.mark<=255) (hk:ColK f.mark c) (ht:Tab w) :
  Calls Tryz.prog 87 #[.agg #[.int .u8 f.mark,.int .u8 f.quote,.slice A n cp,.string f.head,.string f.tail,.string f.count,.string f.sum],colG c,.string s] w (RetI (valF f.mark f.quote c s) w):=by
 have HV:=Hd (fun w=>isvalue_c c s w hs)
 have HW:=Hd (fun w hv ht=>written_c f A n cp c s w hs hv hk ht)
 have HE0:=Hd (show valF f.mark f.quote c s=valF f.mark f.quote c s from rfl)
 obtain ⟨m,q,ks,hd,tl,ct,sm⟩:=f
 obtain ⟨nm,kd,wd,pl,fm,rt,fl,nd⟩:=c
 unfold colG at HV HW ⊢
 simp only at HV HW hm hk ⊢
 have hF0:=Qad (Qac w (.cells #[.int .u8 m,.int .u8 q,.slice A n cp,.string hd,.string tl,.string ct,.string sm] 24) rfl) (.cells #[.string nm,.int .i64 kd,.int .i64 wd,.int .i64 pl,.int .i64 fm,.bool rt,.int .u8 fl,.bool nd] 60)
 have hC0:=Qac (w.alloc (.cells #[.int .u8 m,.int .u8 q,.slice A n cp,.string hd,.string tl,.string ct,.string sm] 24)) (.cells #[.string nm,.int .i64 kd,.int .i64 wd,.int .i64 pl,.int .i64 fm,.bool rt,.int .u8 fl,.bool nd] 60) (g:=w.heap.size+1) (by simp)
 have hB0:Below w.heap.size w ((w.alloc (.cells #[.int .u8 m,.int .u8 q,.slice A n cp,.string hd,.string tl,.string ct,.string sm] 24)).alloc (.cells #[.string nm,.int .i64 kd,.int .i64 wd,.int .i64 pl,.int .i64 fm,.bool rt,.int .u8 fl,.bool nd] 60)):=by go_grown
 obtain ⟨⟨f0,f1,f2,f3,f4,f5,f6⟩,f7⟩:=Qai hF0
 obtain ⟨⟨x0,x1,x2,x3,x4,x5,x6,x7⟩,x8⟩:=QaC hC0
 have g1:=Qah s
 have HTB:=Hd (ht.below hB0)
 clear ht hk
 by_cases h0:s=⟨#[]⟩
 ·rw [decide_eq_true h0] at g1
  cases nd with
  | true=>
   have HE:=Hd (show valF m q ⟨nm,kd,wd,pl,fm,rt,fl,true⟩ s=13 by unfold valF;rw [if_pos h0,if_pos rfl])
   clear h0
   go_enter Tryz.func87,Tryz.ntmps87
   go_wp2
   go_ret
   exact ⟨by rw [HE.out];rfl,hB0⟩
  | false=>
   have HE:=Hd (show valF m q ⟨nm,kd,wd,pl,fm,rt,fl,false⟩ s=0 by unfold valF;rw [if_pos h0,if_neg (by simp)])
   clear h0
   go_enter Tryz.func87,Tryz.ntmps87
   go_wp2
   go_ret
   exact ⟨by rw [HE.out];rfl,hB0⟩
 rw [decide_eq_false h0] at g1
 have HN:=Hd h0
 obtain ⟨V,hV⟩:=ex_ (valOk ⟨nm,kd,wd,pl,fm,rt,fl,nd⟩ s.data.toList)
 have HVV:=Hd hV
 rw [hV] at HV HW
 obtain ⟨W,hW⟩:=ex_ (wrS m ⟨nm,kd,wd,pl,fm,rt,fl,nd⟩ s)
 have HWW:=Hd hW
 rw [hW] at HW
 clear h0 hV hW
 cases V with
 | false=>
  have HE:=Hd (show valF m q ⟨nm,kd,wd,pl,fm,rt,fl,nd⟩ s=6 by unfold valF;rw [if_neg HN.out,if_pos HVV.out])
  go_enter Tryz.func87,Tryz.ntmps87
  go_wp2_with fail
  refine (HV.out _).mono ?_
  rintro e w1 ⟨rfl,hb1⟩
  have hB1:=Qab hb1 hB0 hB0.size
  go_wp2
  go_ret
  exact ⟨by rw [HE.out];rfl,hB1⟩
 | true=>
  by_cases hl:wd<(W.size:Int)
  ·have HE:=Hd (show valF m q ⟨nm,kd,wd,pl,fm,rt,fl,nd⟩ s=16 by unfold valF;rw [if_neg HN.out,if_neg (by rw [HVV.out];decide),HWW.out,if_pos hl])
   go_enter Tryz.func87,Tryz.ntmps87
   go_wp2_with fail
   refine (HV.out _).mono ?_
   rintro e w1 ⟨rfl,hb1⟩
   have hF1:=Qaa hF0 hb1
   have hC1:=Qaa hC0 hb1
   have hB1:=Qab hb1 hB0 hB0.size
   obtain ⟨⟨f0,f1,f2,f3,f4,f5,f6⟩,f7⟩:=Qai hF1
   obtain ⟨⟨x0,x1,x2,x3,x4,x5,x6,x7⟩,x8⟩:=QaC hC1
   have HT1:=Hd (HTB.out.below hb1)
   clear hF0 hC0 hb1
   have HF1:=Hd hF1;have HC1:=Hd hC1
   have HSB:=Hd (show ∀ wx,Below w1.heap.size w1 wx->(fun w':World=>w'.cell? ⟨w.heap.size,0,none⟩=some (.int .u8 m)/\w'.cell? ⟨w.heap.size,1,none⟩=some (.int .u8 q)/\w'.cell? ⟨w.heap.size,2,none⟩=some (.slice A n cp)/\w'.cell? ⟨w.heap.size,3,none⟩=some (.string hd)/\w'.cell? ⟨w.heap.size,4,none⟩=some (.string tl)/\w'.cell? ⟨w.heap.size,5,none⟩=some (.string ct)/\w'.cell? ⟨w.heap.size,6,none⟩=some (.string sm)/\w'.cell? ⟨w.heap.size+1,0,none⟩=some (.string nm)/\w'.cell? ⟨w.heap.size+1,1,none⟩=some (.int .i64 kd)/\w'.cell? ⟨w.heap.size+1,2,none⟩=some (.int .i64 wd)/\w'.cell? ⟨w.heap.size+1,3,none⟩=some (.int .i64 pl)/\w'.cell? ⟨w.heap.size+1,4,none⟩=some (.int .i64 fm)/\w'.cell? ⟨w.heap.size+1,5,none⟩=some (.bool rt)/\w'.cell? ⟨w.heap.size+1,6,none⟩=some (.int .u8 fl)/\w'.cell? ⟨w.heap.size+1,7,none⟩=some (.bool nd)) wx from fun wx h=>by
    obtain ⟨⟨f0,f1,f2,f3,f4,f5,f6⟩,f7⟩:=Qai (Qaa HF1.out h)
    obtain ⟨⟨x0,x1,x2,x3,x4,x5,x6,x7⟩,x8⟩:=QaC (Qaa HC1.out h)
    exact ⟨f0,f1,f2,f3,f4,f5,f6,x0,x1,x2,x3,x4,x5,x6,x7⟩)
   have T1:Below w1.heap.size w1 w1:=Below.refl _ _
   clear f0 f1 f2 f3 f4 f5 f6 f7 x0 x1 x2 x3 x4 x5 x6 x7 x8 hF1 hC1
   go_wp2_with fail
   go_region_held3 (fun w':World=>w'.cell? ⟨w.heap.size,0,none⟩=some (.int .u8 m)/\w'.cell? ⟨w.heap.size,1,none⟩=some (.int .u8 q)/\w'.cell? ⟨w.heap.size,2,none⟩=some (.slice A n cp)/\w'.cell? ⟨w.heap.size,3,none⟩=some (.string hd)/\w'.cell? ⟨w.heap.size,4,none⟩=some (.string tl)/\w'.cell? ⟨w.heap.size,5,none⟩=some (.string ct)/\w'.cell? ⟨w.heap.size,6,none⟩=some (.string sm)/\w'.cell? ⟨w.heap.size+1,0,none⟩=some (.string nm)/\w'.cell? ⟨w.heap.size+1,1,none⟩=some (.int .i64 kd)/\w'.cell? ⟨w.heap.size+1,2,none⟩=some (.int .i64 wd)/\w'.cell? ⟨w.heap.size+1,3,none⟩=some (.int .i64 pl)/\w'.cell? ⟨w.heap.size+1,4,none⟩=some (.int .i64 fm)/\w'.cell? ⟨w.heap.size+1,5,none⟩=some (.bool rt)/\w'.cell? ⟨w.heap.size+1,6,none⟩=some (.int .u8 fl)/\w'.cell? ⟨w.heap.size+1,7,none⟩=some (.bool nd))
    (first | (with_reducible exact HSB.out _ T2) | (refine HSB.out _ ?_;go_grown))
    (first | (go_at_call 151;refine (HW.out _ (fun _=>trivial) (by exact HT1.out)).mono ?_;rintro e w2 ⟨rfl,hb2⟩;(have T2:Below w1.heap.size w1 w2:=by exact ⟨hb2.os,hb2.tape,hb2.output,hb2.size,hb2.block⟩)))
   have hF1:=HF1.out;have hC1:=HC1.out;have hb2:=T2
   have hF2:=Qaa hF1 hb2
   have hC2:=Qaa hC1 hb2
   have hB2:=Qab hb2 hB1 hB1.size
   obtain ⟨⟨f0,f1,f2,f3,f4,f5,f6⟩,f7⟩:=Qai hF2
   obtain ⟨⟨x0,x1,x2,x3,x4,x5,x6,x7⟩,x8⟩:=QaC hC2
   clear hF1 hC1 hb2
   go_wp2
   go_ret
   exact ⟨by rw [HE.out];rfl,hB2⟩
  ·have HG:=Hd (show valF m q ⟨nm,kd,wd,pl,fm,rt,fl,nd⟩ s=if m≠0/\q=0/\0<=Lib.indexByte s.data.toList (UInt8.ofNat m.toNat) then 12 else 0 by unfold valF;rw [if_neg HN.out,if_neg (by rw [HVV.out];decide),HWW.out,if_neg hl])
   have hlt:¬ (W.size:Int)>wd:=hl
   go_enter Tryz.func87,Tryz.ntmps87
   go_wp2_with fail
   refine (HV.out _).mono ?_
   rintro e w1 ⟨rfl,hb1⟩
   have hF1:=Qaa hF0 hb1
   have hC1:=Qaa hC0 hb1
   have hB1:=Qab hb1 hB0 hB0.size
   obtain ⟨⟨f0,f1,f2,f3,f4,f5,f6⟩,f7⟩:=Qai hF1
   obtain ⟨⟨x0,x1,x2,x3,x4,x5,x6,x7⟩,x8⟩:=QaC hC1
   have HT1:=Hd (HTB.out.below hb1)
   clear hF0 hC0 hb1
   have HF1:=Hd hF1;have HC1:=Hd hC1
   have HSB:=Hd (show ∀ wx,Below w1.heap.size w1 wx->(fun w':World=>w'.cell? ⟨w.heap.size,0,none⟩=some (.int .u8 m)/\w'.cell? ⟨w.heap.size,1,none⟩=some (.int .u8 q)/\w'.cell? ⟨w.heap.size,2,none⟩=some (.slice A n cp)/\w'.cell? ⟨w.heap.size,3,none⟩=some (.string hd)/\w'.cell? ⟨w.heap.size,4,none⟩=some (.string tl)/\w'.cell? ⟨w.heap.size,5,none⟩=some (.string ct)/\w'.cell? ⟨w.heap.size,6,none⟩=some (.string sm)/\w'.cell? ⟨w.heap.size+1,0,none⟩=some (.string nm)/\w'.cell? ⟨w.heap.size+1,1,none⟩=some (.int .i64 kd)/\w'.cell? ⟨w.heap.size+1,2,none⟩=some (.int .i64 wd)/\w'.cell? ⟨w.heap.size+1,3,none⟩=some (.int .i64 pl)/\w'.cell? ⟨w.heap.size+1,4,none⟩=some (.int .i64 fm)/\w'.cell? ⟨w.heap.size+1,5,none⟩=some (.bool rt)/\w'.cell? ⟨w.heap.size+1,6,none⟩=some (.int .u8 fl)/\w'.cell? ⟨w.heap.size+1,7,none⟩=some (.bool nd)) wx from fun wx h=>by
    obtain ⟨⟨f0,f1,f2,f3,f4,f5,f6⟩,f7⟩:=Qai (Qaa HF1.out h)
    obtain ⟨⟨x0,x1,x2,x3,x4,x5,x6,x7⟩,x8⟩:=QaC (Qaa HC1.out h)
    exact ⟨f0,f1,f2,f3,f4,f5,f6,x0,x1,x2,x3,x4,x5,x6,x7⟩)
   have T1:Below w1.heap.size w1 w1:=Below.refl _ _
   clear f0 f1 f2 f3 f4 f5 f6 f7 x0 x1 x2 x3 x4 x5 x6 x7 x8 hF1 hC1
   go_wp2_with fail
   go_region_held3 (fun w':World=>w'.cell? ⟨w.heap.size,0,none⟩=some (.int .u8 m)/\w'.cell? ⟨w.heap.size,1,none⟩=some (.int .u8 q)/\w'.cell? ⟨w.heap.size,2,none⟩=some (.slice A n cp)/\w'.cell? ⟨w.heap.size,3,none⟩=some (.string hd)/\w'.cell? ⟨w.heap.size,4,none⟩=some (.string tl)/\w'.cell? ⟨w.heap.size,5,none⟩=some (.string ct)/\w'.cell? ⟨w.heap.size,6,none⟩=some (.string sm)/\w'.cell? ⟨w.heap.size+1,0,none⟩=some (.string nm)/\w'.cell? ⟨w.heap.size+1,1,none⟩=some (.int .i64 kd)/\w'.cell? ⟨w.heap.size+1,2,none⟩=some (.int .i64 wd)/\w'.cell? ⟨w.heap.size+1,3,none⟩=some (.int .i64 pl)/\w'.cell? ⟨w.heap.size+1,4,none⟩=some (.int .i64 fm)/\w'.cell? ⟨w.heap.size+1,5,none⟩=some (.bool rt)/\w'.cell? ⟨w.heap.size+1,6,none⟩=some (.int .u8 fl)/\w'.cell? ⟨w.heap.size+1,7,none⟩=some (.bool nd))
    (first | (with_reducible exact HSB.out _ T2) | (refine HSB.out _ ?_;go_grown))
    (first | (go_at_call 151;refine (HW.out _ (fun _=>trivial) (by exact HT1.out)).mono ?_;rintro e w2 ⟨rfl,hb2⟩;(have T2:Below w1.heap.size w1 w2:=by exact ⟨hb2.os,hb2.tape,hb2.output,hb2.size,hb2.block⟩)))
   have hF1:=HF1.out;have hC1:=HC1.out;have hb2:=T2
   have hF2:=Qaa hF1 hb2
   have hC2:=Qaa hC1 hb2
   have hB2:=Qab hb2 hB1 hB1.size
   obtain ⟨⟨f0,f1,f2,f3,f4,f5,f6⟩,f7⟩:=Qai hF2
   obtain ⟨⟨x0,x1,x2,x3,x4,x5,x6,x7⟩,x8⟩:=QaC hC2
   clear hF1 hC1 hb2
   by_cases h1:m=0
   ·subst h1
    have HE:=Hd (show valF 0 q ⟨nm,kd,wd,pl,fm,rt,fl,nd⟩ s=0 by rw [HG.out,if_neg (fun h=>h.1 rfl)])
    go_wp2
    go_ret
    exact ⟨by rw [HE.out];rfl,hB2⟩
   have k1:(m !=0)=true:=by simpa using h1
   by_cases h2:q=0
   case neg=>
    have HE:=Hd (show valF m q ⟨nm,kd,wd,pl,fm,rt,fl,nd⟩ s=0 by rw [HG.out,if_neg (fun h=>h2 h.2.1)])
    have k2:(q==0)=false:=beq_eq_false_iff_ne.2 h2
    clear h1 h2
    go_wp2
    go_ret
    exact ⟨by rw [HE.out];rfl,hB2⟩
   subst h2
   have HI:=Hd (fun w=>ixbyte_c s m w hm)
   by_cases h3:0<=Lib.indexByte s.data.toList (UInt8.ofNat m.toNat)
   ·have HE:=Hd (show valF m 0 ⟨nm,kd,wd,pl,fm,rt,fl,nd⟩ s=12 by rw [HG.out,if_pos ⟨h1,rfl,h3⟩])
    generalize Lib.indexByte s.data.toList (UInt8.ofNat m.toNat)=I at HI h3
    clear h1
    go_wp2_with fail
    refine (HI.out _).mono ?_
    rintro e w3 ⟨rfl,rfl⟩
    go_wp2
    go_ret
    exact ⟨by rw [HE.out];rfl,hB2⟩
   ·have HE:=Hd (show valF m 0 ⟨nm,kd,wd,pl,fm,rt,fl,nd⟩ s=0 by rw [HG.out,if_neg (fun h=>h3 h.2.2)])
    generalize Lib.indexByte s.data.toList (UInt8.ofNat m.toNat)=I at HI h3
    clear h1
    go_wp2_with fail
    refine (HI.out _).mono ?_
    rintro e w3 ⟨rfl,rfl⟩
    go_wp2
    go_ret
    exact ⟨by rw [HE.out];rfl,hB2⟩
def rowG (r:RowP) (A:Option Addr) (c:Nat):Value:=.agg #[.string r.tag,.slice A r.vals.length c]
def Svs (w:World) (A:Option Addr) (L:List ByteArray):Prop:=0<L.length->∃ b off,A=some ⟨b,off,none⟩/\b<w.heap.size/\∀ j,j<L.length->w.cell? ⟨b,off+j,none⟩=some (.string (wd L j))
theorem Svs.below {w w':World} {A:Option Addr} {L:List ByteArray} (h:Svs w A L) (hb:Below w.heap.size w w'):Svs w' A L:=fun hn=>by
 obtain ⟨b,off,e,hl,hc⟩:=h hn
 exact ⟨b,off,e,Nat.lt_of_lt_of_le hl hb.size,fun j hj=>(hb.cell (p:=⟨b,off+j,none⟩) hl).trans (hc j hj)⟩
theorem Svs.cells {w:World} {A:Option Addr} {L:List ByteArray} (h:Svs w A L) (hn:0<L.length):∃ b off,A=some ⟨b,off,none⟩/\b<w.heap.size/\∀ j,j<L.length->w.cell? ⟨b,off+j,none⟩=some (.string (wd L j)):=h hn
theorem Sts.svs {w:World} {A:Option Addr} {L:List ByteArray} (h:Sts w A L):Svs w A L:=fun hn=>h.cells hn
structure RowM (w:World) (r:RowP) (A:Option Addr) (c:Nat):Prop where
 vals:Svs w A r.vals
 len:r.vals.length<=c/\c<=9223372036854775807
 size:∀ s∈r.vals,s.size<=9223372036854775807
 tag:r.tag.size<=9223372036854775807
theorem RowM.below {w w':World} {r:RowP} {A:Option Addr} {c:Nat} (h:RowM w r A c) (hb:Below w.heap.size w w'):RowM w' r A c:=⟨h.vals.below hb,h.len,h.size,h.tag⟩
theorem wd_size {L:List ByteArray} (h:∀ s∈L,s.size<=9223372036854775807) (j:Nat):(wd L j).size<=9223372036854775807:=by
 unfold wd
 rw [List.getD_eq_getElem?_getD]
 cases hg:L[j]? with
 | none=>exact Nat.zero_le _
 | some s=>exact h s (List.mem_of_getElem? hg)
theorem checkrow_c (f:Fmt) (A:Option Addr) (cp:Nat) (FA:Nat->Option Addr) (FC:Nat->Nat) (r:RowP) (RA:Option Addr) (RC:Nat) (w:World) (ho:Kinds w A f.kinds FA FC) (hr:RowM w r RA RC) (hf:Qao f=0) (hm:0<=f.mark/\f.mark<=255) (ht:Tab w) :
  Calls Tryz.prog 47 #[fmtG f A cp,rowG r RA RC] w (Qbk (rowF f r).1 (rowF f r).2 w):=by
 have HKA:=Hd (fun w h=>QbR f A cp FA FC r.tag w h)
 have HFK:=Hd (checkF_ok hf)
 have HVF:=Hd (fun c s w hs hk ht=>valfault_c f A f.kinds.length cp c s w hs hm hk ht)
 have HCS:=Hd (QaX f FA FC r.tag)
 have HKI:=Hd ho;have HRM:=Hd hr;have HTB:=Hd ht
 obtain ⟨R,hR⟩:=ex_ (rowF f r)
 have HR:=Hd hR
 rw [hR]
 clear ho hr ht hf hR
 obtain ⟨m,q,ks,hd,tl,ct,sm⟩:=f
 obtain ⟨tg,vs⟩:=r
 unfold fmtG at HKA ⊢
 unfold rowG
 simp only at HKA HVF HCS HKI hm ⊢
 obtain ⟨n,hn⟩:=ex_ (ks.length)
 have HN:=Hd hn
 obtain ⟨nv,hnv⟩:=ex_ (vs.length)
 have HNV:=Hd hnv
 have hnvb:nv<=RC:=by rw [<- hnv];exact HRM.out.len.1
 rw [hn] at HKA HVF ⊢
 rw [hnv]
 clear hn hnv
 have hF0:=Qad (Qac w (.cells #[.int .u8 m,.int .u8 q,.slice A n cp,.string hd,.string tl,.string ct,.string sm] 24) rfl) (.cells #[.string tg,.slice RA nv RC] 49)
 have hR0:=Qac (w.alloc (.cells #[.int .u8 m,.int .u8 q,.slice A n cp,.string hd,.string tl,.string ct,.string sm] 24)) (.cells #[.string tg,.slice RA nv RC] 49) (g:=w.heap.size+1) (by simp)
 have hB0:Below w.heap.size w ((w.alloc (.cells #[.int .u8 m,.int .u8 q,.slice A n cp,.string hd,.string tl,.string ct,.string sm] 24)).alloc (.cells #[.string tg,.slice RA nv RC] 49)):=by go_grown
 go_enter Tryz.func47,Tryz.ntmps47
 obtain ⟨⟨f0,f1,f2,f3,f4,f5,f6⟩,f7⟩:=Qai hF0
 obtain ⟨r0,r1,-,-,r2⟩:=box2 hR0
 have HKW:=Hd (HKI.out.below hB0)
 go_wp2_with fail
 refine (HKA.out _ HKW.out).mono ?_
 rintro e w2 ⟨rfl,hb2⟩
 have hF2:=Qaa hF0 hb2
 have hR2:=Qaa hR0 hb2
 have hB2:=Qab hb2 hB0 hB0.size
 have hz2:=hB2.size
 clear hF0 hR0 hb2 f0 f1 f2 f3 f4 f5 f6 f7 r0 r1 r2 HKW hB0
 rcases HCS.out with ⟨h1,h2,h3,h4⟩|⟨k,hk,h1,h2,h3,h4⟩
 ·have HE:=Hd (show R=(0,9) by rw [<- HR.out];unfold rowF;rw [if_pos (by rw [h1];decide)])
  rw [h1,h2,h3,h4]
  unfold QaO
  simp only [kind0,List.length_nil]
  clear h1 h2 h3 h4
  go_wp2
  go_ret2
  exact ⟨by rw [HE.out];rfl,by go_grown⟩
 ·have hi0:¬ katI ⟨m,q,ks,hd,tl,ct,sm⟩ tg<0:=by rw [h1];omega
  have HRR:=Hd (show R=if vs.length≠(kA ks k).fields.length then (0,3) else frF (fun j=>valF m q (cA (kA ks k).fields j) (wd vs j)) (kA ks k).fields.length by rw [<- HR.out];unfold rowF;rw [if_neg hi0,h2])
  rw [h1,h2,h3,h4]
  have hdec:decide ((0:Int)<=(k:Int))=true:=decide_eq_true (by omega)
  rw [hdec]
  have HKK:=Hd (HFK.out.kinds k hk)
  have HCO:=Hd ((HKI.out).2.2 k hk)
  simp only at HKK
  obtain ⟨K,hK⟩:=ex_ (kA ks k)
  have HKc:=Hd (fun j (hj:j<K.fields.length)=>(show ColK m (cA K.fields j) by rw [<- hK] at hj ⊢;exact HKK.out.cols j hj))
  rw [hK] at HRR HCO ⊢
  clear h1 h2 h3 h4 hi0 hdec hK
  obtain ⟨kt,fs,km,ku⟩:=K
  unfold QaO
  simp only at HRR HCO HKc ⊢
  obtain ⟨nf,hnf⟩:=ex_ (fs.length)
  obtain ⟨KA,hKA⟩:=ex_ (FA k)
  obtain ⟨KC,hKC⟩:=ex_ (FC k)
  have HNF:=Hd hnf
  rw [hnf,hKA,hKC] at HCO
  rw [hnf] at HRR HKc
  rw [hnf,hKA,hKC]
  have hnfb:nf<=9223372036854775807:=by rw [<- hnf];exact HCO.out.1.1.2
  have hnfc:nf<=KC:=HCO.out.2
  clear hnf hKA hKC HKK
  have hF3:=Qad hF2 (.cells #[.string kt,.slice KA nf KC,.int .i64 km,.string ku] 52)
  have hR3:=Qad hR2 (.cells #[.string kt,.slice KA nf KC,.int .i64 km,.string ku] 52)
  have hK3:=Qac w2 (.cells #[.string kt,.slice KA nf KC,.int .i64 km,.string ku] 52) rfl
  have hB3:Below w.heap.size w (w2.alloc (.cells #[.string kt,.slice KA nf KC,.int .i64 km,.string ku] 52)):=by go_grown
  obtain ⟨k0,hk0⟩:=ex_ (w2.heap.size)
  have hwk:w.heap.size+1<k0:=by rw [<- hk0];exact Qan hR2
  rw [hk0] at hK3
  go_upto_region 2 with fail
  generalize w2.alloc (.cells #[.string kt,.slice KA nf KC,.int .i64 km,.string ku] 52)=w3 at hF3 hR3 hK3 hB3 ⊢
  have HT3:=Hd (HTB.out.below hB3)
  obtain ⟨⟨f0,f1,f2,f3,f4,f5,f6⟩,f7⟩:=Qai hF3
  obtain ⟨r0,r1,-,-,r2⟩:=box2 hR3
  obtain ⟨⟨y0,y1,y2,y3⟩,-,y4⟩:=Qaw hK3
  clear hF2 hR2 hB2 hz2
  by_cases hlen:nv=nf
  case neg=>
   have HE:=Hd (show R=(0,3) by rw [HRR.out,HNV.out,if_pos hlen])
   have hne:((nv:Int) !=(nf:Int))=true:=by
    have:¬ (nv:Int)=(nf:Int):=by omega
    simpa using this
   clear hlen
   go_wp2
   go_ret2
   exact ⟨by rw [HE.out];rfl,hB3⟩
  subst hlen
  have HRF:=Hd (show R=frF (fun j=>valF m q (cA fs j) (wd vs j)) nv by rw [HRR.out,HNV.out,if_neg (fun h=>h rfl)])
  have HF3:=Hd hF3;have HR3:=Hd hR3;have HK3:=Hd hK3
  clear hF3 hR3 hK3 HRR
  go_wp2_with fail
  have HTC:=Hd HCO.out.1
  have HB3:=Hd hB3
  have hz3:=hB3.size
  go_loopw [30] (fun i wr=>∃ j:Nat,j<=nv/\i=.int .i64 j/\Below w3.heap.size w3 wr/\Hid (∀ t,t<j->valF m q (cA fs t) (wd vs t)=0)) (fun i _=>nv-(intOf i).toNat)
  case atStart=>exact ⟨0,Nat.zero_le _,rfl,Below.refl _ _,Hd (fun t h=>absurd h (Nat.not_lt_zero _))⟩
  case round=>
   clear f0 f1 f2 f3 f4 f5 f6 f7 r0 r1 r2 y0 y1 y2 y3 y4 hB3
   obtain ⟨j,hj,rfl,hb,HJ⟩:=hrel
   have hF:=Qaa HF3.out hb
   have hR:=Qaa HR3.out hb
   have hK:=Qaa HK3.out hb
   obtain ⟨⟨f0,f1,f2,f3,f4,f5,f6⟩,f7⟩:=Qai hF
   obtain ⟨r0,r1,-,-,r2⟩:=box2 hR
   obtain ⟨⟨y0,y1,y2,y3⟩,-,y4⟩:=Qaw hK
   have hBw:=Qab hb HB3.out hz3
   rcases Nat.lt_or_ge j nv with hlt | hge
   ·obtain ⟨b,off,rfl,hbw,c0,c1,c2,c3,c4,c5,c6,c7⟩:=(HTC.out.below hBw).cells (j:=j) (by rw [HNF.out];exact hlt)
    obtain ⟨b2,off2,rfl,hbw2,hcs⟩:=(HRM.out.vals.below hBw).cells (by rw [HNV.out];omega)
    have s0:=hcs j (by rw [HNV.out];exact hlt)
    have hsz:=wd_size HRM.out.size j
    have HCJ:=Hd (HKc.out j (by exact hlt))
    simp only at s0 hsz
    have HVJ:=Hd (fun w ht=>HVF.out (cA fs j) (wd vs j) w hsz HCJ.out ht)
    obtain ⟨s,hs⟩:=ex_ (wd vs j)
    obtain ⟨co,hco⟩:=ex_ (cA fs j)
    obtain ⟨X,hX⟩:=ex_ (valF m q co s)
    have HX:=Hd (show valF m q (cA fs j) (wd vs j)=X by rw [hs,hco,hX])
    rw [hs,hco,hX] at HVJ
    rw [hs] at s0 hsz
    rw [hco] at c0 c1 c2 c3 c4 c5 c6 c7
    have HTW:=Hd (HTB.out.below hBw)
    clear hs hco hX hcs
    obtain ⟨nm,kd,wd,pl,fm,rt,fl,nd⟩:=co
    unfold colG at HVJ
    simp only at HVJ c0 c1 c2 c3 c4 c5 c6 c7
    have hoff:off+j*8<off+j*8+1:=by omega
    have hF4:=Qad hF (.cells #[.string nm,.int .i64 kd,.int .i64 wd,.int .i64 pl,.int .i64 fm,.bool rt,.int .u8 fl,.bool nd] 60)
    have hR4:=Qad hR (.cells #[.string nm,.int .i64 kd,.int .i64 wd,.int .i64 pl,.int .i64 fm,.bool rt,.int .u8 fl,.bool nd] 60)
    have hC4:=Qac wr (.cells #[.string nm,.int .i64 kd,.int .i64 wd,.int .i64 pl,.int .i64 fm,.bool rt,.int .u8 fl,.bool nd] 60) rfl
    have hb4:Below wr.heap.size wr (wr.alloc (.cells #[.string nm,.int .i64 kd,.int .i64 wd,.int .i64 pl,.int .i64 fm,.bool rt,.int .u8 fl,.bool nd] 60)):=by go_grown
    have s4:=(hb4.cell (p:=⟨b2,off2+j,none⟩) hbw2).trans s0
    have HBW:=Hd hBw
    have hzr:=hb.size
    go_upto_region 9 with fail
    obtain ⟨c0n,hc0n⟩:=ex_ (wr.heap.size)
    rw [hc0n] at hC4 ⊢
    generalize wr.alloc (.cells #[.string nm,.int .i64 kd,.int .i64 wd,.int .i64 pl,.int .i64 fm,.bool rt,.int .u8 fl,.bool nd] 60)=w4 at hF4 hR4 hC4 hb4 s4 ⊢
    clear f0 f1 f2 f3 f4 f5 f6 f7 r0 r1 r2 y0 y1 y2 y3 y4 c0 c1 c2 c3 c4 c5 c6 c7 s0 hF hR hK
    obtain ⟨⟨f0,f1,f2,f3,f4,f5,f6⟩,f7⟩:=Qai hF4
    obtain ⟨r0,r1,-,-,r2⟩:=box2 hR4
    obtain ⟨⟨x0,x1,x2,x3,x4,x5,x6,x7⟩,x8⟩:=QaC hC4
    have HT4:=Hd (HTW.out.below hb4)
    have hB4:=Qab hb4 HBW.out HBW.out.size
    have HF4:=Hd hF4;have HC4:=Hd hC4;have HR4:=Hd hR4;have HS4:=Hd s4
    have hb2w:b2<w4.heap.size:=Nat.lt_of_lt_of_le hbw2 hb4.size
    have HSB:=Hd (show ∀ wx,Below w4.heap.size w4 wx->(fun w':World=>w'.cell? ⟨w.heap.size,0,none⟩=some (.int .u8 m)/\w'.cell? ⟨w.heap.size,1,none⟩=some (.int .u8 q)/\w'.cell? ⟨w.heap.size,2,none⟩=some (.slice A n cp)/\w'.cell? ⟨w.heap.size,3,none⟩=some (.string hd)/\w'.cell? ⟨w.heap.size,4,none⟩=some (.string tl)/\w'.cell? ⟨w.heap.size,5,none⟩=some (.string ct)/\w'.cell? ⟨w.heap.size,6,none⟩=some (.string sm)/\w'.cell? ⟨c0n,0,none⟩=some (.string nm)/\w'.cell? ⟨c0n,1,none⟩=some (.int .i64 kd)/\w'.cell? ⟨c0n,2,none⟩=some (.int .i64 wd)/\w'.cell? ⟨c0n,3,none⟩=some (.int .i64 pl)/\w'.cell? ⟨c0n,4,none⟩=some (.int .i64 fm)/\w'.cell? ⟨c0n,5,none⟩=some (.bool rt)/\w'.cell? ⟨c0n,6,none⟩=some (.int .u8 fl)/\w'.cell? ⟨c0n,7,none⟩=some (.bool nd)/\w'.cell? ⟨w.heap.size+1,1,none⟩=some (.slice (some ⟨b2,off2,none⟩) nv RC)/\w'.cell? ⟨b2,off2+j,none⟩=some (.string s)) wx from fun wx h=>by
     obtain ⟨⟨f0,f1,f2,f3,f4,f5,f6⟩,f7⟩:=Qai (Qaa HF4.out h)
     obtain ⟨⟨x0,x1,x2,x3,x4,x5,x6,x7⟩,x8⟩:=QaC (Qaa HC4.out h)
     obtain ⟨r0,r1,-,-,r2⟩:=box2 (Qaa HR4.out h)
     exact ⟨f0,f1,f2,f3,f4,f5,f6,x0,x1,x2,x3,x4,x5,x6,x7,r1,(h.cell (p:=⟨b2,off2+j,none⟩) hb2w).trans HS4.out⟩)
    have T1:Below w4.heap.size w4 w4:=Below.refl _ _
    clear hF4 hR4 hC4 hc0n f0 f1 f2 f3 f4 f5 f6 f7 r0 r1 r2 x0 x1 x2 x3 x4 x5 x6 x7 x8 s4
    go_wp2_with fail
    go_region_held3 (fun w':World=>w'.cell? ⟨w.heap.size,0,none⟩=some (.int .u8 m)/\w'.cell? ⟨w.heap.size,1,none⟩=some (.int .u8 q)/\w'.cell? ⟨w.heap.size,2,none⟩=some (.slice A n cp)/\w'.cell? ⟨w.heap.size,3,none⟩=some (.string hd)/\w'.cell? ⟨w.heap.size,4,none⟩=some (.string tl)/\w'.cell? ⟨w.heap.size,5,none⟩=some (.string ct)/\w'.cell? ⟨w.heap.size,6,none⟩=some (.string sm)/\w'.cell? ⟨c0n,0,none⟩=some (.string nm)/\w'.cell? ⟨c0n,1,none⟩=some (.int .i64 kd)/\w'.cell? ⟨c0n,2,none⟩=some (.int .i64 wd)/\w'.cell? ⟨c0n,3,none⟩=some (.int .i64 pl)/\w'.cell? ⟨c0n,4,none⟩=some (.int .i64 fm)/\w'.cell? ⟨c0n,5,none⟩=some (.bool rt)/\w'.cell? ⟨c0n,6,none⟩=some (.int .u8 fl)/\w'.cell? ⟨c0n,7,none⟩=some (.bool nd)/\w'.cell? ⟨w.heap.size+1,1,none⟩=some (.slice (some ⟨b2,off2,none⟩) nv RC)/\w'.cell? ⟨b2,off2+j,none⟩=some (.string s))
     (first | (with_reducible exact HSB.out _ T5) | (refine HSB.out _ ?_;go_grown))
     (first | (go_at_call 87;refine (HVJ.out _ (by exact HT4.out)).mono ?_;rintro e w5 ⟨rfl,hb5'⟩;(have T5:Below w4.heap.size w4 w5:=by exact ⟨hb5'.os,hb5'.tape,hb5'.output,hb5'.size,hb5'.block⟩)))
    have hb5:=T5
    have hb45:=Qab hb5 hb4 hb4.size
    have hb35:=Qab hb45 hb hzr
    have hB5:=Qab hb45 HBW.out HBW.out.size
    clear hb4 hb5 hB4 hBw T5
    by_cases h0:X=0
    ·subst h0
     have HJ2:=Hd (show ∀ t,t<j+1->valF m q (cA fs t) (Go.Proofs.YtaiabjiehpcaoaaGreatDoor.wd vs t)=0 from fun t ht=>by
      rcases Nat.lt_or_ge t j with h | h
      ·exact HJ.out t h
      ·obtain rfl:t=j:=by omega
       exact HX.out)
     go_wp2
     go_roundw
     case rel=>exact ⟨j+1,by omega,by go_num,hb35,HJ2⟩
     case measure=>simp [intOf];omega
    ·have HE:=Hd (show R=((j:Int),X) by rw [HRF.out,Qb2 (j:=j) HJ.out (by show valF m q _ _≠0;rw [HX.out];exact h0) hlt];exact congrArg _ HX.out)
     have h0a:(X !=0)=true:=by simpa using h0
     clear h0
     go_wp2
     go_ret2
     exact ⟨by rw [HE.out];rfl,hB5⟩
   ·obtain rfl:j=nv:=by omega
    have HE:=Hd (show R=(0,0) by rw [HRF.out];exact frF_no HJ.out)
    go_wp2
    go_ret2
    exact ⟨by rw [HE.out];rfl,hBw⟩
end Go.Proofs.YtaiabjiehpcaoaaGreatDoor
namespace Go.Proofs.YtaiabjiehpcaoaaGreatDoor
open Go.RowKit Limb Work
set_option linter.unusedVariables false
set_option linter.unusedSimpArgs false
theorem rlong_c (y:Int) (w:World) (h:1<=y/\y<=10000):Calls Tryz.prog 268 #[.int .i64 y] w fun e w'=>w=w'/\e=.returned (.bool (leapB y)):=by
 obtain ⟨h1,h2⟩:=h
 by_cases a:y%4=0
 ·by_cases b:y%100=0
  ·by_cases c:y%400=0
   ·have e:leapB y=true:=decide_eq_true ⟨a,Or.inr c⟩
    rw [e]
    have a:=beqT a;have b:=beqT b;have c:=beqT c;clear e
    go_enter Tryz.func268,Tryz.ntmps268
    go_wp2
    go_ret
    exact ⟨rfl,rfl⟩
   ·have e:leapB y=false:=decide_eq_false (fun h=>h.2.elim (fun h=>h b) c)
    rw [e]
    have a:=beqT a;have b:=beqT b;have c:=beqF c;clear e
    go_enter Tryz.func268,Tryz.ntmps268
    go_wp2
    go_ret
    exact ⟨rfl,rfl⟩
  ·have e:leapB y=true:=decide_eq_true ⟨a,Or.inl b⟩
   rw [e]
   have a:=beqT a;have b:=beqF b;clear e
   go_enter Tryz.func268,Tryz.ntmps268
   go_wp2
   go_ret
   exact ⟨rfl,rfl⟩
 ·have e:leapB y=false:=decide_eq_false (fun h=>a h.1)
  have c:=beqF (show ¬ y%400=0 by omega)
  rw [e]
  have a:=beqF a;clear e
  go_enter Tryz.func268,Tryz.ntmps268
  go_wp2
  go_ret
  exact ⟨rfl,rfl⟩
theorem rdaysof_c (y m:Int) (w:World) (h:1<=y/\y<=10000) (hm:1<=m/\m<=12):Calls Tryz.prog 244 #[.int .i64 y,.int .i64 m] w fun e w'=>w=w'/\e=.returned (.int .i64 (dim y m)):=by
 have HY:=Hd h
 have hm12:m=1∨m=2∨m=3∨m=4∨m=5∨m=6∨m=7∨m=8∨m=9∨m=10∨m=11∨m=12:=by omega
 clear h hm
 rcases hm12 with rfl | rfl | rfl | rfl | rfl | rfl | rfl | rfl | rfl | rfl | rfl | rfl
 case inr.inl=>
  cases hl:leapB y with
  | true=>
   rw [show dim y 2=29 by rw [dim_two,if_pos hl]]
   have HL:=Hd hl;clear hl
   go_enter Tryz.func244,Tryz.ntmps244
   go_wp2_with (go_at_call 268;refine (rlong_c _ _ HY.out).mono ?_;rw [HL.out];rintro e w1 ⟨rfl,rfl⟩)
   go_ret
   exact ⟨rfl,rfl⟩
  | false=>
   rw [show dim y 2=28 by rw [dim_two,if_neg (by rw [hl];simp)]]
   have HL:=Hd hl;clear hl
   go_enter Tryz.func244,Tryz.ntmps244
   go_wp2_with (go_at_call 268;refine (rlong_c _ _ HY.out).mono ?_;rw [HL.out];rintro e w1 ⟨rfl,rfl⟩)
   go_ret
   exact ⟨rfl,rfl⟩
 all_goals
  go_enter Tryz.func244,Tryz.ntmps244
  go_wp2
  go_ret
  exact ⟨rfl,rfl⟩
theorem rbefore_c (y:Int) (w:World) (h:1<=y/\y<=10000):Calls Tryz.prog 242 #[.int .i64 y] w fun e w'=>w=w'/\e=.returned (.int .i64 (bef y)):=by
 obtain ⟨h1,h2⟩:=h
 go_enter Tryz.func242,Tryz.ntmps242
 go_wp2
 go_ret
 exact ⟨rfl,rfl⟩
theorem rbefore_0 (w:World):Calls Tryz.prog 242 #[.int .i64 0] w fun e w'=>w=w'/\e=.returned (.int .i64 (-365)):=by
 go_enter Tryz.func242,Tryz.ntmps242
 go_wp2
 go_ret
 exact ⟨rfl,rfl⟩
theorem rdayof_c (y m d:Int) (w:World) (h1:1<=y/\y<=9999) (h2:1<=m/\m<=12) (h3:1<=d/\d<=31) :
  Calls Tryz.prog 245 #[.int .i64 y,.int .i64 m,.int .i64 d] w fun e w'=>w=w'/\e=.returned (.int .i64 (num y m d)):=by
 obtain ⟨K,hK,rfl⟩:∃ K:Nat,K<=11/\m=(K:Int)+1:=⟨(m-1).toNat,by omega,by omega⟩
 have HN:=Hd (num_cum (y:=y) (d:=d) (k:=K))
 have HB:=bef_bd (y:=y) (by omega) (by omega)
 go_enter Tryz.func245,Tryz.ntmps245
 go_wp2_with fail
 refine (rbefore_c _ _ (by omega)).mono ?_
 rintro e w2 ⟨rfl,rfl⟩
 go_wp2
 go_loop [7,8] (fun s i=>∃ k:Nat,k<=K/\i=.int .i64 ((k:Int)+1)/\s=.int .i64 (bef y+d+cum y k)) (fun _ i=>(K+1-(intOf i).toNat))
 case atStart=>exact ⟨0,Nat.zero_le _,by go_num,ival (by rw [cum];omega)⟩
 case round=>
  obtain ⟨k,hk,rfl,rfl⟩:=hrel
  have hcb:=Qbo y (k:=k) (by omega)
  rcases Nat.lt_or_ge k K with hlt | hge
  ·have hs:=Qbo y (k:=k+1) (by omega)
   have hS:=Hd (show cum y (k+1)=cum y k+dim y ((k:Int)+1) from rfl)
   have hdk:=dim_bd y ((k:Int)+1)
   have hlt':(k:Int)+1<(K:Int)+1:=by omega
   go_wp2_with fail
   refine (rdaysof_c _ _ _ (by omega) (by omega)).mono ?_
   rintro e w2 ⟨rfl,rfl⟩
   go_wp2
   go_round
   case rel=>exact ⟨k+1,by omega,ival (by omega),ival (by rw [hS.out];omega)⟩
   case measure=>simp [intOf];omega
  ·obtain rfl:k=K:=by omega
   have hlt':¬ (k:Int)+1<(k:Int)+1:=by omega
   go_wp2
   go_ret
   exact ⟨rfl,retI (by rw [HN.out];omega)⟩
theorem QaP (y m d:Int) (w:World) (hy : -9223372036854775808<=y/\y<=9223372036854775807) :
  Calls Tryz.prog 207 #[.int .i64 y,.int .i64 m,.int .i64 d] w (Qbk (dayR y m d) (if Qa7 y m d=true then 0 else 1) w):=by
 by_cases h1:1<=y/\y<=9999
 case neg=>
  have hb:Qa7 y m d=false:=QbK (fun h=>h1 h.1)
  rw [QaY hb,hb]
  have e:=Hd (decide_eq_false h1)
  clear hb h1
  go_enter Tryz.func207,Tryz.ntmps207
  go_wp2_with (go_at_call 176;refine (QaK _ _ _ _).mono ?_;rw [e.out];rintro e w1 ⟨rfl,rfl⟩)
  go_ret2
  exact ⟨rfl,Below.refl _ _⟩
 have E1:=Hd (decide_eq_true h1)
 by_cases h2:1<=m/\m<=12
 case neg=>
  have hb:Qa7 y m d=false:=QbK (fun h=>h2 h.2.1)
  rw [QaY hb,hb]
  have E2:=Hd (decide_eq_false h2)
  clear hb h2
  go_enter Tryz.func207,Tryz.ntmps207
  go_wp2_with fail
  refine (QaK _ _ _ _).mono ?_
  rw [E1.out]
  rintro e w1 ⟨rfl,rfl⟩
  go_wp2_with fail
  refine (QaK _ _ _ _).mono ?_
  rw [E2.out]
  rintro e w1 ⟨rfl,rfl⟩
  go_wp2
  go_ret2
  exact ⟨rfl,Below.refl _ _⟩
 have E2:=Hd (decide_eq_true h2)
 have hd31:=dim_bd y m
 by_cases h3:1<=d/\d<=dim y m
 case neg=>
  have hb:Qa7 y m d=false:=QbK (fun h=>h3 h.2.2)
  rw [QaY hb,hb]
  have E3:=Hd (decide_eq_false h3)
  clear hb h3
  go_enter Tryz.func207,Tryz.ntmps207
  go_wp2_with fail
  refine (QaK _ _ _ _).mono ?_
  rw [E1.out]
  rintro e w1 ⟨rfl,rfl⟩
  go_wp2_with fail
  refine (QaK _ _ _ _).mono ?_
  rw [E2.out]
  rintro e w1 ⟨rfl,rfl⟩
  go_wp2_with fail
  refine (rdaysof_c _ _ _ (by omega) h2).mono ?_
  rintro e w1 ⟨rfl,rfl⟩
  go_wp2_with fail
  refine (QaK _ _ _ _).mono ?_
  rw [E3.out]
  rintro e w1 ⟨rfl,rfl⟩
  go_wp2
  go_ret2
  exact ⟨rfl,Below.refl _ _⟩
 have E3:=Hd (decide_eq_true h3)
 have hb:Qa7 y m d=true:=dateB_mk ⟨h1,h2,h3⟩
 rw [dayR_yes hb,hb]
 clear hb
 go_enter Tryz.func207,Tryz.ntmps207
 go_wp2_with fail
 refine (QaK _ _ _ _).mono ?_
 rw [E1.out]
 rintro e w1 ⟨rfl,rfl⟩
 go_wp2_with fail
 refine (QaK _ _ _ _).mono ?_
 rw [E2.out]
 rintro e w1 ⟨rfl,rfl⟩
 go_wp2_with fail
 refine (rdaysof_c _ _ _ (by omega) h2).mono ?_
 rintro e w1 ⟨rfl,rfl⟩
 go_wp2_with fail
 refine (QaK _ _ _ _).mono ?_
 rw [E3.out]
 rintro e w1 ⟨rfl,rfl⟩
 go_wp2_with fail
 refine (rdayof_c _ _ _ _ h1 h2 (by omega)).mono ?_
 rintro e w1 ⟨rfl,rfl⟩
 go_wp2
 go_ret2
 exact ⟨rfl,Below.refl _ _⟩
theorem rdateof_c (day y m d:Int) (w:World) (h1:1<=day) (h2:day<=3652059) (h:DateIs day y m d) :
  Calls Tryz.prog 246 #[.int .i64 day] w fun e w'=>w=w'/\e=.returned (.tuple #[.int .i64 y,.int .i64 m,.int .i64 d]):=by
 have HD:=Hd h
 obtain ⟨⟨y1,y2⟩,⟨m1,m2⟩,⟨d1,d2⟩,d3,b1,b2⟩:=h.facts
 have hn:=h.2
 have hg:=h.year_le (bef_guess h1)
 obtain ⟨K,hK,rfl⟩:∃ K:Nat,K<=11/\m=(K:Int)+1:=⟨(m-1).toNat,by omega,by omega⟩
 rw [num_cum] at hn
 have HN:=Hd hn
 have HB:=bef_bd (y:=y) (by omega) (by omega)
 have hK12:=Qbo y (k:=K) (by omega)
 clear h hn
 go_enter Tryz.func246,Tryz.ntmps246
 go_wp2
 go_loop [2] (fun s=>∃ v:Int,1<=v/\v<=y/\s=.int .i64 v) (fun s=>(y-intOf s).toNat)
 case atStart=>exact ⟨day/366+1,by omega,hg,rfl⟩
 case round=>
  obtain ⟨v,v1,v2,rfl⟩:=hrel
  rcases Int.lt_or_le v y with hlt | hge
  ·have hm:=bef_mono (a:=v+1) (b:=y) (by omega)
   have hb3:bef (v+1)<day:=by omega
   clear hm
   go_wp2_with fail
   refine (rbefore_c _ _ (by omega)).mono ?_
   rintro e w2 ⟨rfl,rfl⟩
   go_wp2
   go_round
   case rel=>exact ⟨v+1,by omega,by omega,rfl⟩
   case measure=>simp [intOf];omega
  ·obtain rfl:v=y:=by omega
   have hb3:¬ bef (v+1)<day:=by omega
   have hc:=Qbo v (k:=0) (by omega)
   go_wp2_with fail
   refine (rbefore_c _ _ (by omega)).mono ?_
   rintro e w2 ⟨rfl,rfl⟩
   go_wp2_with fail
   refine (rbefore_c _ _ (by omega)).mono ?_
   rintro e w2 ⟨rfl,rfl⟩
   go_wp2
   go_loop [3,4] (fun i s=>∃ k:Nat,k<=K/\i=.int .i64 ((k:Int)+1)/\s=.int .i64 (d+cum v K-cum v k)) (fun i _=>(K+1-(intOf i).toNat))
   case atStart=>exact ⟨0,Nat.zero_le _,by go_num,ival (by have:=HN.out;have:cum v 0=0:=rfl;omega)⟩
   case round=>
    obtain ⟨k,hk,rfl,rfl⟩:=hrel
    have hcb:=Qbo v (k:=k) (by omega)
    have hdk:=dim_bd v ((k:Int)+1)
    rcases Nat.lt_or_ge k K with hlt | hge
    ·have hs:=cum_le v (i:=k+1) (j:=K) (by omega)
     rw [cum] at hs
     have hS:=Hd (show cum v (k+1)=cum v k+dim v ((k:Int)+1) from rfl)
     have ht:dim v ((k:Int)+1)<d+cum v K-cum v k:=by omega
     have ht2:dim v ((k:Int)+1)+cum v k<d+cum v K:=by omega
     go_wp2_with fail
     refine (rdaysof_c _ _ _ (by omega) (by omega)).mono ?_
     rintro e w2 ⟨rfl,rfl⟩
     go_wp2_with fail
     refine (rdaysof_c _ _ _ (by omega) (by omega)).mono ?_
     rintro e w3 ⟨rfl,rfl⟩
     go_wp2
     go_round
     case rel=>exact ⟨k+1,by omega,ival (by omega),ival (by rw [hS.out];omega)⟩
     case measure=>simp [intOf];omega
    ·obtain rfl:k=K:=by omega
     have ht:¬ dim v ((k:Int)+1)<d+cum v k-cum v k:=by omega
     go_wp2_with fail
     refine (rdaysof_c _ _ _ (by omega) (by omega)).mono ?_
     rintro e w2 ⟨rfl,rfl⟩
     go_wp2
     refine bodyPost_ret (v:=.tuple #[.int .i64 v,.int .i64 ((k:Int)+1),.int .i64 d]) (by simp [results,Tryz.results246,go_sem];try omega) rfl ⟨rfl,rfl⟩
theorem rweekof_c (day y m d:Int) (w:World) (h1:1<=day) (h2:day<=3652059) (h:DateIs (thu day) y m d) :
  Calls Tryz.prog 243 #[.int .i64 day] w fun e w'=>w=w'/\e=.returned (.tuple #[.int .i64 y,.int .i64 (wk day y),.int .i64 ((day-1)%7+1)]):=by
 have ht:=thu_bd h1 h2
 obtain ⟨⟨y1,y2⟩,-,-,-,b1,b2⟩:=h.facts
 have HD:=Hd h;clear h
 have hw:=wk_bd b1 b2
 have HB:=bef_bd (y:=y) (by omega) (by omega)
 have hm:0<=(day-1)%7/\(day-1)%7<=6:=by omega
 have E0:=Hd (show day-((day-1)%7+1)+4=thu day by unfold thu;omega)
 have E7:=Hd (show (thu day-bef y-1)/7+1=wk day y from rfl)
 go_enter Tryz.func243,Tryz.ntmps243
 go_wp2_with fail
 rw [E0.out]
 refine (rdateof_c (thu day) y m d _ ht.1 ht.2 HD.out).mono ?_
 rintro e w1 ⟨rfl,rfl⟩
 go_wp2_with fail
 refine (rbefore_c _ _ (by omega)).mono ?_
 rintro e w2 ⟨rfl,rfl⟩
 go_wp2
 refine bodyPost_ret (v:=.tuple #[.int .i64 y,.int .i64 (wk day y),.int .i64 ((day-1)%7+1)]) (by simp [results,Tryz.results243,go_sem];try (rw [E7.out])) rfl ⟨rfl,rfl⟩
end Go.Proofs.YtaiabjiehpcaoaaGreatDoor
namespace Go.Proofs.YtaiabjiehpcaoaaGreatDoor
open Go.RowKit Limb Nmb
set_option linter.unusedVariables false
set_option linter.unusedSimpArgs false
theorem inL_all {l:List UInt8} {a b:Int} : inL l a b=l.all (fun c=>decide (a<=(c.toNat:Int)/\(c.toNat:Int)<=b)):=by
 rw [Bool.eq_iff_iff,List.all_eq_true]
 constructor
 ·intro h c hc
  obtain ⟨i,hi,rfl⟩:=List.getElem_of_mem hc
  have:=inL_yes h hi
  rw [byA_get hi] at this
  exact decide_eq_true this
 ·intro h
  refine inL_mk (fun i hi=>?_)
  have:=of_decide_eq_true (h l[i] (List.getElem_mem hi))
  rw [byA_get hi]
  exact this
theorem all_at {s:ByteArray} {p:UInt8->Bool} (h:∀ i,(hi:i<s.size)->p s[i]=true):s.data.toList.all p=true:=by
 rw [List.all_eq_true]
 intro c hc
 obtain ⟨i,hi,rfl⟩:=List.getElem_of_mem hc
 exact h i (by simpa using hi)
theorem all_not {s:ByteArray} {p:UInt8->Bool} {i:Nat} (hi:i<s.size) (h:p s[i]=false):s.data.toList.all p=false:=by
 rw [Bool.eq_false_iff]
 intro h2
 have:=List.all_eq_true.1 h2 s[i] (by have:=List.getElem_mem (l:=s.data.toList) (n:=i) (by simpa using hi);exact this)
 rw [h] at this;cases this
def diC (c:UInt8):Bool:=decide ((48:Int)<=(c.toNat:Int)/\(c.toNat:Int)<=57)
def diS (s:ByteArray) (j:Nat):Prop:=∀ i,i<j->(hi:i<s.size)->diC s[i]=true
theorem next_all {s:ByteArray} {p:UInt8->Bool} {j:Nat} (h:∀ i,i<j->(hi:i<s.size)->p s[i]=true) (hj:j<s.size) (hp:p s[j]=true):∀ i,i<j+1->(hi:i<s.size)->p s[i]=true:=by
 intro i hi h2
 rcases Nat.lt_or_ge i j with h3 | h3
 ·exact h i h3 h2
 ·obtain rfl:i=j:=by omega
  exact hp
theorem rdigs_c (s:ByteArray) (w:World) (hs:s.size<=9223372036854775807) :
  Calls Tryz.prog 139 #[.string s] w fun e w'=>w=w'/\e=.returned (.bool (digs s.data.toList)):=by
 have hlen:=szL s
 have hem:s.toList.isEmpty=s.data.toList.isEmpty:=by rw [Lib.toList_data]
 have e0:digs s.data.toList=(inL s.data.toList 48 57&&!s.data.toList.isEmpty):=rfl
 rw [e0,<- hem]
 cases he:s.toList.isEmpty with
 | true=>
  rw [Bool.not_true,Bool.and_false]
  clear hlen hem e0
  go_enter Tryz.func139,Tryz.ntmps139
  go_wp2
  go_ret
  exact ⟨rfl,rfl⟩
 | false=>
 rw [Bool.not_false,Bool.and_true]
 obtain ⟨X,hX⟩:=ex_ (inL s.data.toList 48 57)
 have HX:=Hd (hX.symm.trans inL_all)
 rw [hX]
 clear hlen hem e0 hX
 go_enter Tryz.func139,Tryz.ntmps139
 go_wp2
 go_loop [8] (fun i=>∃ j:Nat,j<=s.size/\i=.int .i64 j/\diS s j) (fun i=>s.size-(intOf i).toNat)
 case atStart=>exact ⟨0,Nat.zero_le _,rfl,fun i hi=>by omega⟩
 case round=>
  obtain ⟨j,hj,rfl,hall⟩:=hrel
  rcases Nat.lt_or_ge j s.size with hjn | hjn
  ·by_cases h1:(s[j].toNat:Int)<48
   ·have hr:=all_not (p:=diC) hjn (decide_eq_false (by omega))
    unfold diC at hr
    have hr:=Hd (HX.out.trans hr)
    clear hall
    go_wp2
    go_ret
    exact ⟨rfl,retB hr.out.symm⟩
   by_cases h2:(57:Int)<(s[j].toNat:Int)
   ·have hr:=all_not (p:=diC) hjn (decide_eq_false (by omega))
    unfold diC at hr
    have hr:=Hd (HX.out.trans hr)
    clear hall
    go_wp2
    go_ret
    exact ⟨rfl,retB hr.out.symm⟩
   ·have hn:=Hd (next_all hall hjn (decide_eq_true (by omega)))
    clear hall
    go_wp2
    go_round
    case rel=>exact ⟨j+1,by omega,by go_num,hn.out⟩
    case measure=>simp [intOf];omega
  ·have hr:=all_at (s:=s) (p:=diC) (fun i hi=>hall i (by omega) hi)
   unfold diC at hr
   have hr:=Hd (HX.out.trans hr)
   clear hall
   go_wp2
   go_ret
   exact ⟨rfl,retB hr.out.symm⟩
end Go.Proofs.YtaiabjiehpcaoaaGreatDoor
