
/- The walk of Turned. (Printed by genZA.py.) -/
import Derived.Test.YtbfbgappinilmaaGreatDoorY1
namespace Go.Proofs.YtbfbgappinilmaaGreatDoor
open Go.RowKit Limb Nmb Work
set_option linter.unusedVariables false
set_option linter.unusedSimpArgs false
def rwL (r:RowP) (A:Option Addr) (c:Nat):List Value:=[.string r.tag,.slice A r.vals.length c]
theorem rA_snoc {l:List RowP} {r:RowP} {j:Nat} : rA (l++[r]) j=if j=l.length then r else rA l j:=by
 unfold rA
 rw [List.getD_eq_getElem?_getD,List.getD_eq_getElem?_getD]
 rcases Nat.lt_trichotomy j l.length with h | h | h
 ·rw [if_neg (by omega),List.getElem?_append_left h]
 ·subst h;simp
 ·rw [if_neg (by omega),List.getElem?_append_right (by omega),List.getElem?_eq_none (by simp;omega),List.getElem?_eq_none (by omega)]
theorem rwL_rows {l:List RowP} {r:RowP} {RA:Nat->Option Addr} {RC:Nat->Nat} {A:Option Addr} {c:Nat} : rowsC 2 l.length (rowV l RA RC)++rwL r A c=rowsC 2 (l.length+1) (rowV (l++[r]) (kndA RA l.length A) (kndN RC l.length c)):=by
 rw [rowsC_succ]
 congr 1
 ·refine rowsC_congr fun j hj i hi=>?_
  unfold rowV kndA kndN
  rw [rA_snoc,if_neg (by omega),if_neg (by omega),if_neg (by omega)]
 ·simp only [rowV,kndA,kndN,rA_snoc,if_pos,List.range_succ,List.range_zero,List.nil_append,List.map_cons,List.map_nil,List.cons_append]
  rfl
structure RowS (w:World) (r:RowP) (A:Option Addr) (c:Nat):Prop where
 vals:Sts w A r.vals
 len:r.vals.length<=c/\c<=9223372036854775807
 size:∀ s∈r.vals,s.size<=9223372036854775807
 tag:r.tag.size<=9223372036854775807
theorem RowS.rowM {w:World} {r:RowP} {A:Option Addr} {c:Nat} (h:RowS w r A c):RowM w r A c:=⟨h.vals.svs,h.len,h.size,h.tag⟩
def RwsO (w1 wr:World) (X:Option Addr) (n c:Nat) (l:List RowP):Prop :=
 ∃ (RA:Nat->Option Addr) (RC:Nat->Nat),l.length=n/\wr.ownsRow w1.heap.size 39 2 (.slice X n c) n (rowsC 2 n (rowV l RA RC))/\(∀ j,j<l.length->RowS wr (rA l j) (RA j) (RC j))/\Below w1.heap.size w1 wr
theorem RwsO.nil (w1:World) {wr:World} (hb:Below w1.heap.size w1 wr):RwsO w1 wr none 0 0 []:=⟨fun _=>none,fun _=>0,rfl,World.ownsRow_nil _ _ _ _,fun j hj=>absurd hj (Nat.not_lt_zero _),hb⟩
theorem RwsO.bel {w1 wr:World} {X:Option Addr} {n c:Nat} {l:List RowP} (h:RwsO w1 wr X n c l):Below w1.heap.size w1 wr:=by obtain ⟨_,_,_,_,_,hb⟩:=h;exact hb
theorem RwsO.len {w1 wr:World} {X:Option Addr} {n c:Nat} {l:List RowP} (h:RwsO w1 wr X n c l):l.length=n:=by obtain ⟨_,_,h,_⟩:=h;exact h
theorem RwsO.below {w1 wr w':World} {X:Option Addr} {n c:Nat} {l:List RowP} (h:RwsO w1 wr X n c l) (hb:Below wr.heap.size wr w'):RwsO w1 w' X n c l:=by
 obtain ⟨RA,RC,h1,h2,h3,h4⟩:=h
 exact ⟨RA,RC,h1,own_below h2 hb,fun j hj=>⟨(h3 j hj).vals.below hb,(h3 j hj).len,(h3 j hj).size,(h3 j hj).tag⟩,below_then hb h4 h4.size⟩
theorem RwsO.rowsM {w1 wr:World} {X:Option Addr} {n c:Nat} {l:List RowP} (h:RwsO w1 wr X n c l):∃ RA RC,RowsM wr X l RA RC:=by
 obtain ⟨RA,RC,h1,h2,h3,-⟩:=h
 have hc:=own_cap h2
 subst h1
 exact ⟨RA,RC,own_rwsK h2,fun j hj=>(h3 j hj).rowM,by have:=hc.1;have:=hc.2;unfold maxLen at *;omega⟩
theorem RwsO.push {w1 wr w':World} {X X' A:Option Addr} {n c c' d:Nat} {l:List RowP} {r:RowP} {RA:Nat->Option Addr} {RC:Nat->Nat} (h1:l.length=n) (h2:wr.ownsRow w1.heap.size 39 2 (.slice X n c) n (rowsC 2 n (rowV l RA RC))) (h3:∀ j,j<l.length->RowS wr (rA l j) (RA j) (RC j)) (h4:Below w1.heap.size w1 wr) (hr:RowS wr r A d)
  (ho:w'.ownsRow w1.heap.size 39 2 (.slice X' (n+1) c') (n+1) (rowsC 2 n (rowV l RA RC)++rwL r A d)) (hg:wr.grownBy w' (Value.slice X n c).ownBlock):RwsO w1 w' X' (n+1) c' (l++[r]):=by
 subst h1
 have hk:∀ {q:RowP} {Q:Option Addr} {e:Nat},RowS wr q Q e->RowS w' q Q e:=fun hq=>⟨hq.vals.keep fun g cs f hh=>grown_type h2 hg hh (by decide),hq.len,hq.size,hq.tag⟩
 refine ⟨kndA RA l.length A,kndN RC l.length d,by simp,by rw [<- rwL_rows];exact ho,fun j hj=>?_,h4.grown hg h4.size (fun j hj=>(h2.lt j hj).1)⟩
 rw [rA_snoc]
 unfold kndA kndN
 by_cases hj2:j=l.length
 ·rw [if_pos hj2,if_pos hj2,if_pos hj2]
  exact hk hr
 ·rw [if_neg hj2,if_neg hj2,if_neg hj2]
  have hjl:j<l.length:=by simp at hj;omega
  exact hk (h3 j hjl)
theorem own_rowS {w:World} {B:Nat} {A:Option Addr} {c:Nat} {r:RowP} (h:w.ownsRow B 9 1 (.slice A r.vals.length c) r.vals.length (ystrV r.vals)) (hs:∀ s∈r.vals,s.size<=9223372036854775807) (ht:r.tag.size<=9223372036854775807):RowS w r A c:=by
 have hc:=own_cap h
 refine ⟨fun hn=>?_,⟨hc.1,by have:=hc.2;unfold maxLen at this;omega⟩,hs,ht⟩
 obtain ⟨g,e,h2,-,-⟩:=yown_sts h hn
 subst e
 exact h2 hn
def RetTdC (r:List RowP×Nat×Int) (w:World) (e:Ending) (w':World):Prop:=∃ X c,e=.returned (.tuple #[.slice X r.1.length c,.int .i64 (r.2.1:Nat),.int .i64 r.2.2])/\(∃ RA RC,RowsM w' X r.1 RA RC)/\(r.1.length<=c/\c<=9223372036854775807)/\Below w.heap.size w w'
theorem RetTdC.no {x:Int} {w w':World} (hb:Below w.heap.size w w'):RetTdC ([],0,x) w (.returned (.tuple #[.slice none 0 0,.int .i64 0,.int .i64 x])) w' :=
 ⟨none,0,rfl,⟨fun _=>none,fun _=>0,fun h=>absurd h (Nat.not_lt_zero _),fun j hj=>absurd hj (Nat.not_lt_zero _),Nat.zero_le _⟩,⟨Nat.le_refl _,by omega⟩,hb⟩
theorem Tryz.infoRow:(Tryz.prog.info? 39).map (fun i=>(i.zero,i.size,i.bytes))=some (some (.agg #[.string ⟨#[]⟩,.slice none 0 0]),2,40):=by kernel_rfl
theorem turnC_le {f g:Fmt} (hf:FmtK f) (r:RowP):turnC f g r<=50:=by
 unfold turnC
 split
 ·omega
 ·refine Nat.le_trans (lostN_le _ _ _ _) ?_
  rcases kat_cases f (fun _=>none) (fun _=>0) r.tag with ⟨-,e,-⟩|⟨k,hk,-,e,-⟩
  ·rw [e];decide
  ·rw [e];exact (hf.kinds k hk).many
theorem turnLs_le {f g:Fmt} (hf:FmtK f) (rs:List RowP):∀ j,turnLs f g rs j<=50*j
 | 0=>Nat.le_refl _
 | j+1=>by
  have h1:=turnLs_le (g:=g) hf rs j
  have h2:=turnC_le (g:=g) hf (rA rs j)
  unfold turnLs
  omega
set_option maxHeartbeats 8000000 in
set_option maxRecDepth 100000 in
theorem TurnedC_c (f g:Fmt) (A B:Option Addr) (cp cq:Nat) (FA GA:Nat->Option Addr) (FC GC:Nat->Nat) (L:Option Addr) (LC:Nat) (rs:List RowP) (RA:Nat->Option Addr) (RC:Nat->Nat) (w:World) (ho:Kinds w A f.kinds FA FC) (hg:Kinds w B g.kinds GA GC) (hl:RowsM w L rs RA RC) (hc:f.kinds.length<=cp) (hd:g.kinds.length<=cq) (hm:0<=f.mark/\f.mark<=255) (hq:0<=f.quote/\f.quote<=255) (hm2:0<=g.mark/\g.mark<=255) (hq2:0<=g.quote/\g.quote<=255) (ht:Tab w) :
  Calls Tryz.prog 12 #[fmtG f A cp,fmtG g B cq,.slice L rs.length LC] w (RetTdC (turnR f g rs) w):=by
 obtain ⟨i0,hi,hz0,hz1,hz2⟩:=info_parts Tryz.infoRow
 have HC1:=Lib.hid (fun w h=>check_c f A cp FA FC w h hc hm hq)
 have HC2:=Lib.hid (fun w h=>check_c g B cq GA GC w h hd hm2 hq2)
 have HRF:=Lib.hid (fun w h h2 ht=>rowsfault_c f A cp FA FC L LC rs RA RC w h h2 hc hm hq ht)
 have HTY:=Lib.hid (fun h0 w h h2=>typefault_c f g A B cp cq FA GA FC GC w h h2 h0)
 have HCR:=Lib.hid (fun h0 X c l RA RC w h h2 ht=>chkrows_c g B cq GA GC X c l RA RC w h h2 hd h0 hm2 ht)
 have HKF:=Lib.hid ho;have HKG:=Lib.hid hg;have HLM:=Lib.hid hl;have HTB:=Lib.hid ht
 have HKA1:=Lib.hid (fun t w h=>kindat_c f A cp FA FC t w h)
 have HKA2:=Lib.hid (fun t w h=>kindat_c g B cq GA GC t w h)
 have HFK:=Lib.hid (fun h=>checkF_ok (f:=f) h);have HGK:=Lib.hid (fun h=>checkF_ok (f:=g) h)
 have HAK:=Lib.hid (fun h=>askF_ok (f:=f) (rs:=rs) h)
 have HTL:=Lib.hid (fun h j=>turnLs_le (f:=f) (g:=g) h rs j)
 have HTS:=Lib.hid (show ∀ j,turnLs f g rs (j+1)=turnLs f g rs j+turnC f g (rA rs j) from fun _=>rfl)
 obtain ⟨F1,hF1⟩:∃ x,checkF f=x:=⟨_,rfl⟩
 obtain ⟨F2,hF2⟩:∃ x,checkF g=x:=⟨_,rfl⟩
 obtain ⟨AK,hAK⟩:∃ x,askF f rs=x:=⟨_,rfl⟩
 obtain ⟨TB,hTB⟩:∃ x,typeB f g=x:=⟨_,rfl⟩
 obtain ⟨R,hR⟩:∃ x,turnR f g rs=x:=⟨_,rfl⟩
 have HR:=Lib.hid (show (if F1≠0 then ([],0,F1) else if F2≠0 then ([],0,F2) else if AK≠0 then ([],0,AK) else if TB=true then ([],0,6) else if (rowsF g (turnRs f g rs)).2≠0 then ([],0,(rowsF g (turnRs f g rs)).2) else (turnRs f g rs,turnLs f g rs rs.length,0))=R by
  rw [<- hR,<- hF1,<- hF2,<- hAK,<- hTB]
  unfold turnR turnE
  by_cases h1:checkF f=0
  ·rw [if_neg (c:=checkF f≠0) (fun h=>h h1),if_neg (c:=checkF f≠0) (fun h=>h h1)]
   by_cases h2:checkF g=0
   ·rw [if_neg (c:=checkF g≠0) (fun h=>h h2),if_neg (c:=checkF g≠0) (fun h=>h h2)]
    by_cases h3:askF f rs=0
    ·rw [if_neg (c:=askF f rs≠0) (fun h=>h h3),if_neg (c:=askF f rs≠0) (fun h=>h h3)]
     cases typeB f g with
     | true=>rw [if_pos rfl,if_pos rfl];rfl
     | false=>simp only [Bool.false_eq_true,if_false]
    ·rw [if_pos (c:=askF f rs≠0) h3,if_pos (c:=askF f rs≠0) h3,if_pos h3]
   ·rw [if_pos (c:=checkF g≠0) h2,if_pos (c:=checkF g≠0) h2,if_pos h2]
  ·rw [if_pos (c:=checkF f≠0) h1,if_pos (c:=checkF f≠0) h1,if_pos h1])
 rw [hF1] at HC1 HFK HTY
 rw [hF2] at HC2 HGK HCR
 rw [hAK] at HRF HAK
 rw [hTB] at HTY
 rw [hR]
 clear hF1 hF2 hR hAK hTB ho hg hl ht
 obtain ⟨TL,hTLe⟩:∃ x,turnLs f g rs=x:=⟨_,rfl⟩
 obtain ⟨TO,hTO⟩:∃ x,turnO f g=x:=⟨_,rfl⟩
 have HTR:=Lib.hid (show turnRs f g rs=rs.flatMap TO by rw [<- hTO];rfl)
 obtain ⟨TR,hTR⟩:∃ x,turnRs f g rs=x:=⟨_,rfl⟩
 have HTO:=Lib.hid (show ∀ r,TO r=if katI g r.tag<0 then [] else [⟨r.tag,turnV (katK f r.tag) (katK g r.tag) r.vals⟩] from fun r=>by rw [<- hTO];rfl)
 have HTC:=Lib.hid (show ∀ r,turnC f g r=if katI g r.tag<0 then 1 else lostN (katK f r.tag) (katK g r.tag) r.vals (katK f r.tag).fields.length from fun r=>rfl)
 obtain ⟨TC,hTC⟩:∃ x,turnC f g=x:=⟨_,rfl⟩
 rw [hTC] at HTC HTS
 rw [hTLe] at HTL HTS HR
 rw [hTR] at HR HTR
 clear hTLe hTO hTR hTC
 unfold RetI at HC1 HC2 HRF
 unfold RetB at HTY
 unfold RetNF at HCR
 obtain ⟨fm,fq,fks,fd,ft,fc,fs0⟩:=f
 obtain ⟨gm,gq,gks,gd,gt,gc,gs⟩:=g
 unfold fmtG at HC1 HC2 HKA1 HKA2 HRF HTY HCR ⊢
 simp only at HC1 HC2 HKA1 HKA2 HRF HTY HCR HKF HKG hc hd ⊢
 have hnk':fks.length<=9223372036854775807:=HKF.out.1.2
 have hng':gks.length<=9223372036854775807:=HKG.out.1.2
 obtain ⟨nk,hnk⟩:∃ x,fks.length=x:=⟨_,rfl⟩
 obtain ⟨ng,hng⟩:∃ x,gks.length=x:=⟨_,rfl⟩
 obtain ⟨nr,hnr⟩:∃ x,rs.length=x:=⟨_,rfl⟩
 have HNK:=Lib.hid hnk;have HNG:=Lib.hid hng;have HNR:=Lib.hid hnr
 rw [hnk] at HC1 HKA1 HRF HTY hc hnk' ⊢
 rw [hng] at HC2 HKA2 HTY HCR hd hng' ⊢
 rw [hnr] at HRF HAK HR ⊢
 have hnrm:nr<=9223372036854775807:=by rw [<- hnr];exact HLM.out.len
 clear hnk hng hnr
 have hP1:=heap_old (heap_old (heap_new w (.cells #[.int .u8 fm,.int .u8 fq,.slice A nk cp,.string fd,.string ft,.string fc,.string fs0] 44) rfl) (.cells #[.int .u8 gm,.int .u8 gq,.slice B ng cq,.string gd,.string gt,.string gc,.string gs] 44)) (.cells #[.int .u8 fm,.int .u8 fq,.slice A nk cp,.string fd,.string ft,.string fc,.string fs0,.int .u8 gm,.int .u8 gq,.slice B ng cq,.string gd,.string gt,.string gc,.string gs] 44)
 have hP2:=heap_old (heap_new (w.alloc (.cells #[.int .u8 fm,.int .u8 fq,.slice A nk cp,.string fd,.string ft,.string fc,.string fs0] 44)) (.cells #[.int .u8 gm,.int .u8 gq,.slice B ng cq,.string gd,.string gt,.string gc,.string gs] 44) (g:=w.heap.size+1) (by simp)) (.cells #[.int .u8 fm,.int .u8 fq,.slice A nk cp,.string fd,.string ft,.string fc,.string fs0,.int .u8 gm,.int .u8 gq,.slice B ng cq,.string gd,.string gt,.string gc,.string gs] 44)
 have hL1:=heap_new ((w.alloc (.cells #[.int .u8 fm,.int .u8 fq,.slice A nk cp,.string fd,.string ft,.string fc,.string fs0] 44)).alloc (.cells #[.int .u8 gm,.int .u8 gq,.slice B ng cq,.string gd,.string gt,.string gc,.string gs] 44)) (.cells #[.int .u8 fm,.int .u8 fq,.slice A nk cp,.string fd,.string ft,.string fc,.string fs0,.int .u8 gm,.int .u8 gq,.slice B ng cq,.string gd,.string gt,.string gc,.string gs] 44) (g:=w.heap.size+1+1) (by simp)
 have hB1:Below w.heap.size w (((w.alloc (.cells #[.int .u8 fm,.int .u8 fq,.slice A nk cp,.string fd,.string ft,.string fc,.string fs0] 44)).alloc (.cells #[.int .u8 gm,.int .u8 gq,.slice B ng cq,.string gd,.string gt,.string gc,.string gs] 44)).alloc (.cells #[.int .u8 fm,.int .u8 fq,.slice A nk cp,.string fd,.string ft,.string fc,.string fs0,.int .u8 gm,.int .u8 gq,.slice B ng cq,.string gd,.string gt,.string gc,.string gs] 44)):=by go_grown
 go_enter Tryz.func12,Tryz.ntmps12
 have b1:=heap_old (heap_new w (.cells #[.int .u8 fm,.int .u8 fq,.slice A nk cp,.string fd,.string ft,.string fc,.string fs0] 44) rfl) (.cells #[.int .u8 gm,.int .u8 gq,.slice B ng cq,.string gd,.string gt,.string gc,.string gs] 44)
 have b2:=heap_new (w.alloc (.cells #[.int .u8 fm,.int .u8 fq,.slice A nk cp,.string fd,.string ft,.string fc,.string fs0] 44)) (.cells #[.int .u8 gm,.int .u8 gq,.slice B ng cq,.string gd,.string gt,.string gc,.string gs] 44) (g:=w.heap.size+1) (by simp)
 obtain ⟨⟨p0,p1,p2,p3,p4,p5,p6⟩,-⟩:=obox7 b1;obtain ⟨⟨q0,q1,q2,q3,q4,q5,q6⟩,-⟩:=obox7 b2
 go_wp2_with fail
 generalize ((w.alloc (.cells #[.int .u8 fm,.int .u8 fq,.slice A nk cp,.string fd,.string ft,.string fc,.string fs0] 44)).alloc (.cells #[.int .u8 gm,.int .u8 gq,.slice B ng cq,.string gd,.string gt,.string gc,.string gs] 44)).alloc (.cells #[.int .u8 fm,.int .u8 fq,.slice A nk cp,.string fd,.string ft,.string fc,.string fs0,.int .u8 gm,.int .u8 gq,.slice B ng cq,.string gd,.string gt,.string gc,.string gs] 44)=w1 at hP1 hP2 hL1 hB1 ⊢
 have HP1:=Lib.hid hP1;have HP2:=Lib.hid hP2;have HL1:=Lib.hid hL1;have HB1:=Lib.hid hB1
 clear hP1 hP2 hL1 hB1 b1 b2 p0 p1 p2 p3 p4 p5 p6 q0 q1 q2 q3 q4 q5 q6
 go_loopw [29] (fun i wr=>∃ j:Nat,j<=2/\i=.int .i64 j/\(1<=j->F1=0)/\(2<=j->F2=0)/\Hid (Below w1.heap.size w1 wr)) (fun i _=>2-(intOf i).toNat)
 case atStart=>exact ⟨0,by omega,rfl,fun h=>absurd h (by decide),fun h=>absurd h (by decide),Lib.hid (Below.refl _ _)⟩
 case round=>
  obtain ⟨j,hj,rfl,hi1,hi2,HB⟩:=hrel
  have hj3:j=0∨j=1∨j=2:=by omega
  rcases hj3 with rfl | rfl | rfl
  ·clear hi1 hi2
   have cc:=fun (k:Nat) (v:Value) (hk:(#[.int .u8 fm,.int .u8 fq,.slice A nk cp,.string fd,.string ft,.string fc,.string fs0,.int .u8 gm,.int .u8 gq,.slice B ng cq,.string gd,.string gt,.string gc,.string gs]:Array Value)[k]?=some v)=>(cell_of_row _ _ k _ _ _ (heap_below HL1.out HB.out)).trans hk
   have c0:=cc 0 _ rfl
   have c1:=cc 1 _ rfl
   have c2:=cc 2 _ rfl
   have c3:=cc 3 _ rfl
   have c4:=cc 4 _ rfl
   have c5:=cc 5 _ rfl
   have c6:=cc 6 _ rfl
   have hN:=heap_new wr (.cells #[.int .u8 fm,.int .u8 fq,.slice A nk cp,.string fd,.string ft,.string fc,.string fs0] 44) rfl
   have hb1:Below wr.heap.size wr (wr.alloc (.cells #[.int .u8 fm,.int .u8 fq,.slice A nk cp,.string fd,.string ft,.string fc,.string fs0] 44)):=by go_grown
   have HB2:=Lib.hid (below_then hb1 HB.out HB.out.size)
   clear cc
   go_upto_region 4 with fail
   obtain ⟨bn,hbn⟩:∃ x,wr.heap.size=x:=⟨_,rfl⟩
   rw [hbn] at hN
   try rw [hbn]
   generalize wr.alloc (.cells #[.int .u8 fm,.int .u8 fq,.slice A nk cp,.string fd,.string ft,.string fc,.string fs0] 44)=w4 at hN HB2 ⊢
   clear hbn c0 c1 c2 c3 c4 c5 c6 hb1
   obtain ⟨⟨p0,p1,p2,p3,p4,p5,p6⟩,-⟩:=obox7 hN
   go_wp2_with fail
   refine (HC1.out _ (HKF.out.below (below_then HB2.out HB1.out HB1.out.size))).mono ?_
   rintro _ w5 ⟨rfl,hb5⟩
   have HB5:=Lib.hid (below_then hb5 HB2.out HB2.out.size)
   clear p0 p1 p2 p3 p4 p5 p6 hN hb5
   by_cases he:F1=0
   ·subst he
    go_wp2
    go_roundw
    case rel=>first | exact ⟨1,by omega,rfl,fun _=>rfl,fun h=>absurd h (by decide),HB5⟩ | exact ⟨1,by omega,rfl,fun _=>trivial,fun h=>absurd h (by decide),HB5⟩
    case measure=>simp [intOf]
   ·have HE:=Lib.hid (show R=([],0,F1) from HR.out.symm.trans (if_pos he))
    have he2:(F1 !=0)=true:=by simpa using he
    have he3:¬ F1=0:=he
    clear he
    go_wp2
    go_ret3
    rw [HE.out]
    exact RetTdC.no (below_then HB5.out HB1.out HB1.out.size)
  ·clear hi2
   have cc:=fun (k:Nat) (v:Value) (hk:(#[.int .u8 fm,.int .u8 fq,.slice A nk cp,.string fd,.string ft,.string fc,.string fs0,.int .u8 gm,.int .u8 gq,.slice B ng cq,.string gd,.string gt,.string gc,.string gs]:Array Value)[k]?=some v)=>(cell_of_row _ _ k _ _ _ (heap_below HL1.out HB.out)).trans hk
   have c0:=cc 7 _ rfl
   have c1:=cc 8 _ rfl
   have c2:=cc 9 _ rfl
   have c3:=cc 10 _ rfl
   have c4:=cc 11 _ rfl
   have c5:=cc 12 _ rfl
   have c6:=cc 13 _ rfl
   have hN:=heap_new wr (.cells #[.int .u8 gm,.int .u8 gq,.slice B ng cq,.string gd,.string gt,.string gc,.string gs] 44) rfl
   have hb1:Below wr.heap.size wr (wr.alloc (.cells #[.int .u8 gm,.int .u8 gq,.slice B ng cq,.string gd,.string gt,.string gc,.string gs] 44)):=by go_grown
   have HB2:=Lib.hid (below_then hb1 HB.out HB.out.size)
   clear cc
   go_upto_region 4 with fail
   obtain ⟨bn,hbn⟩:∃ x,wr.heap.size=x:=⟨_,rfl⟩
   rw [hbn] at hN
   try rw [hbn]
   generalize wr.alloc (.cells #[.int .u8 gm,.int .u8 gq,.slice B ng cq,.string gd,.string gt,.string gc,.string gs] 44)=w4 at hN HB2 ⊢
   clear hbn c0 c1 c2 c3 c4 c5 c6 hb1
   obtain ⟨⟨p0,p1,p2,p3,p4,p5,p6⟩,-⟩:=obox7 hN
   go_wp2_with fail
   refine (HC2.out _ (HKG.out.below (below_then HB2.out HB1.out HB1.out.size))).mono ?_
   rintro _ w5 ⟨rfl,hb5⟩
   have HB5:=Lib.hid (below_then hb5 HB2.out HB2.out.size)
   clear p0 p1 p2 p3 p4 p5 p6 hN hb5
   by_cases he:F2=0
   ·subst he
    go_wp2
    go_roundw
    case rel=>first | exact ⟨2,by omega,rfl,fun _=>hi1 (by decide),fun _=>rfl,HB5⟩ | exact ⟨2,by omega,rfl,fun _=>hi1 (by decide),fun _=>trivial,HB5⟩
    case measure=>simp [intOf]
   ·have HE:=Lib.hid (show R=([],0,F2) from HR.out.symm.trans ((if_neg (fun h=>h (hi1 (by decide)))).trans (if_pos he)))
    have he2:(F2 !=0)=true:=by simpa using he
    have he3:¬ F2=0:=he
    clear he
    go_wp2
    go_ret3
    rw [HE.out]
    exact RetTdC.no (below_then HB5.out HB1.out HB1.out.size)
  ·have h1:=hi1 (by decide)
   have h2:=hi2 (by decide)
   subst h1 h2
   have HR2:=Lib.hid ((if_neg (fun h=>h rfl)).symm.trans ((if_neg (fun h=>h rfl)).symm.trans HR.out):(if AK≠0 then ([],0,AK) else if TB=true then ([],0,6) else if (rowsF ⟨gm,gq,gks,gd,gt,gc,gs⟩ TR).2≠0 then ([],0,(rowsF ⟨gm,gq,gks,gd,gt,gc,gs⟩ TR).2) else (TR,TL nr,0))=R)
   have HFM:=Lib.hid (HFK.out rfl);have HGM:=Lib.hid (HGK.out rfl)
   have HW:=Lib.hid (show ∀ wx,Below w1.heap.size w1 wx->wx.heap[w.heap.size]?=some (.cells #[.int .u8 fm,.int .u8 fq,.slice A nk cp,.string fd,.string ft,.string fc,.string fs0] 44 (0,0))/\wx.heap[w.heap.size+1]?=some (.cells #[.int .u8 gm,.int .u8 gq,.slice B ng cq,.string gd,.string gt,.string gc,.string gs] 44 (0,0))/\Kinds wx A fks FA FC/\Kinds wx B gks GA GC/\RowsM wx L rs RA RC/\Tab wx/\Below w.heap.size w wx from fun wx h=>by
    have h2:=below_then h HB1.out HB1.out.size
    exact ⟨heap_below HP1.out h,heap_below HP2.out h,HKF.out.below h2,HKG.out.below h2,HLM.out.below h2,HTB.out.below h2,h2⟩)
   have HTY2:=Lib.hid (HTY.out rfl)
   have HCR2:=Lib.hid (fun X c l RA RC w h h2 ht=>HCR.out rfl X c l RA RC w h h2 ht)
   clear hi1 hi2 HR HC1 HC2 HFK HGK HL1 HP1 HP2 HTY HCR
   obtain ⟨q1,q2,qk,qg,ql,qt,-⟩:=HW.out _ HB.out
   obtain ⟨⟨p0,p1,p2,p3,p4,p5,p6⟩,-⟩:=obox7 q1
   go_wp2_with fail
   refine (HRF.out _ qk ql qt).mono ?_
   rintro _ w2 ⟨rfl,hb2⟩
   have HB2:=Lib.hid (below_then hb2 HB.out HB.out.size)
   clear q1 q2 qk qg ql qt p0 p1 p2 p3 p4 p5 p6 hb2 HB HRF
   by_cases hak:AK=0
   case neg=>
    have HE:=Lib.hid (show R=([],0,AK) from HR2.out.symm.trans (if_pos hak))
    have he2:(AK !=0)=true:=by simpa using hak
    have he3:¬ AK=0:=hak
    clear hak
    go_wp2
    go_ret3
    rw [HE.out]
    exact RetTdC.no (HW.out _ HB2.out).2.2.2.2.2.2
   subst hak
   have HR3:=Lib.hid ((if_neg (fun h=>h rfl)).symm.trans HR2.out:(if TB=true then ([],0,6) else if (rowsF ⟨gm,gq,gks,gd,gt,gc,gs⟩ TR).2≠0 then ([],0,(rowsF ⟨gm,gq,gks,gd,gt,gc,gs⟩ TR).2) else (TR,TL nr,0))=R)
   have HAK2:=Lib.hid (HAK.out rfl)
   have h2000:nr<=2000:=HAK2.out.2.1
   clear HR2 HAK
   obtain ⟨q1,q2,qk,qg,ql,qt,-⟩:=HW.out _ HB2.out
   obtain ⟨⟨p0,p1,p2,p3,p4,p5,p6⟩,-⟩:=obox7 q1;obtain ⟨⟨u0,u1,u2,u3,u4,u5,u6⟩,-⟩:=obox7 q2
   go_wp2_with fail
   refine (HTY2.out _ qk qg).mono ?_
   rintro _ w3 ⟨rfl,hb3⟩
   have HB3:=Lib.hid (below_then hb3 HB2.out HB2.out.size)
   clear q1 q2 qk qg ql qt p0 p1 p2 p3 p4 p5 p6 u0 u1 u2 u3 u4 u5 u6 hb3 HB2 HTY2
   cases TB with
   | true=>
    have HE:=Lib.hid (show R=([],0,6) from HR3.out.symm.trans (if_pos rfl))
    go_wp2
    go_ret3
    rw [HE.out]
    exact RetTdC.no (HW.out _ HB3.out).2.2.2.2.2.2
   | false=>
    have HR4:=Lib.hid ((if_neg (by decide)).symm.trans HR3.out:(if (rowsF ⟨gm,gq,gks,gd,gt,gc,gs⟩ TR).2≠0 then ([],0,(rowsF ⟨gm,gq,gks,gd,gt,gc,gs⟩ TR).2) else (TR,TL nr,0))=R)
    have HTLF:=Lib.hid (fun j=>HTL.out HFM.out j)
    clear HR3 HTL
    go_wp2_with fail
    go_loopw [50,13,14] (fun i o t wr=>∃ (j:Nat) (X:Option Addr) (n c:Nat),j<=nr/\i=.int .i64 j/\o=.slice X n c/\t=.int .i64 (TL j:Nat)/\n<=j/\Hid (RwsO w1 wr X n c ((rs.take j).flatMap TO))) (fun i o t _=>nr-(intOf i).toNat)
    case atStart=>exact ⟨0,none,0,0,by omega,rfl,rfl,by first | rfl | (rw [show TL 0=0 from by have:=HTLF.out 0;omega];rfl),by omega,Lib.hid (RwsO.nil w1 HB3.out)⟩
    case round=>
     clear HB3
     obtain ⟨j,X,n,c,hj,rfl,rfl,rfl,hn,HO⟩:=hrel
     have hbw:=HO.out.bel
     have hzr:=hbw.size
     have htl:=HTLF.out j
     have HBW:=Lib.hid hbw
     clear hbw
     rcases Nat.lt_or_ge j nr with hlt | hge
     ·have tk:decide ((j:Int)<(nr:Int))=true:=decide_eq_true (by omega)
      have hjl:j<rs.length:=by rw [HNR.out];exact hlt
      obtain ⟨q1,q2,qk,qg,ql,qt,qb⟩:=HW.out _ HBW.out
      obtain ⟨b,off,rfl,hbk,c0,c1⟩:=ql.cells hjl
      have HRJ:=Lib.hid (fun wx h=>(HW.out wx h).2.2.2.2.1.each j hjl)
      have HRK:=Lib.hid (HAK2.out.2.2 j hlt)
      have HNX:=Lib.hid (show (rs.take (j+1)).flatMap TO=(rs.take j).flatMap TO++TO (rA rs j) by rw [<- rA_get hjl];exact flat_take hjl)
      have HTLN:=Lib.hid (show TL (j+1)=TL j+TC (rA rs j) from HTS.out j)
      have HTOJ:=Lib.hid (HTO.out (rA rs j));have HTCJ:=Lib.hid (HTC.out (rA rs j))
      obtain ⟨r,hr⟩:∃ x,rA rs j=x:=⟨_,rfl⟩
      rw [hr] at c0 c1 HRJ HRK HNX HTLN HTOJ HTCJ
      generalize RA j=RJ at c1 HRJ
      generalize RC j=CJ at c1 HRJ
      obtain ⟨rt,vs⟩:=r
      simp only at c0 c1 HTOJ HTCJ
      have hkind:=HRK.out.kind
      have hmany:=HRK.out.many
      simp only at hkind hmany
      obtain ⟨nv,hnv⟩:∃ x,vs.length=x:=⟨_,rfl⟩
      have HNV:=Lib.hid hnv
      rw [hnv] at c1
      have HMN:=Lib.hid hmany
      have HRD:=Lib.hid (heap_new wr (.cells #[.string rt,.slice RJ nv CJ] 39) rfl)
      have hbd:Below wr.heap.size wr (wr.alloc (.cells #[.string rt,.slice RJ nv CJ] 39)):=by go_grown
      have HO2:=Lib.hid (HO.out.below hbd)
      clear hr hnv hjl q1 q2 qk qg ql qt qb hmany
      go_upto_region 18 with fail
      obtain ⟨rb,hrb⟩:∃ x,wr.heap.size=x:=⟨_,rfl⟩
      rw [hrb] at HRD
      try rw [hrb]
      generalize wr.alloc (.cells #[.string rt,.slice RJ nv CJ] 39)=w2 at HRD HO2 ⊢
      clear hrb c0 c1 hbk hbd HO HBW hzr
      obtain ⟨q1,-,qk,-,-,-,-⟩:=HW.out _ HO2.out.bel
      obtain ⟨⟨p0,p1,p2,p3,p4,p5,p6⟩,-⟩:=obox7 q1
      obtain ⟨r0,r1,-,-,-⟩:=box2 HRD.out
      rcases kat_cases ⟨fm,fq,fks,fd,ft,fc,fs0⟩ FA FC rt with ⟨e,-⟩|⟨k,hk,e1,e2,e3,e4⟩
      ·omega
      go_wp2_with fail
      refine (HKA1.out rt _ qk).mono ?_
      rintro _ w3 ⟨rfl,hb3⟩
      rw [e2,e3,e4]
      rw [e2] at HTOJ HTCJ HMN
      have hk':k<fks.length:=hk
      have HCK:=Lib.hid (fun wx h=>kinds_cols (HW.out wx h).2.2.1 hk')
      have hk50:=(HFM.out.kinds k hk').many
      simp only at hk50
      have HRD3:=Lib.hid (heap_below HRD.out hb3);have HO3:=Lib.hid (HO2.out.below hb3)
      have td:decide (0<=katI ⟨fm,fq,fks,fd,ft,fc,fs0⟩ rt)=true:=decide_eq_true hkind
      rw [td]
      obtain ⟨K,hK⟩:∃ x,kA fks k=x:=⟨_,rfl⟩
      rw [show kA (⟨fm,fq,fks,fd,ft,fc,fs0⟩:Fmt).kinds k=kA fks k from rfl,hK] at HTOJ HTCJ HMN
      rw [hK] at HCK hk50
      rw [show kA (⟨fm,fq,fks,fd,ft,fc,fs0⟩:Fmt).kinds k=kA fks k from rfl,hK]
      generalize FA k=KA at HCK ⊢
      generalize FC k=KC
      clear e1 e2 e3 e4 td hK hk hk' hb3 q1 qk p0 p1 p2 p3 p4 p5 p6 r0 r1 HRD HO2 hkind
      obtain ⟨kt,kfs,km,ku⟩:=K
      unfold kindG
      simp only at HCK hk50 HMN ⊢
      obtain ⟨nf,hnf⟩:∃ x,kfs.length=x:=⟨_,rfl⟩
      have HNF:=Lib.hid hnf
      rw [hnf] at hk50 ⊢
      have hbd:Below w3.heap.size w3 (w3.alloc (.cells #[.string kt,.slice KA nf KC,.int .i64 km,.string ku] 83)):=by go_grown
      have HRD4:=Lib.hid (heap_old HRD3.out (.cells #[.string kt,.slice KA nf KC,.int .i64 km,.string ku] 83));have HKD4:=Lib.hid (heap_new w3 (.cells #[.string kt,.slice KA nf KC,.int .i64 km,.string ku] 83) rfl)
      have HO4:=Lib.hid (HO3.out.below hbd)
      clear hnf hbd HRD3 HO3
      go_upto_region 19 with fail
      obtain ⟨kb,hkb⟩:∃ x,w3.heap.size=x:=⟨_,rfl⟩
      rw [hkb] at HKD4
      try rw [hkb]
      generalize w3.alloc (.cells #[.string kt,.slice KA nf KC,.int .i64 km,.string ku] 83)=w4 at HRD4 HKD4 HO4 ⊢
      clear hkb
      obtain ⟨-,q2,-,qg,-,-,-⟩:=HW.out _ HO4.out.bel
      obtain ⟨⟨p0,p1,p2,p3,p4,p5,p6⟩,-⟩:=obox7 q2
      obtain ⟨r0,r1,-,-,-⟩:=box2 HRD4.out
      have HCC:=Lib.hid (kat_cases ⟨gm,gq,gks,gd,gt,gc,gs⟩ GA GC rt)
      go_wp2_with fail
      refine (HKA2.out rt _ qg).mono ?_
      rintro _ w5 ⟨rfl,hb5⟩
      have HRD5:=Lib.hid (heap_below HRD4.out hb5);have HKD5:=Lib.hid (heap_below HKD4.out hb5);have HO5:=Lib.hid (HO4.out.below hb5)
      clear q2 qg p0 p1 p2 p3 p4 p5 p6 r0 r1 hb5 HRD4 HKD4 HO4
      rcases HCC.out with ⟨e1,e2,e3,e4⟩|⟨k',hk',e1,e2,e3,e4⟩
      ·have HN1:=Lib.hid (show (rs.take (j+1)).flatMap TO=(rs.take j).flatMap TO by rw [HNX.out,HTOJ.out,e1,if_pos (by decide),List.append_nil])
       have HN2:=Lib.hid (show TL (j+1)=TL j+1 by rw [HTLN.out,HTCJ.out,e1,if_pos (by decide)])
       rw [e1,e2,e3,e4]
       have td:decide ((0:Int) <= -1)=false:=by decide
       rw [td]
       unfold kindG kind0
       clear e1 e2 e3 e4 HCC
       have hbd:Below w5.heap.size w5 (w5.alloc (.cells #[.string ⟨#[]⟩,.slice none 0 0,.int .i64 0,.string ⟨#[]⟩] 83)):=by go_grown
       have HO6:=Lib.hid (show RwsO w1 (w5.alloc (.cells #[.string ⟨#[]⟩,.slice none 0 0,.int .i64 0,.string ⟨#[]⟩] 83)) X n c ((rs.take (j+1)).flatMap TO) by rw [HN1.out];exact HO5.out.below hbd)
       clear hbd
       go_wp2
       go_roundw
       case rel=>first | exact ⟨j+1,X,n,c,by omega,by go_num,rfl,by rw [HN2.out];go_num,by omega,HO6⟩ | ((repeat apply Exists.intro);exact ⟨⟨j+1,X,n,c,by omega,by go_num,rfl,by rw [HN2.out];go_num,by omega,HO6⟩,rfl⟩)
       case measure=>simp [intOf];omega
      ·have HN1:=Lib.hid (show TO ⟨rt,vs⟩=[⟨rt,turnV ⟨kt,kfs,km,ku⟩ (kA gks k') vs⟩] by rw [HTOJ.out,e1,e2,if_neg (by omega)])
       have HN2:=Lib.hid (show TC ⟨rt,vs⟩=lostN ⟨kt,kfs,km,ku⟩ (kA gks k') vs kfs.length by rw [HTCJ.out,e1,e2,if_neg (by omega)])
       rw [e1,e2,e3,e4]
       have td:decide ((0:Int)<=(k':Int))=true:=decide_eq_true (by omega)
       rw [td]
       have hk'':k'<gks.length:=hk'
       have HCG:=Lib.hid (fun wx h=>kinds_cols (HW.out wx h).2.2.2.1 hk'')
       have hg50:=(HGM.out.kinds k' hk'').many
       simp only at hg50
       rw [show kA (⟨gm,gq,gks,gd,gt,gc,gs⟩:Fmt).kinds k'=kA gks k' from rfl]
       have hln:=lostN_le ⟨kt,kfs,km,ku⟩ (kA gks k') vs kfs.length
       obtain ⟨O,hO⟩:∃ x,kA gks k'=x:=⟨_,rfl⟩
       rw [hO] at HN1 HN2 HCG hg50 hln ⊢
       generalize GA k'=OA at HCG ⊢
       generalize GC k'=OC
       have HTU:=Lib.hid (fun wx (h:Below w1.heap.size w1 wx)=>turned_c ⟨kt,kfs,km,ku⟩ O KA OA KC OC ⟨rt,vs⟩ RJ CJ wx (HCK.out wx h) (HCG.out wx h) (HRJ.out wx h) HMN.out (by show kfs.length<=50;rw [HNF.out];exact hk50) hg50)
       unfold RetTurn kindG rowG at HTU
       obtain ⟨TV,hTV⟩:∃ x,turnV ⟨kt,kfs,km,ku⟩ O vs=x:=⟨_,rfl⟩
       have HTVS:=Lib.hid (show ∀ s∈TV,s.size<=9223372036854775807 by
        rw [<- hTV]
        intro s hs
        unfold turnV at hs
        obtain ⟨x,-,rfl⟩:=List.mem_map.1 hs
        exact turnW_size (HRJ.out _ HO5.out.bel).size x)
       have HTAG:=Lib.hid (HRJ.out _ HO5.out.bel).tag
       obtain ⟨LN,hLN⟩:∃ x,lostN ⟨kt,kfs,km,ku⟩ O vs kfs.length=x:=⟨_,rfl⟩
       simp only at HTU HTAG
       rw [hTV,hLN] at HTU
       rw [hTV] at HN1
       rw [hLN] at HN2 hln
       rw [HNF.out] at HTU hln
       rw [HNV.out] at HTU
       obtain ⟨nt,hnt⟩:∃ x,TV.length=x:=⟨_,rfl⟩
       have HNT:=Lib.hid hnt
       rw [hnt] at HTU
       obtain ⟨ot,ofs,om,ou⟩:=O
       unfold kindG
       simp only at HTU HCG ⊢
       obtain ⟨no,hno⟩:∃ x,ofs.length=x:=⟨_,rfl⟩
       rw [hno] at HTU ⊢
       have hbd:Below w5.heap.size w5 (w5.alloc (.cells #[.string ot,.slice OA no OC,.int .i64 om,.string ou] 83)):=by go_grown
       have HRD6:=Lib.hid (heap_old HRD5.out (.cells #[.string ot,.slice OA no OC,.int .i64 om,.string ou] 83));have HKD6:=Lib.hid (heap_old HKD5.out (.cells #[.string ot,.slice OA no OC,.int .i64 om,.string ou] 83));have HOD6:=Lib.hid (heap_new w5 (.cells #[.string ot,.slice OA no OC,.int .i64 om,.string ou] 83) rfl)
       have HO6:=Lib.hid (HO5.out.below hbd)
       clear hbd hno hnt hTV hLN hO e1 e2 e3 e4 HCC hk' hk'' HRD5 HKD5 HO5
       go_upto_region 20 with fail
       obtain ⟨ob,hob⟩:∃ x,w5.heap.size=x:=⟨_,rfl⟩
       rw [hob] at HOD6
       try rw [hob]
       generalize w5.alloc (.cells #[.string ot,.slice OA no OC,.int .i64 om,.string ou] 83)=w6 at HRD6 HKD6 HOD6 HO6 ⊢
       clear hob
       obtain ⟨r0,r1,-,-,-⟩:=box2 HRD6.out
       obtain ⟨⟨k0,k1,k2,k3⟩,-,-⟩:=obox4 HKD6.out;obtain ⟨⟨o0,o1,o2,o3⟩,-,-⟩:=obox4 HOD6.out
       go_wp2_with fail
       refine (HTU.out _ HO6.out.bel).mono ?_
       rintro _ w7 ⟨XT,ct,rfl,hown,hb7⟩
       have HO7:=Lib.hid (HO6.out.below hb7)
       have HRS:=Lib.hid (own_rowS (r:=⟨rt,TV⟩) (by rw [show (⟨rt,TV⟩:RowP).vals.length=nt from HNT.out];exact hown) HTVS.out HTAG.out)
       have hbd:Below w7.heap.size w7 (w7.alloc (.cells #[.string rt,.slice XT nt ct] 39)):=by go_grown
       have HN8:=Lib.hid (heap_new w7 (.cells #[.string rt,.slice XT nt ct] 39) rfl)
       have HO8:=Lib.hid (HO7.out.below hbd)
       have HRS8:=Lib.hid (show RowS (w7.alloc (.cells #[.string rt,.slice XT nt ct] 39)) ⟨rt,TV⟩ XT ct from ⟨HRS.out.vals.below hbd,HRS.out.len,HRS.out.size,HRS.out.tag⟩)
       clear r0 r1 k0 k1 k2 k3 o0 o1 o2 o3 hown hb7 hbd HO7 HRS HRD6 HKD6 HOD6 HO6 HTU HTVS HTAG
       go_upto_region 23 with fail
       obtain ⟨nb,hnb⟩:∃ x,w7.heap.size=x:=⟨_,rfl⟩
       rw [hnb] at HN8
       try rw [hnb]
       generalize w7.alloc (.cells #[.string rt,.slice XT nt ct] 39)=w8 at HN8 HO8 HRS8 ⊢
       clear hnb
       obtain ⟨r0,r1,-,-,-⟩:=box2 HN8.out
       have hz8:=HO8.out.bel.size
       obtain ⟨RA8,RC8,g1,g2,g3,g4⟩:=HO8.out
       have G1:=Lib.hid g1;have G2:=Lib.hid g2;have G3:=Lib.hid g3;have G4:=Lib.hid g4
       clear g1 g2 g3 g4 HO8
       go_upto_region 24 with (at_builtin;refine wpList_zpush rfl _ _ 28 rfl w1.heap.size 39 i0 (.agg #[.string ⟨#[]⟩,.slice none 0 0]) 2 40 Tryz.underlying28 hi hz0 hz1 hz2 rfl (by decide) (.slice X n c) n (rowsC 2 n (rowV ((rs.take j).flatMap TO) RA8 RC8)) rfl G2.out [.string rt,.slice XT nt ct] rfl rfl (by intro u hu;simp at hu;rcases hu with rfl | rfl<;>rfl) (by unfold maxLen;omega) (by omega) hz8 ?_;intro X9 c9 w9 hown9 hg9)
       have HO9:=Lib.hid (show RwsO w1 w9 X9 (n+1) c9 ((rs.take (j+1)).flatMap TO) by
        rw [HNX.out,HN1.out]
        refine RwsO.push G1.out G2.out G3.out G4.out HRS8.out ?_ hg9
        unfold rwL
        simp only
        rw [HNT.out]
        exact hown9)
       have HN3:=Lib.hid (show TL (j+1)=TL j+LN by rw [HTLN.out,HN2.out])
       clear r0 r1 hown9 hg9 G1 G2 G3 G4 HN8 HRS8
       go_wp2
       go_roundw
       case rel=>first | exact ⟨j+1,X9,n+1,c9,by omega,by go_num,rfl,by rw [HN3.out];go_num,by omega,HO9⟩ | ((repeat apply Exists.intro);exact ⟨⟨j+1,X9,n+1,c9,by omega,by go_num,rfl,by rw [HN3.out];go_num,by omega,HO9⟩,rfl⟩)
       case measure=>simp [intOf];omega
     ·obtain rfl:j=nr:=by omega
      have hl:=HO.out.len
      rw [show rs.take j=rs by rw [<- HNR.out,List.take_length],<- HTR.out] at hl
      obtain ⟨RA9,RC9,hrm⟩:=HO.out.rowsM
      rw [show rs.take j=rs by rw [<- HNR.out,List.take_length],<- HTR.out] at hrm
      have HRM:=Lib.hid hrm
      have HHL:=Lib.hid hl
      have HCAP:=Lib.hid (own_cap HO.out.choose_spec.choose_spec.2.1)
      obtain ⟨q1,q2,qk,qg,ql,qt,qb⟩:=HW.out _ HBW.out
      obtain ⟨⟨p0,p1,p2,p3,p4,p5,p6⟩,-⟩:=obox7 q2
      have HCC:=Lib.hid (HCR2.out X c TR RA9 RC9 _ qg HRM.out qt)
      rw [hl] at HCC
      have QB:=Lib.hid qb
      generalize rowsF ⟨gm,gq,gks,gd,gt,gc,gs⟩ TR=CE at HCC HR4
      obtain ⟨ci,ce⟩:=CE
      simp only at HCC HR4
      clear hl hrm q1 q2 qk qg ql qt qb
      go_wp2_with fail
      refine HCC.out.mono ?_
      rintro _ w9 ⟨rfl,hb9⟩
      have HQ9:=Lib.hid (below_then hb9 QB.out QB.out.size)
      have HRM9:=Lib.hid (HRM.out.below hb9)
      clear p0 p1 p2 p3 p4 p5 p6 hb9 QB HRM HCC
      by_cases hce:ce=0
      ·subst hce
       have HE:=Lib.hid (show R=(TR,TL j,0) from HR4.out.symm.trans (if_neg (fun h=>h rfl)))
       go_wp2
       go_ret3
       rw [HE.out]
       exact ⟨X,c,by rw [HHL.out];rfl,⟨RA9,RC9,HRM9.out⟩,⟨by have:=HCAP.out.1;simp only;rw [HHL.out];exact this,by have:=HCAP.out.2;unfold maxLen at this;exact this⟩,HQ9.out⟩
      ·have HE:=Lib.hid (show R=([],0,ce) from HR4.out.symm.trans (if_pos hce))
       have he2:(ce !=0)=true:=by simpa using hce
       have he3:¬ ce=0:=hce
       clear hce
       go_wp2
       go_ret3
       rw [HE.out]
       exact RetTdC.no HQ9.out
end Go.Proofs.YtbfbgappinilmaaGreatDoor
