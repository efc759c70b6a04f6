/- The walk of readLine, at formats with fixed places; of flat.Write, at right rows; of flat.Read, at the text of rows. -/
import Derived.Test.YtbfbgappinilmaaGreatDoorTFA
import Derived.Test.YtbfbgappinilmaaGreatDoorYP
import Derived.Test.YtbfbgappinilmaaGreatDoorZA
import Derived.Test.YtbfbgappinilmaaGreatDoorV8
import Derived.Test.YtbfbgappinilmaaGreatDoorV9
import Derived.Test.YtbfbgappinilmaaGreatDoorY1
import Derived.Test.YtbfbgappinilmaaGreatDoorShelf3
namespace Go.Proofs.YtbfbgappinilmaaGreatDoor
open Go.RowKit Limb Nmb Work
set_option linter.unusedVariables false
set_option linter.unusedSimpArgs false
def RetRL (r:RowP×Int×Int) (w:World) (e:Ending) (w':World):Prop:=∃ RA RC,e=.returned (.tuple #[rowG r.1 RA RC,.int .i64 r.2.1,.int .i64 r.2.2])/\RowS w' r.1 RA RC/\Below w.heap.size w w'
theorem grown_keep {w w':World} {g k:Nat} {o:Obj} (h:w.grownBy w' (some g)) (hk:w.heap[k]?=some o) (hne:k≠g):w'.heap[k]?=some o :=
 (h.block k (lt_heap hk) (fun e=>hne (by injection e))).trans hk
theorem row00_m {w:World} : RowS w row00 none 0:=⟨fun h=>absurd h (Nat.not_lt_zero _),⟨Nat.le_refl _,by decide⟩,(fun s h=>absurd h (by simp [row00])),by decide⟩
theorem tagN_le (f:Fmt) (line:ByteArray):tagN f line<=line.size:=by
 unfold tagN
 have h3:=data_len6 line
 split
 ·omega
 ·rcases idx_cases (qB f.mark) line.data.toList with ⟨h1,-⟩|⟨o,h1,h2,-⟩
  ·rw [h1];simp
  ·rw [h1,if_neg (by omega)]
   omega
theorem rd_sizes {q:Int} {line:ByteArray} (hl:line.size<=6000):∀ (cs:List Col) (i:Nat),∀ v∈(rdCols 0 q line cs i).1,v.size<=9223372036854775807
 | [],i,v,hv=>absurd hv (by unfold rdCols;simp)
 | c :: cs,i,v,hv=>by
  unfold rdCols at hv
  split at hv
  ·rename_i hok
   rcases List.mem_cons.1 hv with e | h
   ·subst e
    unfold rdV fixO at hok ⊢
    rw [if_pos rfl] at hok ⊢
    split at hok
    ·cases hok
    ·rename_i hs
     rw [if_neg hs]
     unfold fromO at hok ⊢
     simp only [Bool.and_eq_true] at hok
     have h1:=cut_size (c:=c) (s:=line.extract i (i+c.width.toNat))
     have h2:(line.extract i (i+c.width.toNat)).size<=line.size:=by rw [ByteArray.size_extract];omega
     exact valO_size (by omega) hok.1
   ·exact rd_sizes hl cs _ v h
  ·cases hv
set_option maxHeartbeats 4000000 in
set_option maxRecDepth 100000 in
theorem readline6_c (f:Fmt) (A:Option Addr) (cp:Nat) (FA:Nat->Option Addr) (FC:Nat->Nat) (line:ByteArray) (m0:Int) (w:World) (ho:Kinds w A f.kinds FA FC) (hf:checkF f=0) (hfx:f.mark=0) (hz:line.size<=9223372036854775807) (hn0:0<f.kinds.length) (hm:0<=f.mark/\f.mark<=255) (hqr:f.mark≠0->f.quote=0∨(0<=f.quote/\f.quote<128)) (ht:Tab w) (hM:w.cell? ⟨1,0,none⟩=some (.int .i64 m0)) :
  Calls Tryz.prog 47 #[fmtG f A cp,.string line] w (RetRL (lineO f line) w):=by
 obtain ⟨R,hR⟩:∃ x,lineO f line=x:=⟨_,rfl⟩
 have HR:=Lib.hid hR
 rw [hR]
 clear hR
 have HTG:=Lib.hid (fun g B w hl hg hB hK=>tag_c f A cp FA FC line g B w hl hn0 hm hg hB hK)
 have HKB:=Lib.hid (fun w' (hb:Below w.heap.size w w')=>ho.below hb)
 have HTB:=Lib.hid (fun w' (hb:Below w.heap.size w w')=>ht.below hb)
 have HMB:=Lib.hid (fun w' (hb:Below w.heap.size w w')=>(hb.cell (p:=⟨1,0,none⟩) (World.block_lt_of_cell? _ _ hM)).trans hM)
 have HCS:=Lib.hid (kat_cases f FA FC (line.extract 0 (tagN f line)))
 have HFK:=Lib.hid (checkF_ok hf)
 have HFX:=Lib.hid hfx
 have HCR:=Lib.hid (fun r RA RC w' (hb:Below w.heap.size w w') (hr:RowM w' r RA RC)=>checkrow_c f A cp FA FC r RA RC w' (ho.below hb) hr hf hm (ht.below hb))
 clear hfx
 have HQR:=Lib.hid hqr
 unfold lineO at HR
 unfold RetTg at HTG
 obtain ⟨m,q,ks,hd,tl,ct,sm⟩:=f
 unfold fmtG at HCR ⊢
 simp only at HTG HCS HCR HFX hm hn0 ⊢
 obtain ⟨n,hn⟩:∃ x,ks.length=x:=⟨_,rfl⟩
 have HN:=Lib.hid hn
 rw [hn] at HTG HCR hn0 ⊢
 unfold RetRL
 obtain ⟨N,hN⟩:∃ x,tagN ⟨m,q,ks,hd,tl,ct,sm⟩ line=x:=⟨_,rfl⟩
 have HNL:=Lib.hid (tagN_le ⟨m,q,ks,hd,tl,ct,sm⟩ line)
 rw [hN] at HTG HCS HR HNL
 obtain ⟨KI,hKI⟩:∃ x,katI ⟨m,q,ks,hd,tl,ct,sm⟩ (line.extract 0 N)=x:=⟨_,rfl⟩
 obtain ⟨KK,hKK⟩:∃ x,katK ⟨m,q,ks,hd,tl,ct,sm⟩ (line.extract 0 N)=x:=⟨_,rfl⟩
 obtain ⟨KA,hKA⟩:∃ x,katA ⟨m,q,ks,hd,tl,ct,sm⟩ FA (line.extract 0 N)=x:=⟨_,rfl⟩
 obtain ⟨KC,hKC⟩:∃ x,katC ⟨m,q,ks,hd,tl,ct,sm⟩ FC (line.extract 0 N)=x:=⟨_,rfl⟩
 rw [hKI,hKK,hKA,hKC] at HTG HCS
 rw [hKI,hKK] at HR
 unfold kindG at HTG
 clear hN hKI hKK hKA hKC
 have HF:=Lib.hid (heap_old (heap_old (heap_new w (.cells #[.int .u8 m,.int .u8 q,.slice A n cp,.string hd,.string tl,.string ct,.string sm] 44) rfl) (.cells #[.string ⟨#[]⟩,.slice none 0 0] 39)) (.cells #[.int .u8 m,.int .u8 q,.slice A n cp,.string hd,.string tl,.string ct,.string sm,.string line,.int .i64 0] 145))
 have HRW:=Lib.hid (heap_old (heap_new (w.alloc (.cells #[.int .u8 m,.int .u8 q,.slice A n cp,.string hd,.string tl,.string ct,.string sm] 44)) (.cells #[.string ⟨#[]⟩,.slice none 0 0] 39) (g:=w.heap.size+1) (by simp)) (.cells #[.int .u8 m,.int .u8 q,.slice A n cp,.string hd,.string tl,.string ct,.string sm,.string line,.int .i64 0] 145))
 have HG:=Lib.hid (heap_new ((w.alloc (.cells #[.int .u8 m,.int .u8 q,.slice A n cp,.string hd,.string tl,.string ct,.string sm] 44)).alloc (.cells #[.string ⟨#[]⟩,.slice none 0 0] 39)) (.cells #[.int .u8 m,.int .u8 q,.slice A n cp,.string hd,.string tl,.string ct,.string sm,.string line,.int .i64 0] 145) (g:=w.heap.size+2) (by simp))
 have HB:Hid (Below w.heap.size w (((w.alloc (.cells #[.int .u8 m,.int .u8 q,.slice A n cp,.string hd,.string tl,.string ct,.string sm] 44)).alloc (.cells #[.string ⟨#[]⟩,.slice none 0 0] 39)).alloc (.cells #[.int .u8 m,.int .u8 q,.slice A n cp,.string hd,.string tl,.string ct,.string sm,.string line,.int .i64 0] 145))):=Lib.hid (by go_grown)
 have hF0:=heap_old (heap_new w (.cells #[.int .u8 m,.int .u8 q,.slice A n cp,.string hd,.string tl,.string ct,.string sm] 44) rfl) (.cells #[.string ⟨#[]⟩,.slice none 0 0] 39)
 have hR0:=heap_new (w.alloc (.cells #[.int .u8 m,.int .u8 q,.slice A n cp,.string hd,.string tl,.string ct,.string sm] 44)) (.cells #[.string ⟨#[]⟩,.slice none 0 0] 39) (g:=w.heap.size+1) (by simp)
 simp only at HQR
 clear ho ht hM hf hn hqr
 go_enter Tryz.func47,Tryz.ntmps47
 obtain ⟨⟨f0,f1,f2,f3,f4,f5,f6⟩,f7⟩:=obox7 hF0
 obtain ⟨r0,r1,r2,r3,r4⟩:=box2 hR0
 clear hF0 hR0
 by_cases hbig:6000<line.size
 ·have hE:=(if_pos hbig).symm.trans HR.out
  subst hE
  have hbi:(6000:Int)<(line.size:Int):=by omega
  have HRZ:=Lib.hid (heap_new (w.alloc (.cells #[.int .u8 m,.int .u8 q,.slice A n cp,.string hd,.string tl,.string ct,.string sm] 44)) (.cells #[.string ⟨#[]⟩,.slice none 0 0] 39) (g:=w.heap.size+1) (by simp))
  have HBZ:Hid (Below w.heap.size w ((w.alloc (.cells #[.int .u8 m,.int .u8 q,.slice A n cp,.string hd,.string tl,.string ct,.string sm] 44)).alloc (.cells #[.string ⟨#[]⟩,.slice none 0 0] 39))):=Lib.hid (by go_grown)
  clear hbig
  go_wp2_with fail
  obtain ⟨q0,q1,-,-,-⟩:=box2 HRZ.out
  refine bodyPost_ret (v:=.tuple #[.agg #[.string ⟨#[]⟩,.slice none 0 0],.int .i64 0,.int .i64 2]) (by simp [results,Tryz.results47,go_sem,q0,q1]) rfl ⟨none,0,rfl,row00_m,HBZ.out⟩
 have HR2:=Lib.hid ((if_neg hbig).symm.trans HR.out)
 have hbi:¬ (6000:Int)<(line.size:Int):=by omega
 have hl:line.size<=6000:=by omega
 clear hbig
 go_upto_region 4 with fail
 generalize ((w.alloc (.cells #[.int .u8 m,.int .u8 q,.slice A n cp,.string hd,.string tl,.string ct,.string sm] 44)).alloc (.cells #[.string ⟨#[]⟩,.slice none 0 0] 39)).alloc (.cells #[.int .u8 m,.int .u8 q,.slice A n cp,.string hd,.string tl,.string ct,.string sm,.string line,.int .i64 0] 145)=w1 at HF HRW HG HB ⊢
 clear f0 f1 f2 f3 f4 f5 f6 f7 r0 r1 r2 r3 r4
 go_wp2_with fail
 refine (HTG.out (w.heap.size+2) w.heap.size w1 hl HG.out (by omega) (fun w' hb=>HKB.out w' (HB.out.trans hb))).mono ?_
 rintro _ w2 ⟨rfl,hg2,hG2⟩
 have HF2:=Lib.hid (grown_keep hg2 HF.out (by omega));have HRW2:=Lib.hid (grown_keep hg2 HRW.out (by omega));have HG2:=Lib.hid hG2
 have HB2:=Lib.hid (HB.out.trans (belowR_grown hg2 (by omega) HB.out.size))
 clear hg2 hG2 HF HRW HG HB HTG
 obtain ⟨W3,hW3⟩:∃ x,(w2.alloc (.cells #[.string KK.tag,.slice KA KK.fields.length KC,.int .i64 KK.most,.string KK.under] 83))=x:=⟨_,rfl⟩
 have HK3:=Lib.hid (heap_new w2 (.cells #[.string KK.tag,.slice KA KK.fields.length KC,.int .i64 KK.most,.string KK.under] 83) rfl)
 have HF3:=Lib.hid (heap_old HF2.out (.cells #[.string KK.tag,.slice KA KK.fields.length KC,.int .i64 KK.most,.string KK.under] 83))
 have HRW3:=Lib.hid (heap_old HRW2.out (.cells #[.string KK.tag,.slice KA KK.fields.length KC,.int .i64 KK.most,.string KK.under] 83))
 have HG3:=Lib.hid (heap_old HG2.out (.cells #[.string KK.tag,.slice KA KK.fields.length KC,.int .i64 KK.most,.string KK.under] 83))
 have HB3:Hid (Below w.heap.size w (w2.alloc (.cells #[.string KK.tag,.slice KA KK.fields.length KC,.int .i64 KK.most,.string KK.under] 83))):=Lib.hid (HB2.out.alloc HB2.out.size _)
 clear hW3
 go_upto_region 5 with fail
 generalize w2.alloc (.cells #[.string KK.tag,.slice KA KK.fields.length KC,.int .i64 KK.most,.string KK.under] 83)=w3 at HK3 HF3 HRW3 HG3 HB3 ⊢
 obtain ⟨KB,hKBe⟩:∃ x,w2.heap.size=x:=⟨_,rfl⟩
 have hkb:w.heap.size+2<KB:=by rw [<- hKBe];exact lt_heap HG2.out
 rw [hKBe] at HK3
 try rw [hKBe]
 have HKBL:=Lib.hid hkb
 clear hKBe HF2 HRW2 HG2 HB2
 rcases HCS.out with ⟨h1,-,-,-⟩|⟨k,hk,h1,h2,h3,h4⟩
 ·have hE:=HR2.out
  rw [if_pos (by omega)] at hE
  subst hE
  subst h1
  obtain ⟨r0,r1,r2,r3,r4⟩:=box2 HRW3.out
  go_wp2_with fail
  obtain ⟨q0,q1,-,-,-⟩:=box2 (heap_set (heap_set HRW3.out 0 (.string ⟨#[]⟩)) 1 (.slice none 0 0))
  refine bodyPost_ret (v:=.tuple #[.agg #[.string ⟨#[]⟩,.slice none 0 0],.int .i64 0,.int .i64 9]) (by simp [results,Tryz.results47,go_sem,q0,q1]) rfl ⟨none,0,rfl,row00_m,(HB3.out.setCell (p:=⟨w.heap.size+1,0,none⟩) (Nat.le_succ _) _).setCell (p:=⟨w.heap.size+1,1,none⟩) (Nat.le_succ _) _⟩
 have HR3:=Lib.hid ((if_neg (show ¬ KI<0 by omega)).symm.trans HR2.out)
 have hdec:decide ((0:Int)<=KI)=true:=decide_eq_true (by omega)
 have HKE:=Lib.hid (And.intro hk (And.intro h1 (And.intro h2 (And.intro h3 h4))))
 clear HR2 h1 h2 h3 h4 hk
 obtain ⟨⟨k0,k1,k2,k3⟩,k4,k5⟩:=obox4 HK3.out
 go_upto_region 8 with fail
 have HO4:=Lib.hid (heap_new w3 (.cells #[.string KK.tag,.slice none 0 0] 39) rfl)
 have HF4:=Lib.hid (heap_old HF3.out (.cells #[.string KK.tag,.slice none 0 0] 39));have HRW4:=Lib.hid (heap_old HRW3.out (.cells #[.string KK.tag,.slice none 0 0] 39));have HG4:=Lib.hid (heap_old HG3.out (.cells #[.string KK.tag,.slice none 0 0] 39));have HK4:=Lib.hid (heap_old HK3.out (.cells #[.string KK.tag,.slice none 0 0] 39))
 have HB4:Hid (Below w.heap.size w (w3.alloc (.cells #[.string KK.tag,.slice none 0 0] 39))):=Lib.hid (HB3.out.alloc HB3.out.size _)
 obtain ⟨OB,hOB⟩:∃ x,w3.heap.size=x:=⟨_,rfl⟩
 have HOB:=Lib.hid (show KB<OB by rw [<- hOB];exact lt_heap HK3.out)
 rw [hOB] at HO4
 try rw [hOB]
 generalize w3.alloc (.cells #[.string KK.tag,.slice none 0 0] 39)=w4 at HO4 HF4 HRW4 HG4 HK4 HB4 ⊢
 clear hOB HF3 HRW3 HG3 HK3 HB3 k0 k1 k2 k3 k4 k5
 obtain ⟨⟨k0,k1,k2,k3⟩,k4,k5⟩:=obox4 HK4.out
 obtain ⟨FS,hFS⟩:∃ x,KK.fields=x:=⟨_,rfl⟩
 obtain ⟨RCX,hRC⟩:∃ x,rdCols m q line FS N=x:=⟨_,rfl⟩
 obtain ⟨nf,hnf⟩:∃ x,FS.length=x:=⟨_,rfl⟩
 rw [hFS] at HR3
 rw [hRC] at HR3
 have HFS:=Lib.hid hFS;have HRC:=Lib.hid hRC;have HNF:=Lib.hid hnf
 rw [hFS,hnf] at k1
 clear hFS hRC hnf
 go_wp2_with fail
 try rw [hdec]
 go_loopw [40] (fun x wr=>∃ (j i:Nat) (vs:List ByteArray) (A2:Option Addr) (c2:Nat),x=.int .i64 (j:Int)/\j<=nf/\vs.length=j/\i<=line.size/\Hid (rdAdd vs (rdCols m q line (FS.drop j) i)=RCX)/\wr.ownsRow w.heap.size 9 1 (.slice A2 j c2) j (ystrV vs)/\Hid (wr.heap[OB]?=some (.cells #[.string KK.tag,.slice A2 j c2] 39 (0,0))) /\
  Hid (wr.heap[w.heap.size]?=some (.cells #[.int .u8 m,.int .u8 q,.slice A n cp,.string hd,.string tl,.string ct,.string sm] 44 (0,0)))/\Hid (wr.heap[w.heap.size+1]?=some (.cells #[.string ⟨#[]⟩,.slice none 0 0] 39 (0,0)))/\Hid (wr.heap[w.heap.size+2]?=some (.cells #[.int .u8 m,.int .u8 q,.slice A n cp,.string hd,.string tl,.string ct,.string sm,.string line,.int .i64 (i:Int)] 145 (0,0)))/\Hid (wr.heap[KB]?=some (.cells #[.string KK.tag,.slice KA KK.fields.length KC,.int .i64 KK.most,.string KK.under] 83 (0,0)))/\Hid (Below w.heap.size w wr)) (fun x _=>nf-(intOf x).toNat)
 case atStart=>exact ⟨0,N,[],none,0,rfl,Nat.zero_le _,rfl,HNL.out,Lib.hid (by rw [<- HRC.out];unfold rdAdd;simp),World.ownsRow_nil _ _ _ _,HO4,HF4,HRW4,HG4,HK4,HB4⟩
 case round=>
  obtain ⟨j,i,vs,A2,c2,rfl,hj,hvs,hi,HRD,hown,HO5,HF5,HRW5,HG5,HK5,HB5⟩:=hrel
  rcases Nat.lt_or_ge j nf with hjn | hjn
  case inr=>
   obtain rfl:j=nf:=by omega
   have HRE:=Lib.hid (show (vs,i,true)=RCX by
    have h1:=HRD.out
    rw [List.drop_eq_nil_of_le (by rw [HNF.out];exact Nat.le_refl _),rd_nil] at h1
    exact h1)
   have HSZ:=Lib.hid (show ∀ s∈vs,s.size<=9223372036854775807 from by
    have h1:=HRC.out
    rw [HFX.out,<- HRE.out] at h1
    have h2:=rd_sizes (q:=q) hl FS N
    rw [h1] at h2
    exact h2)
   have HTS:=Lib.hid (show KK.tag.size<=9223372036854775807 by
    obtain ⟨hk,h1,h2,h3,h4⟩:=HKE.out
    have h5:=(HFK.out.kinds k hk).tag.2
    rw [show kA (Fmt.kinds ⟨m,q,ks,hd,tl,ct,sm⟩) k=KK from h2.symm] at h5
    omega)
   have HFN:=Lib.hid (show KK.fields.length=j by rw [HFS.out,HNF.out])
   have hR4:=HR3.out
   rw [<- HRE.out] at hR4
   simp only [if_neg (show ¬ (true=false) by decide)] at hR4
   obtain ⟨⟨f0,f1,f2,f3,f4,f5,f6⟩,f7⟩:=obox7 HF5.out
   have hG:=HG5.out
   have g8:wr.cell? ⟨w.heap.size+2,8,none⟩=some (.int .i64 (i:Int)):=cell_of_row _ _ 8 _ _ _ hG
   clear hG
   obtain ⟨r0,r1,r2,r3,r4⟩:=box2 HRW5.out
   by_cases hlt:i<line.size
   ·rw [if_pos hlt] at hR4
    have hlt':(i:Int)<(line.size:Int):=by omega
    obtain ⟨⟨k0,k1,k2,k3⟩,k4,k5⟩:=obox4 HK5.out
    have hE:=hR4
    rw [HNF.out] at hE
    subst hE
    rw [HFN.out] at k1
    clear hR4 hlt
    go_upto_region 20 with fail
    go_region
    go_wp2_with fail
    have HFZ:=heap_set (heap_set HRW5.out 0 (.string ⟨#[]⟩)) 1 (.slice none 0 0)
    obtain ⟨q0,q1,-,-,-⟩:=box2 (show ((wr.setCell ⟨w.heap.size+1,0,none⟩ (.string ⟨#[]⟩)).setCell ⟨w.heap.size+1,1,none⟩ (.slice none 0 0)).drew.heap[w.heap.size+1]?=_ from HFZ)
    have HBZ:=((HB5.out.setCell (p:=⟨w.heap.size+1,0,none⟩) (Nat.le_succ _) (.string ⟨#[]⟩)).setCell (p:=⟨w.heap.size+1,1,none⟩) (Nat.le_succ _) (.slice none 0 0)).drew
    refine bodyPost_ret (v:=.tuple #[.agg #[.string ⟨#[]⟩,.slice none 0 0],.int .i64 (j:Int),.int .i64 10]) (by simp [results,Tryz.results47,go_sem,q0,q1]) rfl ⟨none,0,rfl,row00_m,HBZ⟩
   ·rw [if_neg hlt] at hR4
    have hlt':¬ (i:Int)<(line.size:Int):=by omega
    have HR4:=Lib.hid hR4
    clear hR4 hlt
    obtain ⟨o0,o1,o2,o3,o4⟩:=box2 HO5.out
    have HOS:=Lib.hid (own_rowS (r:=⟨KK.tag,vs⟩) (show wr.ownsRow w.heap.size 9 1 (.slice A2 vs.length c2) vs.length (ystrV vs) by rw [hvs];exact hown) HSZ.out HTS.out)
    have HC2:=Lib.hid (HCR.out ⟨KK.tag,vs⟩ A2 c2 wr HB5.out HOS.out.rowM)
    unfold rowG at HC2
    dsimp only at HC2
    rw [hvs] at HC2
    obtain ⟨⟨x,y⟩,hxy⟩:∃ p,rowF ⟨m,q,ks,hd,tl,ct,sm⟩ ⟨KK.tag,vs⟩=p:=⟨_,rfl⟩
    rw [hxy] at HC2 HR4
    simp only at HC2 HR4
    clear hxy
    go_wp2_with fail
    refine HC2.out.mono ?_
    rintro _ w6 ⟨rfl,hb6⟩
    have HRW6:=Lib.hid (heap_below HRW5.out hb6)
    have HO6:=Lib.hid (heap_below HO5.out hb6)
    have HB6:=Lib.hid (below_then hb6 HB5.out HB5.out.size)
    have HOS6:=Lib.hid (show RowS w6 ⟨KK.tag,vs⟩ A2 c2 from ⟨HOS.out.vals.below hb6,HOS.out.len,HOS.out.size,HOS.out.tag⟩)
    clear hb6 f0 f1 f2 f3 f4 f5 f6 f7 o0 o1 o2 o3 o4 r0 r1 r2 r3 r4 g8
    obtain ⟨r0,r1,r2,r3,r4⟩:=box2 HRW6.out
    obtain ⟨o0,o1,o2,o3,o4⟩:=box2 HO6.out
    by_cases hy:y=0
    ·have hE:=HR4.out
     subst hy
     rw [if_neg (fun x=>x rfl)] at hE
     subst hE
     have hob:=HOB.out
     have hkb:=HKBL.out
     have hX:=heap_set (heap_set HRW6.out 0 (.string KK.tag)) 1 (.slice A2 j c2)
     have HF9:=Lib.hid hX
     have HB9:=Lib.hid ((HB6.out.setCell (p:=⟨w.heap.size+1,0,none⟩) (Nat.le_succ _) (.string KK.tag)).setCell (p:=⟨w.heap.size+1,1,none⟩) (Nat.le_succ _) (.slice A2 j c2))
     have HOS9:=Lib.hid (show RowS ((w6.setCell ⟨w.heap.size+1,0,none⟩ (.string KK.tag)).setCell ⟨w.heap.size+1,1,none⟩ (.slice A2 j c2)) ⟨KK.tag,vs⟩ A2 c2 from ⟨(HOS6.out.vals.far HRW6.out (by decide) _).far (heap_set HRW6.out 0 (.string KK.tag)) (by decide) _,HOS6.out.len,HOS6.out.size,HOS6.out.tag⟩)
     clear hX
     go_wp2_with fail
     obtain ⟨q0,q1,-,-,-⟩:=box2 HF9.out
     refine bodyPost_ret (v:=.tuple #[.agg #[.string KK.tag,.slice A2 j c2],.int .i64 0,.int .i64 0]) (by simp [results,Tryz.results47,go_sem,q0,q1]) rfl ⟨A2,c2,by unfold rowG;rw [hvs],HOS9.out,HB9.out⟩
    ·have hE:=HR4.out
     rw [if_pos hy] at hE
     subst hE
     have hy':(y==0)=false:=by simpa using hy
     clear hy
     go_wp2_with fail
     obtain ⟨q0,q1,-,-,-⟩:=box2 (heap_set (heap_set HRW6.out 0 (.string ⟨#[]⟩)) 1 (.slice none 0 0))
     refine bodyPost_ret (v:=.tuple #[.agg #[.string ⟨#[]⟩,.slice none 0 0],.int .i64 x,.int .i64 y]) (by simp [results,Tryz.results47,go_sem,q0,q1]) rfl ⟨none,0,rfl,row00_m,(HB6.out.setCell (p:=⟨w.heap.size+1,0,none⟩) (Nat.le_succ _) _).setCell (p:=⟨w.heap.size+1,1,none⟩) (Nat.le_succ _) _⟩
  obtain ⟨hk,h1,h2,h3,h4⟩:=HKE.out
  have hco:=(HKB.out wr HB5.out).2.2 k hk
  rw [show kA ks k=KK from h2.symm,show FA k=KA from h3.symm,HFS.out] at hco
  obtain ⟨cb,co,hA,hcb,d0,d1,d2,d3,d4,d5,d6,d7⟩:=hco.1.cells (j:=j) (by rw [HNF.out];exact hjn)
  clear hco h1 h2 h3 h4 hk
  obtain ⟨C,hC⟩:∃ x,cA FS j=x:=⟨_,rfl⟩
  have HC:=Lib.hid hC
  rw [hC] at d0 d1 d2 d3 d4 d5 d6 d7
  subst hA
  clear hC
  obtain ⟨⟨f0,f1,f2,f3,f4,f5,f6⟩,f7⟩:=obox7 HF5.out
  have HMC:=Lib.hid (fun w' hk hg=>method_c m q A n cp hd tl ct sm C line i (w.heap.size+2) w.heap.size m0 w' hm HQR.out hl hi hk hg (by omega))
  have HCK:=Lib.hid (show ColK m C by
   obtain ⟨hk,h1,h2,h3,h4⟩:=HKE.out
   have h5:=(HFK.out.kinds k hk).cols j (by rw [show kA (Fmt.kinds ⟨m,q,ks,hd,tl,ct,sm⟩) k=KK from h2.symm,HFS.out,HNF.out];exact hjn)
   rw [show kA (Fmt.kinds ⟨m,q,ks,hd,tl,ct,sm⟩) k=KK from h2.symm,HFS.out,HC.out] at h5
   exact h5)
  unfold colG RetRd at HMC
  obtain ⟨V,hV⟩:∃ x,rdV m q line C i=x:=⟨_,rfl⟩
  obtain ⟨I2,hI2⟩:∃ x,rdI m q line C i=x:=⟨_,rfl⟩
  rw [hV,hI2] at HMC
  have HVI:=Lib.hid (And.intro hV hI2)
  clear hV hI2
  obtain ⟨nm,kd,wd,pl,fm,rt,fl,nd⟩:=C
  simp only at HMC d0 d1 d2 d3 d4 d5 d6 d7
  have HCL:=Lib.hid (heap_new wr (.cells #[.string nm,.int .i64 kd,.int .i64 wd,.int .i64 pl,.int .i64 fm,.bool rt,.int .u8 fl,.bool nd] 91) rfl)
  have HO6:=Lib.hid (heap_old HO5.out (.cells #[.string nm,.int .i64 kd,.int .i64 wd,.int .i64 pl,.int .i64 fm,.bool rt,.int .u8 fl,.bool nd] 91));have HF6:=Lib.hid (heap_old HF5.out (.cells #[.string nm,.int .i64 kd,.int .i64 wd,.int .i64 pl,.int .i64 fm,.bool rt,.int .u8 fl,.bool nd] 91));have HRW6:=Lib.hid (heap_old HRW5.out (.cells #[.string nm,.int .i64 kd,.int .i64 wd,.int .i64 pl,.int .i64 fm,.bool rt,.int .u8 fl,.bool nd] 91));have HG6:=Lib.hid (heap_old HG5.out (.cells #[.string nm,.int .i64 kd,.int .i64 wd,.int .i64 pl,.int .i64 fm,.bool rt,.int .u8 fl,.bool nd] 91));have HK6:=Lib.hid (heap_old HK5.out (.cells #[.string nm,.int .i64 kd,.int .i64 wd,.int .i64 pl,.int .i64 fm,.bool rt,.int .u8 fl,.bool nd] 91))
  have HB6:Hid (Below w.heap.size w (wr.alloc (.cells #[.string nm,.int .i64 kd,.int .i64 wd,.int .i64 pl,.int .i64 fm,.bool rt,.int .u8 fl,.bool nd] 91))):=Lib.hid (HB5.out.alloc HB5.out.size _)
  have hown6:=hown.alloc (.cells #[.string nm,.int .i64 kd,.int .i64 wd,.int .i64 pl,.int .i64 fm,.bool rt,.int .u8 fl,.bool nd] 91)
  clear hown
  go_upto_region 12 with fail
  obtain ⟨CB,hCB⟩:∃ x,wr.heap.size=x:=⟨_,rfl⟩
  have HCB:=Lib.hid (show OB<CB by rw [<- hCB];exact lt_heap HO5.out)
  rw [hCB] at HCL
  try rw [hCB]
  generalize wr.alloc (.cells #[.string nm,.int .i64 kd,.int .i64 wd,.int .i64 pl,.int .i64 fm,.bool rt,.int .u8 fl,.bool nd] 91)=w6 at HCL HO6 HF6 HRW6 HG6 HK6 HB6 hown6 ⊢
  clear hCB HO5 HF5 HRW5 HG5 HK5 HB5 d0 d1 d2 d3 d4 d5 d6 d7 f0 f1 f2 f3 f4 f5 f6 f7 hcb
  obtain ⟨⟨f0,f1,f2,f3,f4,f5,f6⟩,f7⟩:=obox7 HF6.out
  obtain ⟨⟨x0,x1,x2,x3,x4,x5,x6,x7⟩,x8⟩:=obox8 HCL.out
  go_upto_if 49 with fail
  go_cut [13] (fun v wx=>v=.func (Fn.func (if m=0 then 91 else 90)) #[.pointer (some ⟨w.heap.size+1+1,0,none⟩)] #[]/\w6=wx)
  case first=>
   by_cases h0:m=0
   ·have k9:(m==0)=true:=by simp [h0]
    have HE:=Lib.hid (if_pos h0:(if m=0 then 91 else 90)=91)
    clear h0
    go_wp2
    go_meet
    exact ⟨by rw [HE.out],rfl⟩
   ·have HE:=Lib.hid (if_neg h0:(if m=0 then 91 else 90)=90)
    have k9:(m==0)=false:=beq_eq_false_iff_ne.2 h0
    clear h0
    go_wp2
    go_meet
    exact ⟨by rw [HE.out],rfl⟩
  case rest=>
   obtain ⟨rfl,rfl⟩:=hcut
   have hcf:∀ args w,(Sem.run Tryz.prog (callFunc (if m=0 then 91 else 90) args) w)=.ok (.enter (if m=0 then 91 else 90) args) w:=by
    intro args w
    split<;>rfl
   obtain ⟨FN,hFN⟩:∃ x,(if m=0 then 91 else 90)=x:=⟨_,rfl⟩
   rw [hFN] at HMC hcf
   rw [hFN]
   clear hFN
   go_wp2_with fail
   refine (HMC.out _ HCK.out HG6.out (fun w' hb=>HTB.out w' (HB6.out.trans hb)) (fun w' hb=>HMB.out w' (HB6.out.trans hb))).mono ?_
   rintro _ w7 ⟨rfl,hg7,hG7⟩
   have HO7:=Lib.hid (grown_keep hg7 HO6.out (by have:=HOB.out;have:=HKBL.out;omega));have HF7:=Lib.hid (grown_keep hg7 HF6.out (by omega));have HRW7:=Lib.hid (grown_keep hg7 HRW6.out (by omega));have HK7:=Lib.hid (grown_keep hg7 HK6.out (by have:=HKBL.out;omega))
   have HB7:=Lib.hid (HB6.out.trans (belowR_grown hg7 (by omega) HB6.out.size))
   have hown7:=own_keepT hown6 (fun g cs hh=>grown_keep hg7 hh (heap_ne hh HG6.out (by decide)))
   clear hown6
   have HG7:=Lib.hid hG7
   have HDJ:Hid (FS.drop j=⟨nm,kd,wd,pl,fm,rt,fl,nd⟩ :: FS.drop (j+1)):=Lib.hid (by
    have h1:=HC.out
    have h2:j<FS.length:=by rw [HNF.out];exact hjn
    unfold cA at h1
    rw [List.drop_eq_getElem_cons h2]
    congr 1
    rw [<- h1]
    simp [List.getD,List.getElem?_eq_getElem h2])
   clear hg7 hG7 f0 f1 f2 f3 f4 f5 f6 f7 x0 x1 x2 x3 x4 x5 x6 x7 x8 HG6 HO6 HF6 HRW6 HK6
   obtain ⟨v,ok⟩:=V
   cases ok with
   | false=>
    have HE:=Lib.hid (show (row00,(j:Int),(10:Int))=R by
     have h1:=HRD.out
     rw [HDJ.out,rd_stop vs (by rw [HVI.out.1])] at h1
     rw [<- HR3.out,<- h1,if_pos rfl,hvs])
    obtain ⟨r0,r1,r2,r3,r4⟩:=box2 HRW7.out
    go_wp2_with fail
    obtain ⟨q0,q1,-,-,-⟩:=box2 (heap_set (heap_set HRW7.out 0 (.string ⟨#[]⟩)) 1 (.slice none 0 0))
    refine bodyPost_ret (v:=.tuple #[.agg #[.string ⟨#[]⟩,.slice none 0 0],.int .i64 (j:Int),.int .i64 10]) (by simp [results,Tryz.results47,go_sem,q0,q1]) rfl ?_
    rw [<- HE.out]
    exact ⟨none,0,rfl,row00_m,(HB7.out.setCell (p:=⟨w.heap.size+1,0,none⟩) (Nat.le_succ _) _).setCell (p:=⟨w.heap.size+1,1,none⟩) (Nat.le_succ _) _⟩
   | true=>
    have HRD2:=Lib.hid (show rdAdd (vs++[v]) (rdCols m q line (FS.drop (j+1)) I2)=RCX by
     have h1:=HRD.out
     rw [HDJ.out,rd_step vs (by rw [HVI.out.1]),HVI.out.1,HVI.out.2] at h1
     exact h1)
    have hi2:I2<=line.size:=by
     have h1:=rd_le (m:=m) (q:=q) (line:=line) (c:=⟨nm,kd,wd,pl,fm,rt,fl,nd⟩) (i:=i) (by have:=HCK.out.width;omega) hi (by rw [HVI.out.1])
     rw [HVI.out.2] at h1
     exact h1
    have hnf50:nf<=50:=by
     obtain ⟨hk,h1,h2,h3,h4⟩:=HKE.out
     have h5:=(HFK.out.kinds k hk).many
     rw [show kA (Fmt.kinds ⟨m,q,ks,hd,tl,ct,sm⟩) k=KK from h2.symm,HFS.out,HNF.out] at h5
     exact h5
    have hz7:=HB7.out.size
    have hG8:=HG7.out rfl
    have HG8:=Lib.hid hG8
    clear hG8 HG7
    obtain ⟨o0,o1,o2,o3,o4⟩:=box2 HO7.out
    obtain ⟨j0,hj0⟩:∃ i,Tryz.prog.info? 9=some i:=⟨_,rfl⟩
    have hji:j0.zero=some (.string ⟨#[]⟩):=by obtain rfl:=Option.some.inj (hj0.symm.trans rfl);rfl
    have hjz:j0.size=1:=by obtain rfl:=Option.some.inj (hj0.symm.trans rfl);rfl
    have hjb:j0.bytes=16:=by obtain rfl:=Option.some.inj (hj0.symm.trans rfl);rfl
    go_wp2_with (at_builtin;(with_reducible refine ywpList_push_strs rfl _ _ 37 rfl w.heap.size j0 (.string ⟨#[]⟩) Tryz.underlying37 hj0 hji hjz hjb rfl (.slice A2 j c2) j vs rfl hown7 1 [.string v] [v] rfl rfl rfl (by omega) hz7 ?_);intro A8 c8 w8 hown8 hg8;have hO8:=grown_type hown7 hg8 HO7.out (by decide);obtain ⟨p0,p1,p2,p3,p4⟩:=box2 hO8)
    have hgt:∀ {g:Nat} {cs:Array Value} {T:TypeId},w7.heap[g]?=some (.cells cs T (0,0))->T≠9->w8.heap[g]?=some (.cells cs T (0,0)):=fun hh hT=>grown_type hown7 hg8 hh hT
    have HF8:=hgt HF7.out (by decide);have HRW8:=hgt HRW7.out (by decide);have HGG8:=hgt HG8.out (by decide);have HK8:=hgt HK7.out (by decide)
    have hB8:=HB7.out.grown hg8 HB7.out.size (town_ge hown7)
    have hOBl:=HOB.out;have hKBl:=HKBL.out
    go_roundw
    case rel=>
     exact ⟨j+1,I2,vs++[v],A8,c8,by go_num,by omega,by simp [hvs],hi2,HRD2,own_keepT hown8 (fun g cs hh=>heap_far hh (heap_ne hh hO8 (by decide)) _),Lib.hid (heap_set hO8 1 _),Lib.hid (heap_far HF8 (p:=⟨OB,1,none⟩) (by show w.heap.size≠OB;omega) _),Lib.hid (heap_far HRW8 (p:=⟨OB,1,none⟩) (by show w.heap.size+1≠OB;omega) _),Lib.hid (heap_far HGG8 (p:=⟨OB,1,none⟩) (by show w.heap.size+2≠OB;omega) _),Lib.hid (heap_far HK8 (p:=⟨OB,1,none⟩) (by show KB≠OB;omega) _),Lib.hid (hB8.setCell (p:=⟨OB,1,none⟩) (by show w.heap.size<=OB;omega) _)⟩
    case measure=>simp [intOf];omega
set_option linter.unusedVariables false
set_option linter.unusedSimpArgs false
noncomputable def wrT (f:Fmt) (rs:List RowP):List UInt8:=rs.flatMap fun r=>lineL f r++[10]
theorem wrT_take {f:Fmt} {rs:List RowP} {j:Nat} (h:j<rs.length):wrT f (rs.take (j+1))=wrT f (rs.take j)++(lineL f (rA rs j)++[10]):=by
 unfold wrT
 rw [List.take_succ_eq_append_getElem h,rA_get h,List.flatMap_append]
 simp
theorem wrT_le {f:Fmt} {rs:List RowP} (j:Nat):(wrT f (rs.take j)).length<=(wrT f rs).length:=by
 have:wrT f rs=wrT f (rs.take j)++wrT f (rs.drop j):=by
  unfold wrT
  rw [<- List.flatMap_append,List.take_append_drop]
 rw [this,List.length_append]
 omega
theorem bld_cells6 {w:World} {b:Nat} {l:List UInt8} (h:Bld w b l):∃ p A c,w.cell? ⟨b,1,none⟩=some (.slice A l.length c)/\w.cell? ⟨b,0,none⟩=some p:=by
 have key:∀ p,Lib.BuilderAtF 95 5 b b p (Lib.byteCells l) w->∃ p A c,w.cell? ⟨b,1,none⟩=some (.slice A l.length c)/\w.cell? ⟨b,0,none⟩=some p:=by
  intro p hh
  obtain ⟨hB,v,hv,hown,hne⟩:=hh
  rw [Lib.byteCells_length] at hown
  rcases hown.2 with ⟨h1,h2⟩|⟨g,cap,cur,fz,h1,-⟩
  ·subst h1
   exact ⟨p,none,0,by rw [cell_of_row w b 1 _ _ _ hv,h2];rfl,cell_of_row w b 0 _ _ _ hv⟩
  ·subst h1
   exact ⟨p,_,cap,cell_of_row w b 1 _ _ _ hv,cell_of_row w b 0 _ _ _ hv⟩
 exact h.elim (key _) (key _)
theorem blen6_c (b:Nat) (l:List UInt8) (w:World) (h:Bld w b l) :
  Calls Tryz.prog 42 #[.pointer (some ⟨b,0,none⟩)] w fun e w'=>e=.returned (.int .i64 (l.length:Int))/\w=w':=by
 obtain ⟨p,A,c,h1,-⟩:=bld_cells6 h
 clear h
 go_enter Tryz.func42,Tryz.ntmps42
 go_wp2
 go_ret
 exact ⟨rfl,rfl⟩
def RetWr (s:ByteArray) (w:World) (e:Ending) (w':World):Prop:=e=.returned (.tuple #[.string s,.int .i64 0,.int .i64 0,.int .i64 0])/\Below w.heap.size w w'
set_option maxHeartbeats 4000000 in
set_option maxRecDepth 100000 in
theorem fwrite_c (f:Fmt) (A:Option Addr) (cp:Nat) (FA:Nat->Option Addr) (FC:Nat->Nat) (L:Option Addr) (LC:Nat) (rs:List RowP) (RA:Nat->Option Addr) (RC:Nat->Nat) (m0:Int) (w:World) (ho:Kinds w A f.kinds FA FC) (hl:RowsM w L rs RA RC) (hcp:f.kinds.length<=cp) (hf:checkF f=0) (hm:0<=f.mark/\f.mark<=255) (hq:0<=f.quote/\f.quote<=255) (ht:Tab w) (hM:w.cell? ⟨1,0,none⟩=some (.int .i64 m0)) (hn2:rs.length<=2000) (hrs:∀ j,j<rs.length->(rowF f (rA rs j)).2=0) (hT:(wrT f rs).length<=500000) :
  Calls Tryz.prog 10 #[fmtG f A cp,.slice L rs.length LC] w (RetWr (bs (wrT f rs)) w):=by
 have HCH:=Lib.hid (fun w' (hb:Below w.heap.size w w')=>check_c f A cp FA FC w' (ho.below hb) hcp hm hq)
 rw [hf] at HCH
 have HCR:=Lib.hid (fun j (hj:j<rs.length) w' (hb:Below w.heap.size w w')=>checkrow_c f A cp FA FC (rA rs j) (RA j) (RC j) w' (ho.below hb) ((hl.each j hj).below hb) hf hm (ht.below hb))
 have HLO:=Lib.hid (fun j (hj:j<rs.length) w' (hb:Below w.heap.size w w')=>lineof_c f A cp FA FC (rA rs j) (RA j) (RC j) m0 w' (ho.below hb) ((hl.each j hj).below hb) hf (hrs j hj) hm (ht.below hb) ((hb.cell (p:=⟨1,0,none⟩) (World.block_lt_of_cell? _ _ hM)).trans hM))
 have HL:=Lib.hid hl
 have HRS:=Lib.hid hrs
 have HTL:=Lib.hid (fun j=>Nat.le_trans (wrT_le (f:=f) (rs:=rs) j) hT)
 have HTK:=Lib.hid (fun j (h:j<rs.length)=>wrT_take (f:=f) h)
 have HTE:=Lib.hid (show wrT f (rs.take rs.length)=wrT f rs by rw [List.take_length])
 obtain ⟨E,hE⟩:∃ E,bs (wrT f rs)=E:=⟨_,rfl⟩
 have HE:=Lib.hid hE
 rw [hE]
 obtain ⟨TT,hTT⟩:∃ TT:Nat->List UInt8,(fun j=>wrT f (rs.take j))=TT:=⟨_,rfl⟩
 have hTa:∀ j,wrT f (rs.take j)=TT j:=fun j=>by rw [<- hTT]
 simp only [hTa] at HTL HTK HTE
 have HT0:=Lib.hid (show TT 0=[] by rw [<- hTT];rfl)
 obtain ⟨n,hn⟩:∃ n,rs.length=n:=⟨_,rfl⟩
 have HN:=Lib.hid hn
 obtain ⟨m,q,ks,hd,tl,ct,sm⟩:=f
 unfold fmtG at HCH HCR HLO ⊢
 simp only at HCH HCR HLO ⊢
 obtain ⟨nk,hnk⟩:∃ n,ks.length=n:=⟨_,rfl⟩
 rw [hnk] at HCH HCR HLO ⊢
 rw [hn] at hn2 HCR HLO HRS HTK HTE ⊢
 have hb0:=Lib.hid (show Below w.heap.size w (w.alloc (.cells #[.int .u8 m,.int .u8 q,.slice A nk cp,.string hd,.string tl,.string ct,.string sm] 44)) from (Below.refl _ _).alloc (Nat.le_refl _) _)
 have hX0:=Lib.hid (heap_new w (.cells #[.int .u8 m,.int .u8 q,.slice A nk cp,.string hd,.string tl,.string ct,.string sm] 44) rfl)
 clear ho hl hcp hf hm hq ht hM hrs hT hE hTT hTa hn hnk
 go_enter Tryz.func10,Tryz.ntmps10
 go_upto_region 1 with fail
 generalize w.alloc (.cells #[.int .u8 m,.int .u8 q,.slice A nk cp,.string hd,.string tl,.string ct,.string sm] 44)=w0 at hb0 hX0 ⊢
 have hX:=hX0.out
 obtain ⟨⟨x0,x1,x2,x3,x4,x5,x6⟩,x7⟩:=obox7 hX
 clear hX
 go_wp2_with fail
 refine (HCH.out w0 hb0.out).mono ?_
 rintro _ w1 ⟨rfl,hb1⟩
 have hX1:=Lib.hid (heap_below hX0.out hb1)
 have hB1:=Lib.hid (below_then hb1 hb0.out hb0.out.size)
 clear hb1 x0 x1 x2 x3 x4 x5 x6 x7
 have hD0:=Lib.hid (Bld.new w1)
 have hX2:=Lib.hid (heap_old hX1.out (.cells #[.pointer none,.slice none 0 0] 95))
 have hB2:=Lib.hid (hB1.out.alloc hB1.out.size (.cells #[.pointer none,.slice none 0 0] 95))
 obtain ⟨b,hb⟩:∃ b,w1.heap.size=b:=⟨_,rfl⟩
 have hwb:w.heap.size<b:=by rw [<- hb];exact lt_heap hX1.out
 rw [hb] at hD0
 have hn3:¬ (2000:Int)<(n:Int):=by omega
 go_wp2
 clear hb
 generalize w1.alloc (.cells #[.pointer none,.slice none 0 0] 95)=w2 at hD0 hX2 hB2 ⊢
 go_loopw [24] (fun i wr=>∃ k:Nat,k<=n/\i=.int .i64 (k:Int)/\Hid (Below w.heap.size w wr)/\Hid (wr.heap[w.heap.size]?=some (.cells #[.int .u8 m,.int .u8 q,.slice A nk cp,.string hd,.string tl,.string ct,.string sm] 44 (0,0)))/\Hid (Bld wr b (TT k))) (fun i _=>n-(intOf i).toNat)
 case atStart=>exact ⟨0,Nat.zero_le _,rfl,hB2,hX2,Lib.hid (by rw [HT0.out];exact hD0.out)⟩
 case round=>
  obtain ⟨k,hk,rfl,HB,HX,HD⟩:=hrel
  rcases Nat.lt_or_ge k n with hlt | hge
  ·obtain ⟨rb,off,rfl,hrb,c0,c1⟩:=(HL.out.below HB.out).cells (show k<rs.length by rw [HN.out];exact hlt)
   have hX:=HX.out
   obtain ⟨⟨x0,x1,x2,x3,x4,x5,x6⟩,x7⟩:=obox7 hX
   clear hX
   have HCK:=Lib.hid (HCR.out k hlt)
   have HLK:=Lib.hid (HLO.out k hlt)
   have HRK:=Lib.hid (HRS.out k hlt)
   have HTS:=Lib.hid (HTK.out k hlt)
   rw [HRK.out] at HCK
   obtain ⟨r,hr⟩:∃ r,rA rs k=r:=⟨_,rfl⟩
   rw [hr] at c0 c1 HCK HLK HTS
   generalize RA k=RJ at c1 HCK HLK
   generalize RC k=CJ at c1 HCK HLK
   obtain ⟨Y,hY⟩:∃ y,(rowF ⟨m,q,ks,hd,tl,ct,sm⟩ r).1=y:=⟨_,rfl⟩
   obtain ⟨LL,hLL⟩:∃ y,lineL ⟨m,q,ks,hd,tl,ct,sm⟩ r=y:=⟨_,rfl⟩
   rw [hY] at HCK
   rw [hLL] at HLK HTS
   obtain ⟨rt,vs⟩:=r
   unfold rowG at HCK HLK
   simp only at c0 c1 HCK HLK
   obtain ⟨nv,hnv⟩:∃ x,vs.length=x:=⟨_,rfl⟩
   rw [hnv] at c1 HCK HLK
   clear hr hY hLL hnv
   have HRD:=Lib.hid (heap_new wr (.cells #[.string rt,.slice RJ nv CJ] 39) rfl)
   have HX3:=Lib.hid (heap_old HX.out (.cells #[.string rt,.slice RJ nv CJ] 39))
   have HBW:=Lib.hid (show Below wr.heap.size wr (wr.alloc (.cells #[.string rt,.slice RJ nv CJ] 39)) from (Below.refl _ _).alloc (Nat.le_refl _) _)
   have HB3:=Lib.hid (HB.out.alloc HB.out.size (.cells #[.string rt,.slice RJ nv CJ] 39))
   have HD3:=Lib.hid (HD.out.below HBW.out)
   have HNE:=Lib.hid (show wr.heap.size≠b by have:=HD.out.lt;omega)
   have HFE:=Lib.hid (show w.heap.size≠b by omega)
   obtain ⟨rg,hrg⟩:∃ x,wr.heap.size=x:=⟨_,rfl⟩
   rw [hrg] at HRD HNE
   go_upto_region 10 with fail
   try rw [hrg]
   generalize wr.alloc (.cells #[.string rt,.slice RJ nv CJ] 39)=w3 at HRD HX3 HB3 HD3 ⊢
   clear hrg c0 c1 hrb x0 x1 x2 x3 x4 x5 x6 x7 HBW
   have hX:=HX3.out
   have hR:=HRD.out
   obtain ⟨⟨x0,x1,x2,x3,x4,x5,x6⟩,x7⟩:=obox7 hX
   obtain ⟨r0,r1,r2,r3,r4⟩:=box2 hR
   clear hX hR
   go_wp2_with fail
   refine (HCK.out w3 HB3.out).mono ?_
   rintro _ w4 ⟨rfl,hb4⟩
   have HX4:=Lib.hid (heap_below HX3.out hb4)
   have HR4:=Lib.hid (heap_below HRD.out hb4)
   have HB4:=Lib.hid (below_then hb4 HB3.out HB3.out.size)
   have HD4:=Lib.hid (HD3.out.below hb4)
   clear hb4 x0 x1 x2 x3 x4 x5 x6 x7 r0 r1 r2 r3 r4
   have hX:=HX4.out
   have hR:=HR4.out
   obtain ⟨⟨x0,x1,x2,x3,x4,x5,x6⟩,x7⟩:=obox7 hX
   obtain ⟨r0,r1,r2,r3,r4⟩:=box2 hR
   clear hX hR
   have hle:((TT k).length:Int)<=500000:=by have:=HTL.out k;omega
   go_wp2_with fail
   refine (blen6_c b (TT k) w4 HD4.out).mono ?_
   rintro _ w5 ⟨rfl,rfl⟩
   have HLS:=Lib.hid (HLK.out w4 HB4.out)
   go_wp2_with fail
   refine HLS.out.mono ?_
   rintro _ w5 ⟨rfl,hb5⟩
   have HX5:=Lib.hid (heap_below HX4.out hb5)
   have HB5:=Lib.hid (below_then hb5 HB4.out HB4.out.size)
   have HD5:=Lib.hid (HD4.out.below hb5)
   have hlen:(TT k).length+(LL.length+1)<=500000:=by
    have h1:=HTL.out (k+1)
    rw [HTS.out,List.length_append,List.length_append,List.length_singleton] at h1
    exact h1
   have hbl:(bs LL).size=LL.length:=bs_size2 LL
   obtain ⟨SL,hSL⟩:∃ x,bs LL=x:=⟨_,rfl⟩
   rw [hSL] at hbl
   have HSL:=Lib.hid hSL
   rw [hSL]
   have hcc:¬ 9223372036854775807<SL.size+1:=by omega
   clear hb5 hSL x0 x1 x2 x3 x4 x5 x6 x7 r0 r1 r2 r3 r4
   go_wp2_with fail
   refine (write_c b (TT k) _ w5 HD5.out (by have e1:(⟨#[10]⟩:ByteArray).size=1:=rfl;simp;omega)).mono ?_
   rintro _ w6 ⟨rfl,hbd,hbz,hkp⟩
   have HX6:=Lib.hid (hkp _ _ _ _ HX5.out HFE.out (by decide))
   have HB6:=Lib.hid (HB5.out.trans (hbz.mono (Nat.le_of_lt hwb)))
   have HD6:=Lib.hid (show Bld w6 b (TT (k+1)) by
    rw [HTS.out]
    rw [show (SL++(⟨#[10]⟩:ByteArray)).data.toList=LL++[10] by rw [<- HSL.out];simp [bs]] at hbd
    exact hbd)
   clear hbd hbz hkp
   go_wp2
   go_roundw
   case rel=>exact ⟨k+1,by omega,by go_num,HB6,HX6,HD6⟩
   case measure=>simp [intOf];omega
  ·obtain rfl:k=n:=by omega
   have hle:¬ (500000:Int)<((TT k).length:Int):=by have:=HTL.out k;omega
   have HTE2:=Lib.hid (show bs (TT k)=E by rw [HTE.out];exact HE.out)
   go_wp2_with fail
   refine (blen6_c b (TT k) wr HD.out).mono ?_
   rintro _ w5 ⟨rfl,rfl⟩
   go_wp2_with fail
   refine (bstr_c b (TT k) wr HD.out).mono ?_
   rintro _ w6 ⟨rfl,hbz⟩
   have HBZ:=Lib.hid (HB.out.trans (hbz.mono (Nat.le_of_lt hwb)))
   rw [HTE2.out]
   clear hbz
   go_wp2_with fail
   refine bodyPost_ret (v:=.tuple #[.string E,.int .i64 0,.int .i64 0,.int .i64 0]) (by simp [results,Tryz.results10,go_sem]) rfl ⟨rfl,HBZ.out⟩
theorem idx_appT {g:UInt8} {b:List UInt8} : ∀ {a:List UInt8},g∉a->Lib.indexByte (a++g :: b) g=(a.length:Int)
 | [],_=>by
  rw [List.nil_append]
  unfold Lib.indexByte
  rw [if_pos (by simp)]
  rfl
 | x :: a,h=>by
  have hx:x≠g:=fun e=>h (by simp [e])
  rw [List.cons_append]
  unfold Lib.indexByte
  rw [if_neg (by simpa using hx),idx_appT (fun e=>h (List.mem_cons_of_mem _ e)),if_neg (by simp)]
  simp
theorem cut_hitT {a b:List UInt8} (h:(10:UInt8)∉a):Lib.cut (a++10 :: b) [10]=(a,b,true):=by
 unfold Lib.cut
 rw [Lib.index_one,idx_appT h,if_pos (by omega)]
 simp
theorem wrT_drop {f:Fmt} {rs:List RowP} {j:Nat} (h:j<rs.length):wrT f (rs.drop j)=lineL f (rA rs j)++(10 :: wrT f (rs.drop (j+1))):=by
 rw [List.drop_eq_getElem_cons h,rA_get h]
 unfold wrT
 simp
theorem wrT_dle {f:Fmt} {rs:List RowP} (j:Nat):(wrT f (rs.drop j)).length<=(wrT f rs).length:=by
 have:wrT f rs=wrT f (rs.take j)++wrT f (rs.drop j):=by
  unfold wrT
  rw [<- List.flatMap_append,List.take_append_drop]
 rw [this,List.length_append]
 omega
theorem RwsO.drewN {w1 wr:World} {X:Option Addr} {n c:Nat} {l:List RowP} (h:RwsO w1 wr X n c l) (q:Nat):RwsO w1 (wr.drewN q) X n c l:=h.below (below_drewN (Below.refl _ _) q)
def RetRf (rs:List RowP) (w:World) (e:Ending) (w':World):Prop:=∃ X c,e=.returned (.tuple #[.slice X rs.length c,.int .i64 0,.int .i64 0,.int .i64 0])/\rs.length<=c/\(∃ RA RC,RowsM w' X rs RA RC)/\Below w.heap.size w w'
set_option maxHeartbeats 4000000 in
set_option maxRecDepth 100000 in
theorem fread_c (f:Fmt) (A:Option Addr) (cp:Nat) (FA:Nat->Option Addr) (FC:Nat->Nat) (rs:List RowP) (m0:Int) (w:World) (ho:Kinds w A f.kinds FA FC) (hcp:f.kinds.length<=cp) (hf:checkF f=0) (hfx:f.mark=0) (hq:f.quote=0) (ht:Tab w) (hM:w.cell? ⟨1,0,none⟩=some (.int .i64 m0)) (hn2:rs.length<=2000)
  (hrs:∀ j,j<rs.length->lineO f (bs (lineL f (rA rs j)))=(rA rs j,0,0)/\(10:UInt8)∉lineL f (rA rs j)) (hT:(wrT f rs).length<=500000) :
  Calls Tryz.prog 11 #[fmtG f A cp,.string (bs (wrT f rs))] w (RetRf rs w):=by
 obtain ⟨i0,hi,hz0,hz1,hz2⟩:=info_parts Tryz.infoRow
 have hn0:0<f.kinds.length:=by
  unfold checkF at hf
  split at hf
  ·rename_i h;exact absurd hf h
  split at hf
  ·cases hf
  ·omega
 have HCH:=Lib.hid (fun w' (hb:Below w.heap.size w w')=>check_c f A cp FA FC w' (ho.below hb) hcp (by omega) (by omega))
 rw [hf] at HCH
 have HRL:=Lib.hid (fun line (hz:line.size<=9223372036854775807) w' (hb:Below w.heap.size w w')=>readline6_c f A cp FA FC line m0 w' (ho.below hb) hf hfx hz hn0 (by omega) (fun h=>absurd hfx h) (ht.below hb) ((hb.cell (p:=⟨1,0,none⟩) (World.block_lt_of_cell? _ _ hM)).trans hM))
 have HCU:=Lib.hid (fun s (hs:s.size<4294967281) w' (hb:Below w.heap.size w w')=>Tryz.strings_Cut s ⟨#[10]⟩ m0 w' hs ((hb.cell (p:=⟨1,0,none⟩) (World.block_lt_of_cell? _ _ hM)).trans hM))
 have HRS:=Lib.hid hrs
 have HTD:=Lib.hid (fun j (h:j<rs.length)=>wrT_drop (f:=f) h)
 have HTL:=Lib.hid (fun j=>Nat.le_trans (wrT_dle (f:=f) (rs:=rs) j) hT)
 obtain ⟨DT,hDT⟩:∃ DT:Nat->List UInt8,(fun j=>wrT f (rs.drop j))=DT:=⟨_,rfl⟩
 have hDa:∀ j,wrT f (rs.drop j)=DT j:=fun j=>by rw [<- hDT]
 simp only [hDa] at HTD HTL
 obtain ⟨LL,hLL⟩:∃ LL:Nat->List UInt8,(fun j=>lineL f (rA rs j))=LL:=⟨_,rfl⟩
 have hLa:∀ j,lineL f (rA rs j)=LL j:=fun j=>by rw [<- hLL]
 simp only [hLa] at HTD HRS
 rw [show wrT f rs=DT 0 by rw [<- hDT];rfl]
 have HDE:=Lib.hid (show DT rs.length=[] by rw [<- hDT];simp [wrT])
 obtain ⟨n,hn⟩:∃ n,rs.length=n:=⟨_,rfl⟩
 have HN:=Lib.hid hn
 unfold RetRf
 obtain ⟨m,q,ks,hd,tl,ct,sm⟩:=f
 unfold fmtG at HCH HRL ⊢
 simp only at HCH HRL ⊢
 obtain ⟨nk,hnk⟩:∃ n,ks.length=n:=⟨_,rfl⟩
 rw [hnk] at HCH HRL ⊢
 rw [hn] at hn2 HRS HTD HDE ⊢
 have hb0:=Lib.hid (show Below w.heap.size w (w.alloc (.cells #[.int .u8 m,.int .u8 q,.slice A nk cp,.string hd,.string tl,.string ct,.string sm] 44)) from (Below.refl _ _).alloc (Nat.le_refl _) _)
 have hX0:=Lib.hid (heap_new w (.cells #[.int .u8 m,.int .u8 q,.slice A nk cp,.string hd,.string tl,.string ct,.string sm] 44) rfl)
 have hs0:¬ (500000:Int)<((bs (DT 0)).size:Int):=by have:=HTL.out 0;rw [bs_size2];omega
 clear ho hcp hf hfx hq ht hM hrs hT hDT hDa hLL hLa hn hnk hn0
 go_enter Tryz.func11,Tryz.ntmps11
 go_upto_region 1 with fail
 generalize w.alloc (.cells #[.int .u8 m,.int .u8 q,.slice A nk cp,.string hd,.string tl,.string ct,.string sm] 44)=w0 at hb0 hX0 ⊢
 have hX:=hX0.out
 obtain ⟨⟨x0,x1,x2,x3,x4,x5,x6⟩,x7⟩:=obox7 hX
 clear hX
 go_wp2_with fail
 refine (HCH.out w0 hb0.out).mono ?_
 rintro _ w1 ⟨rfl,hb1⟩
 have hX1:=Lib.hid (heap_below hX0.out hb1)
 have hB1:=Lib.hid (below_then hb1 hb0.out hb0.out.size)
 have hws:=Lib.hid (lt_heap hX1.out)
 clear hb1 x0 x1 x2 x3 x4 x5 x6 x7
 go_wp2_with fail
 go_loopw [1,9] (fun t o wr=>∃ (j:Nat) (X:Option Addr) (c:Nat),j<=n/\t=.string (bs (DT j))/\o=.slice X j c/\Hid (RwsO w1 wr X j c (rs.take j))) (fun t _ _=>match t with | .string s=>s.size | _=>0)
 case atStart=>exact ⟨0,none,0,Nat.zero_le _,rfl,rfl,Lib.hid (RwsO.nil w1 (Below.refl _ _))⟩
 case round=>
  obtain ⟨j,X,c,hj,rfl,rfl,HO⟩:=hrel
  rcases Nat.lt_or_ge j n with hlt | hge
  ·have HDJ:=Lib.hid (HTD.out j hlt)
   have hne:(bs (DT j)).toList.isEmpty=false:=by
    rw [emp_dec]
    refine decide_eq_false fun e=>?_
    have h1:=congrArg (fun x:ByteArray=>x.data.toList) e
    rw [show (bs (DT j)).data.toList=DT j from bs_data _,HDJ.out] at h1
    simp at h1
   have HTZ:=Lib.hid (HTL.out j)
   have HB:=Lib.hid (below_then HO.out.bel hB1.out hB1.out.size)
   have HC:=Lib.hid (HCU.out (bs (DT j)) (by have:=HTZ.out;rw [bs_size2];omega) wr HB.out)
   have hcv:Lib.cut (bs (DT j)).data.toList [10]=(LL j,DT (j+1),true):=by
    rw [show (bs (DT j)).data.toList=DT j from bs_data _,HDJ.out,cut_hitT (HRS.out j hlt).2]
   rw [hcv] at HC
   simp only at HC
   clear hcv
   have HRJ:=Lib.hid (HRL.out (bs (LL j)) (by have:=HTZ.out;rw [HDJ.out,List.length_append] at this;rw [bs_size2];omega))
   have HRE:=Lib.hid (HRS.out j hlt).1
   obtain ⟨s,hs⟩:∃ s,bs (DT j)=s:=⟨_,rfl⟩
   obtain ⟨u,hu⟩:∃ u,bs (LL j)=u:=⟨_,rfl⟩
   obtain ⟨v,hv⟩:∃ v,bs (DT (j+1))=v:=⟨_,rfl⟩
   have HLE:=Lib.hid (show v.size<s.size by
    rw [<- hs,<- hv,bs_size2,bs_size2,HDJ.out]
    simp only [List.length_append,List.length_cons]
    omega)
   rw [show (⟨(LL j).toArray⟩:ByteArray)=u from hu,show (⟨(DT (j+1)).toArray⟩:ByteArray)=v from hv,hs] at HC
   rw [hu] at HRJ HRE
   rw [hs] at hne ⊢
   have HV:=Lib.hid hv
   have hjn:¬ (j:Int)=2000:=by omega
   have hjb:((j:Int)==2000)=false:=by simpa using hjn
   rw [HRE.out] at HRJ
   have HTK:=Lib.hid (show rs.take (j+1)=rs.take j++[rA rs j] from by rw [List.take_succ_eq_append_getElem (by rw [HN.out];exact hlt),rA_get])
   obtain ⟨r,hr⟩:∃ r,rA rs j=r:=⟨_,rfl⟩
   rw [hr] at HRJ HTK
   clear hs hu hv hr HTZ
   go_wp2_with fail
   refine HC.out.mono ?_
   rintro _ w2 ⟨rfl,nq,rfl⟩
   have HO2:=Lib.hid (HO.out.drewN nq)
   have HB2:=Lib.hid (show Below w.heap.size w (wr.drewN nq) from below_drewN HB.out nq)
   have HX2:=Lib.hid (heap_below hX1.out HO2.out.bel)
   generalize wr.drewN nq=w2 at HO2 HB2 HX2 ⊢
   have hX:=HX2.out
   obtain ⟨⟨x0,x1,x2,x3,x4,x5,x6⟩,x7⟩:=obox7 hX
   clear hX
   have HRW:=Lib.hid (HRJ.out w2 HB2.out)
   go_wp2_with fail
   refine HRW.out.mono ?_
   rintro _ w3 ⟨RA,RC,rfl,hrs3,hb3⟩
   have HO3:=Lib.hid (HO2.out.below hb3)
   have HRS3:=Lib.hid hrs3
   clear hb3 hrs3 x0 x1 x2 x3 x4 x5 x6 x7
   obtain ⟨rt,vs⟩:=r
   unfold rowG
   dsimp only
   obtain ⟨nv,hnv⟩:∃ x,vs.length=x:=⟨_,rfl⟩
   have HNV:=Lib.hid hnv
   rw [hnv]
   clear hnv
   have HRD:=Lib.hid (heap_new w3 (.cells #[.string rt,.slice RA nv RC] 39) rfl)
   have HB4:=Lib.hid (show Below w3.heap.size w3 (w3.alloc (.cells #[.string rt,.slice RA nv RC] 39)) from (Below.refl _ _).alloc (Nat.le_refl _) _)
   have HO4:=Lib.hid (HO3.out.below HB4.out)
   have HRS4:=Lib.hid (show RowS (w3.alloc (.cells #[.string rt,.slice RA nv RC] 39)) ⟨rt,vs⟩ RA RC from ⟨HRS3.out.vals.below HB4.out,HRS3.out.len,HRS3.out.size,HRS3.out.tag⟩)
   go_upto_region 15 with fail
   obtain ⟨g,hg⟩:∃ x,w3.heap.size=x:=⟨_,rfl⟩
   rw [hg] at HRD
   try rw [hg]
   generalize w3.alloc (.cells #[.string rt,.slice RA nv RC] 39)=w4 at HRD HO4 HRS4 ⊢
   clear hg HB4
   have hR:=HRD.out
   obtain ⟨r0,r1,r2,r3,r4⟩:=box2 hR
   obtain ⟨RA8,RC8,g1,g2,g3,g4⟩:=HO4.out
   have hz4:=g4.size
   have G1:=Lib.hid g1;have G2:=Lib.hid g2;have G3:=Lib.hid g3;have G4:=Lib.hid g4
   clear hR g1 g2 g3 g4
   go_upto_region 18 with (at_builtin;refine wpList_zpush rfl _ _ 28 rfl w1.heap.size 39 i0 (.agg #[.string ⟨#[]⟩,.slice none 0 0]) 2 40 Tryz.underlying28 hi hz0 hz1 hz2 rfl (by decide) (.slice X j c) j (rowsC 2 j (rowV (rs.take j) RA8 RC8)) rfl G2.out [.string rt,.slice RA nv RC] rfl rfl (by intro u hu;simp at hu;rcases hu with rfl | rfl<;>rfl) (by unfold maxLen;omega) (by omega) hz4 ?_;intro X9 c9 w9 hown9 hg9)
   have HO9:=Lib.hid (show RwsO w1 w9 X9 (j+1) c9 (rs.take (j+1)) by
    rw [HTK.out]
    refine RwsO.push G1.out G2.out G3.out G4.out HRS4.out ?_ hg9
    unfold rwL
    simp only
    rw [HNV.out]
    exact hown9)
   have HLE2:=HLE.out
   clear hown9 hg9
   go_wp2
   go_roundw
   case rel=>exact ⟨j+1,X9,c9,by omega,by rw [HV.out],rfl,HO9⟩
   case measure=>exact HLE.out
  ·obtain rfl:j=n:=by omega
   have hne:(bs (DT j)).toList.isEmpty=true:=by
    rw [emp_dec,HDE.out]
    exact decide_eq_true rfl
   have HTE:=Lib.hid (show rs.take j=rs by rw [<- HN.out,List.take_length])
   rw [HTE.out] at HO
   have HB:=Lib.hid (below_then HO.out.bel hB1.out hB1.out.size)
   have HRM:=Lib.hid HO.out.rowsM
   have hcap:=own_cap HO.out.choose_spec.choose_spec.2.1
   have HCP:=Lib.hid hcap.1
   clear hcap
   go_wp2_with fail
   refine bodyPost_ret (v:=.tuple #[.slice X j c,.int .i64 0,.int .i64 0,.int .i64 0]) (by simp [results,Tryz.results11,go_sem]) rfl ⟨X,c,rfl,HCP.out,HRM.out,HB.out⟩
end Go.Proofs.YtbfbgappinilmaaGreatDoor
