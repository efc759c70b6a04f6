/- The walks of the program's columnOf and Column. (Printed by genY2.py.) The walk of the program's Column. (Printed by genY2.py.) -/
import Derived.Test.YtbfbgappinilmaaGreatDoorY1
import Derived.Test.YtbfbgappinilmaaGreatDoorYP
-- merged: Y2 Y3
namespace Go.Proofs.YtbfbgappinilmaaGreatDoor
open Go.RowKit Limb Nmb Work
set_option linter.unusedVariables false
set_option linter.unusedSimpArgs false
theorem cb_set {w:World} {g:Nat} {a b c d e f i j a' b' c' d' e' f' i' j':Value} {T:TypeId} (h:w.heap[g]?=some (.cells #[a',b',c',d',e',f',i',j'] T (0,0))) :
  ((((((((w.setCell ⟨g,0,none⟩ a).setCell ⟨g,1,none⟩ b).setCell ⟨g,2,none⟩ c).setCell ⟨g,3,none⟩ d).setCell ⟨g,4,none⟩ e).setCell ⟨g,5,none⟩ f).setCell ⟨g,6,none⟩ i).setCell ⟨g,7,none⟩ j).heap[g]?=some (.cells #[a,b,c,d,e,f,i,j] T (0,0)):=by
 have:=heap_set (heap_set (heap_set (heap_set (heap_set (heap_set (heap_set (heap_set h 0 a) 1 b) 2 c) 3 d) 4 e) 5 f) 6 i) 7 j
 simpa using this
theorem cb_below {B:Nat} {w w':World} {g:Nat} {a b c d e f i j:Value} (h:Below B w w') (hg:B<=g):Below B w ((((((((w'.setCell ⟨g,0,none⟩ a).setCell ⟨g,1,none⟩ b).setCell ⟨g,2,none⟩ c).setCell ⟨g,3,none⟩ d).setCell ⟨g,4,none⟩ e).setCell ⟨g,5,none⟩ f).setCell ⟨g,6,none⟩ i).setCell ⟨g,7,none⟩ j) :=
 (((((((h.setCell (p:=⟨g,0,none⟩) hg _).setCell (p:=⟨g,1,none⟩) hg _).setCell (p:=⟨g,2,none⟩) hg _).setCell (p:=⟨g,3,none⟩) hg _).setCell (p:=⟨g,4,none⟩) hg _).setCell (p:=⟨g,5,none⟩) hg _).setCell (p:=⟨g,6,none⟩) hg _).setCell (p:=⟨g,7,none⟩) hg _
theorem cfz8 {w:World} {g:Nat} {a b c d e f i j:Value} {T:TypeId} (h:w.heap[g]?=some (.cells #[a,b,c,d,e,f,i,j] T (0,0))) :
  (w.frozen? ⟨g,0,none⟩=false/\w.frozen? ⟨g,1,none⟩=false/\w.frozen? ⟨g,2,none⟩=false/\w.frozen? ⟨g,3,none⟩=false/\w.frozen? ⟨g,4,none⟩=false/\w.frozen? ⟨g,5,none⟩=false/\w.frozen? ⟨g,6,none⟩=false/\w.frozen? ⟨g,7,none⟩=false):=by
 obtain ⟨h1,h2,h3⟩:=obox h
 exact ⟨h2 0 (by simp),h2 1 (by simp),h2 2 (by simp),h2 3 (by simp),h2 4 (by simp),h2 5 (by simp),h2 6 (by simp),h2 7 (by simp)⟩
def RetCO (x:Int×Col×Int) (w:World) (e:Ending) (w':World):Prop:=e=.returned (.tuple #[.int .i64 x.1,colG x.2.1,.int .i64 x.2.2])/\Below w.heap.size w w'
set_option maxHeartbeats 4000000 in
set_option maxRecDepth 100000 in
theorem columnof_c (f:Fmt) (A:Option Addr) (cp:Nat) (FA:Nat->Option Addr) (FC:Nat->Nat) (L:Option Addr) (LC:Nat) (rs:List RowP) (RA:Nat->Option Addr) (RC:Nat->Nat) (tag name:ByteArray) (w:World) (ho:Kinds w A f.kinds FA FC) (hl:RowsM w L rs RA RC) (hcp:f.kinds.length<=cp) (hm:0<=f.mark/\f.mark<=255) (hq:0<=f.quote/\f.quote<=255) (ht:Tab w) :
  Calls Tryz.prog 52 #[fmtG f A cp,.slice L rs.length LC,.string tag,.string name] w (RetCO (colAtF f rs tag name) w):=by
 have HRF:=Lib.hid (fun w h h2 ht=>rowsfault_c f A cp FA FC L LC rs RA RC w h h2 hcp hm hq ht)
 have HKA:=Lib.hid (fun w h=>kindat_c f A cp FA FC tag w h)
 have HCS:=Lib.hid (kat_cases f FA FC tag)
 have HKI:=Lib.hid ho;have HLM:=Lib.hid hl;have HTB:=Lib.hid ht
 obtain ⟨X,hX⟩:∃ x,askF f rs=x:=⟨_,rfl⟩
 obtain ⟨R,hR⟩:∃ x,colAtF f rs tag name=x:=⟨_,rfl⟩
 have HR:=Lib.hid (show (if X≠0 then (0,col0,X) else if katI f tag<0 then (0,col0,5) else if ixF (nameIs name) (katK f tag).fields<0 then (0,col0,5) else (ixF (nameIs name) (katK f tag).fields,cA (katK f tag).fields (ixF (nameIs name) (katK f tag).fields).toNat,(0:Int)))=R by rw [<- hR];unfold colAtF;rw [hX])
 rw [hX] at HRF
 rw [hR]
 unfold RetI at HRF
 clear ho hl ht hX hR
 obtain ⟨m,q,ks,hd,tl,ct,sm⟩:=f
 unfold fmtG at HRF HKA ⊢
 simp only at HRF HKA HCS HR HKI hcp ⊢
 obtain ⟨n,hn⟩:∃ x,ks.length=x:=⟨_,rfl⟩
 have HN:=Lib.hid hn
 rw [hn] at HRF HKA hcp ⊢
 clear hn
 obtain ⟨nr,hnr⟩:∃ x,rs.length=x:=⟨_,rfl⟩
 rw [hnr] at HRF ⊢
 clear hnr
 have hF0:=heap_old (heap_new w (.cells #[.int .u8 m,.int .u8 q,.slice A n cp,.string hd,.string tl,.string ct,.string sm] 44) rfl) (.cells #[.string ⟨#[]⟩,.int .i64 0,.int .i64 0,.int .i64 0,.int .i64 0,.bool false,.int .u8 0,.bool false] 91)
 have hZ0:=heap_new (w.alloc (.cells #[.int .u8 m,.int .u8 q,.slice A n cp,.string hd,.string tl,.string ct,.string sm] 44)) (.cells #[.string ⟨#[]⟩,.int .i64 0,.int .i64 0,.int .i64 0,.int .i64 0,.bool false,.int .u8 0,.bool false] 91) (g:=w.heap.size+1) (by simp)
 have hB0:Below w.heap.size w ((w.alloc (.cells #[.int .u8 m,.int .u8 q,.slice A n cp,.string hd,.string tl,.string ct,.string sm] 44)).alloc (.cells #[.string ⟨#[]⟩,.int .i64 0,.int .i64 0,.int .i64 0,.int .i64 0,.bool false,.int .u8 0,.bool false] 91)):=by go_grown
 go_enter Tryz.func52,Tryz.ntmps52
 obtain ⟨⟨f0,f1,f2,f3,f4,f5,f6⟩,f7⟩:=obox7 hF0
 go_wp2_with fail
 refine (HRF.out _ (HKI.out.below hB0) (HLM.out.below hB0) (HTB.out.below hB0)).mono ?_
 rintro _ w2 ⟨rfl,hb2⟩
 have HF2:=Lib.hid (heap_below hF0 hb2)
 have HZ2:=Lib.hid (heap_below hZ0 hb2)
 have hB2:=below_then hb2 hB0 hB0.size
 clear hF0 hZ0 hb2 f0 f1 f2 f3 f4 f5 f6 f7 hB0
 have HB2:=Lib.hid hB2
 obtain ⟨⟨f0,f1,f2,f3,f4,f5,f6⟩,f7⟩:=obox7 HF2.out
 obtain ⟨⟨z0,z1,z2,z3,z4,z5,z6,z7⟩,z8⟩:=obox8 HZ2.out
 obtain ⟨y0,y1,y2,y3,y4,y5,y6,y7⟩:=cfz8 HZ2.out
 by_cases h0:X=0
 case neg=>
  have HE:=Lib.hid (show R=(0,col0,X) by rw [<- HR.out,if_pos h0])
  have h0a:(X !=0)=true:=by simpa using h0
  clear h0 f0 f1 f2 f3 f4 f5 f6 f7
  go_upto_region 2 with fail
  obtain ⟨⟨r0,r1,r2,r3,r4,r5,r6,r7⟩,-⟩:=obox8 (cb_set (a:=.string ⟨#[]⟩) (b:=.int .i64 0) (c:=.int .i64 0) (d:=.int .i64 0) (e:=.int .i64 0) (f:=.bool false) (i:=.int .u8 0) (j:=.bool false) HZ2.out)
  repeat (first | go_skip | go_guarded | go_step | go_upon | go_values)
  exact bodyPost_ret (v:=.tuple #[.int .i64 0,.agg #[.string ⟨#[]⟩,.int .i64 0,.int .i64 0,.int .i64 0,.int .i64 0,.bool false,.int .u8 0,.bool false],.int .i64 X]) (by simp [results,Tryz.results52,go_sem,r0,r1,r2,r3,r4,r5,r6,r7]) rfl ⟨by rw [HE.out];rfl,cb_below HB2.out (by show w.heap.size<=w.heap.size+1;omega)⟩
 subst h0
 go_wp2_with fail
 refine (HKA.out _ (HKI.out.below HB2.out)).mono ?_
 rintro _ w3 ⟨rfl,hb3⟩
 have HZ3:=Lib.hid (heap_below HZ2.out hb3)
 have HB3:=Lib.hid (below_then hb3 HB2.out HB2.out.size)
 clear f0 f1 f2 f3 f4 f5 f6 f7 z0 z1 z2 z3 z4 z5 z6 z7 z8 y0 y1 y2 y3 y4 y5 y6 y7 hB2 HF2 hb3
 rcases HCS.out with ⟨h1,h2,h3,h4⟩|⟨k,hk,h1,h2,h3,h4⟩
 ·have HE:=Lib.hid (show R=(0,col0,5) by rw [<- HR.out,if_neg (by simp),if_pos (by rw [h1];decide)])
  rw [h1,h2,h3,h4]
  have hdec:decide ((0:Int) <= -1)=false:=by decide
  rw [hdec]
  unfold kindG
  simp only [kind0,List.length_nil]
  have HZ4:=Lib.hid (heap_old HZ3.out (.cells #[.string ⟨#[]⟩,.slice none 0 0,.int .i64 0,.string ⟨#[]⟩] 83))
  have HB4:Hid (Below w.heap.size w (w3.alloc (.cells #[.string ⟨#[]⟩,.slice none 0 0,.int .i64 0,.string ⟨#[]⟩] 83))):=Lib.hid (HB3.out.alloc HB3.out.size _)
  clear h1 h2 h3 h4 hdec
  go_upto_region 5 with fail
  generalize w3.alloc (.cells #[.string ⟨#[]⟩,.slice none 0 0,.int .i64 0,.string ⟨#[]⟩] 83)=w4 at HZ4 HB4 ⊢
  obtain ⟨⟨z0,z1,z2,z3,z4,z5,z6,z7⟩,z8⟩:=obox8 HZ4.out
  obtain ⟨y0,y1,y2,y3,y4,y5,y6,y7⟩:=cfz8 HZ4.out
  obtain ⟨⟨r0,r1,r2,r3,r4,r5,r6,r7⟩,-⟩:=obox8 (cb_set (a:=.string ⟨#[]⟩) (b:=.int .i64 0) (c:=.int .i64 0) (d:=.int .i64 0) (e:=.int .i64 0) (f:=.bool false) (i:=.int .u8 0) (j:=.bool false) HZ4.out)
  repeat (first | go_skip | go_guarded | go_step | go_upon | go_values)
  exact bodyPost_ret (v:=.tuple #[.int .i64 0,.agg #[.string ⟨#[]⟩,.int .i64 0,.int .i64 0,.int .i64 0,.int .i64 0,.bool false,.int .u8 0,.bool false],.int .i64 5]) (by simp [results,Tryz.results52,go_sem,r0,r1,r2,r3,r4,r5,r6,r7]) rfl ⟨by rw [HE.out];rfl,cb_below HB4.out (by show w.heap.size<=w.heap.size+1;omega)⟩
 have hk0:¬ katI ⟨m,q,ks,hd,tl,ct,sm⟩ tag<0:=by rw [h1];omega
 have HCO:=Lib.hid ((HKI.out).2.2 k hk)
 have HR2:=Lib.hid (show (if ixF (nameIs name) (kA ks k).fields<0 then (0,col0,5) else (ixF (nameIs name) (kA ks k).fields,cA (kA ks k).fields (ixF (nameIs name) (kA ks k).fields).toNat,(0:Int)))=R by
  have h:=HR.out
  rw [if_neg (fun h:(0:Int)≠0=>h rfl),if_neg hk0,h2] at h
  exact h)
 rw [h1,h2,h3,h4]
 have hdec:decide ((0:Int)<=(k:Int))=true:=decide_eq_true (by omega)
 rw [hdec]
 have HCA:=Lib.hid (fun w h=>colat_c (kA ks k) (FA k) (FC k) name w h)
 have HIX:=Lib.hid (ixF_spec (nameIs name) (kA ks k).fields)
 obtain ⟨K,hK⟩:∃ x,kA ks k=x:=⟨_,rfl⟩
 rw [hK] at HCO HR2 HCA HIX ⊢
 clear h1 h2 h3 h4 hdec hK hk0 hk
 obtain ⟨kt,fs,km,ku⟩:=K
 unfold kindG at HCA ⊢
 simp only at HCO HR2 HCA HIX ⊢
 obtain ⟨KA,hKA⟩:∃ x,FA k=x:=⟨_,rfl⟩
 obtain ⟨KC,hKC⟩:∃ x,FC k=x:=⟨_,rfl⟩
 obtain ⟨nf,hnf⟩:∃ x,fs.length=x:=⟨_,rfl⟩
 have HNF:=Lib.hid hnf
 rw [hKA,hKC] at HCO HCA ⊢
 rw [hnf] at HCO HCA ⊢
 have hnfc:nf<=KC:=HCO.out.2
 have hnfb:nf<=9223372036854775807:=by rw [<- hnf];exact HCO.out.1.1.2
 clear hnf hKA hKC
 have HZ4:=Lib.hid (heap_old HZ3.out (.cells #[.string kt,.slice KA nf KC,.int .i64 km,.string ku] 83))
 have HK4:=Lib.hid (heap_new w3 (.cells #[.string kt,.slice KA nf KC,.int .i64 km,.string ku] 83) rfl)
 have HB4:Hid (Below w.heap.size w (w3.alloc (.cells #[.string kt,.slice KA nf KC,.int .i64 km,.string ku] 83))):=Lib.hid (HB3.out.alloc HB3.out.size _)
 go_upto_region 5 with fail
 obtain ⟨k0,hk0⟩:∃ x,w3.heap.size=x:=⟨_,rfl⟩
 rw [hk0] at HK4 ⊢
 generalize w3.alloc (.cells #[.string kt,.slice KA nf KC,.int .i64 km,.string ku] 83)=w4 at HZ4 HB4 HK4 ⊢
 clear hk0 HZ3 HB3
 obtain ⟨⟨s0,s1,s2,s3⟩,-,s4⟩:=obox4 HK4.out
 go_wp2_with fail
 refine (HCA.out _ (HCO.out.1.below HB4.out)).mono ?_
 rintro _ w5 ⟨rfl,hb5⟩
 have HZ5:=Lib.hid (heap_below HZ4.out hb5);have HK5:=Lib.hid (heap_below HK4.out hb5);have HB5:=Lib.hid (below_then hb5 HB4.out HB4.out.size)
 clear s0 s1 s2 s3 s4 HZ4 HK4 HB4 hb5
 obtain ⟨⟨s0,s1,s2,s3⟩,-,s4⟩:=obox4 HK5.out
 obtain ⟨⟨z0,z1,z2,z3,z4,z5,z6,z7⟩,z8⟩:=obox8 HZ5.out
 obtain ⟨y0,y1,y2,y3,y4,y5,y6,y7⟩:=cfz8 HZ5.out
 rcases HIX.out with ⟨h1,-⟩|⟨i,hi,h1,-,-⟩
 ·have HE:=Lib.hid (show R=(0,col0,5) by rw [<- HR2.out,if_pos (by rw [h1];decide)])
  rw [h1]
  clear h1
  go_upto_region 8 with fail
  obtain ⟨⟨r0,r1,r2,r3,r4,r5,r6,r7⟩,-⟩:=obox8 (cb_set (a:=.string ⟨#[]⟩) (b:=.int .i64 0) (c:=.int .i64 0) (d:=.int .i64 0) (e:=.int .i64 0) (f:=.bool false) (i:=.int .u8 0) (j:=.bool false) HZ5.out)
  repeat (first | go_skip | go_guarded | go_step | go_upon | go_values)
  exact bodyPost_ret (v:=.tuple #[.int .i64 0,.agg #[.string ⟨#[]⟩,.int .i64 0,.int .i64 0,.int .i64 0,.int .i64 0,.bool false,.int .u8 0,.bool false],.int .i64 5]) (by simp [results,Tryz.results52,go_sem,r0,r1,r2,r3,r4,r5,r6,r7]) rfl ⟨by rw [HE.out];rfl,cb_below HB5.out (by show w.heap.size<=w.heap.size+1;omega)⟩
 ·have hin:i<nf:=by rw [<- HNF.out];exact hi
  have HE:=Lib.hid (show R=((i:Int),cA fs i,0) by rw [<- HR2.out,if_neg (by rw [h1];omega),h1];rfl)
  rw [h1]
  obtain ⟨cb,off,rfl,hbw,c0,c1,c2,c3,c4,c5,c6,c7⟩:=(HCO.out.1.below HB5.out).cells (j:=i) hi
  obtain ⟨co,hco⟩:∃ x,cA fs i=x:=⟨_,rfl⟩
  rw [hco] at HE c0 c1 c2 c3 c4 c5 c6 c7
  clear h1 hco hi
  obtain ⟨nm,kd,wi,pl,fm,rt,fl,nd⟩:=co
  simp only at c0 c1 c2 c3 c4 c5 c6 c7
  have hi0:¬ (i:Int)<0:=by omega
  go_upto_region 10 with fail
  go_region
  have hz0:(((((((((w5.setCell ⟨w.heap.size+1,0,none⟩ (.string nm)).setCell ⟨w.heap.size+1,1,none⟩ (.int .i64 kd)).setCell ⟨w.heap.size+1,2,none⟩ (.int .i64 wi)).setCell ⟨w.heap.size+1,3,none⟩ (.int .i64 pl)).setCell ⟨w.heap.size+1,4,none⟩ (.int .i64 fm)).setCell ⟨w.heap.size+1,5,none⟩ (.bool rt)).setCell ⟨w.heap.size+1,6,none⟩ (.int .u8 fl)).setCell ⟨w.heap.size+1,7,none⟩ (.bool nd))).heap[w.heap.size+1]?=some (.cells #[.string nm,.int .i64 kd,.int .i64 wi,.int .i64 pl,.int .i64 fm,.bool rt,.int .u8 fl,.bool nd] 91 (0,0)):=cb_set (a:=.string nm) (b:=.int .i64 kd) (c:=.int .i64 wi) (d:=.int .i64 pl) (e:=.int .i64 fm) (f:=.bool rt) (i:=.int .u8 fl) (j:=.bool nd) HZ5.out
  have hb0:Below w.heap.size w (((((((((w5.setCell ⟨w.heap.size+1,0,none⟩ (.string nm)).setCell ⟨w.heap.size+1,1,none⟩ (.int .i64 kd)).setCell ⟨w.heap.size+1,2,none⟩ (.int .i64 wi)).setCell ⟨w.heap.size+1,3,none⟩ (.int .i64 pl)).setCell ⟨w.heap.size+1,4,none⟩ (.int .i64 fm)).setCell ⟨w.heap.size+1,5,none⟩ (.bool rt)).setCell ⟨w.heap.size+1,6,none⟩ (.int .u8 fl)).setCell ⟨w.heap.size+1,7,none⟩ (.bool nd))):=cb_below HB5.out (by show w.heap.size<=w.heap.size+1;omega)
  generalize ((((((((w5.setCell ⟨w.heap.size+1,0,none⟩ (.string nm)).setCell ⟨w.heap.size+1,1,none⟩ (.int .i64 kd)).setCell ⟨w.heap.size+1,2,none⟩ (.int .i64 wi)).setCell ⟨w.heap.size+1,3,none⟩ (.int .i64 pl)).setCell ⟨w.heap.size+1,4,none⟩ (.int .i64 fm)).setCell ⟨w.heap.size+1,5,none⟩ (.bool rt)).setCell ⟨w.heap.size+1,6,none⟩ (.int .u8 fl)).setCell ⟨w.heap.size+1,7,none⟩ (.bool nd))=w8 at hz0 hb0 ⊢
  have hz:w8.drew.heap[w.heap.size+1]?=some (.cells #[.string nm,.int .i64 kd,.int .i64 wi,.int .i64 pl,.int .i64 fm,.bool rt,.int .u8 fl,.bool nd] 91 (0,0)):=by exact hz0
  have hbz:Below w.heap.size w w8.drew:=hb0.drew
  generalize w8.drew=w9 at hz hbz ⊢
  clear z0 z1 z2 z3 z4 z5 z6 z7 z8 y0 y1 y2 y3 y4 y5 y6 y7 c0 c1 c2 c3 c4 c5 c6 c7 s0 s1 s2 s3 s4
  obtain ⟨⟨r0,r1,r2,r3,r4,r5,r6,r7⟩,-⟩:=obox8 hz
  go_wp2
  exact bodyPost_ret (v:=.tuple #[.int .i64 (i:Int),.agg #[.string nm,.int .i64 kd,.int .i64 wi,.int .i64 pl,.int .i64 fm,.bool rt,.int .u8 fl,.bool nd],.int .i64 0]) (by simp [results,Tryz.results52,go_sem,r0,r1,r2,r3,r4,r5,r6,r7]) rfl ⟨by rw [HE.out];rfl,hbz⟩
def RetCol (R:List ByteArray×Int) (w:World) (e:Ending) (w':World):Prop:=∃ A c,e=.returned (.tuple #[.slice A R.1.length c,.int .i64 R.2])/\Svs w' A R.1/\R.1.length<=c/\c<=9223372036854775807/\Below w.heap.size w w'
theorem RetCol.no {R:List ByteArray×Int} {w w':World} {x:Int} (h:R=([],x)) (hb:Below w.heap.size w w'):RetCol R w (.returned (.tuple #[.slice none 0 0,.int .i64 x])) w':=by
 subst h
 exact ⟨none,0,rfl,fun h=>absurd h (Nat.not_lt_zero _),Nat.le_refl 0,by omega,hb⟩
theorem RetCol.own {R:List ByteArray×Int} {w w':World} {B:Nat} {A:Option Addr} {n c:Nat} {L:List ByteArray} (h:R=(L,0)) (hn:L.length=n) (ho:w'.ownsRow B 9 1 (.slice A n c) n (ystrV L)) (hb:Below w.heap.size w w'):RetCol R w (.returned (.tuple #[.slice A n c,.int .i64 0])) w':=by
 subst h
 have hc:=own_cap ho
 refine ⟨A,c,by rw [<- hn],fun h0=>?_,by rw [hn];exact hc.1,hc.2,hb⟩
 obtain ⟨g,e,hs,-,-⟩:=yown_sts ho (by rw [<- hn];exact h0)
 subst e
 exact hs.svs h0
theorem town_ge2 {w:World} {B E n size:Nat} {v:Value} {xs:List Value} (hown:w.ownsRow B E size v n xs):∀ g,v.ownBlock=some g->B<=g:=town_ge hown
set_option maxHeartbeats 4000000 in
set_option maxRecDepth 100000 in
theorem Column6_c (f:Fmt) (A:Option Addr) (cp:Nat) (FA:Nat->Option Addr) (FC:Nat->Nat) (L:Option Addr) (LC:Nat) (rs:List RowP) (RA:Nat->Option Addr) (RC:Nat->Nat) (tag name:ByteArray) (w:World) (ho:Kinds w A f.kinds FA FC) (hl:RowsM w L rs RA RC) (hcp:f.kinds.length<=cp) (hm:0<=f.mark/\f.mark<=255) (hq:0<=f.quote/\f.quote<=255) (ht:Tab w) :
  Calls Tryz.prog 17 #[fmtG f A cp,.slice L rs.length LC,.string tag,.string name] w (RetCol (columnR f rs tag name) w):=by
 have HCO:=Lib.hid (fun w h h2 ht=>columnof_c f A cp FA FC L LC rs RA RC tag name w h h2 hcp hm hq ht)
 have HOK:=Lib.hid (fun h=>askF_ok (f:=f) (rs:=rs) h)
 have HKI:=Lib.hid ho;have HLM:=Lib.hid hl;have HTB:=Lib.hid ht
 have HCC:=Lib.hid (kat_cases f FA FC tag)
 obtain ⟨⟨i,co,x⟩,hX⟩:∃ y,colAtF f rs tag name=y:=⟨_,rfl⟩
 have HX:=Lib.hid hX
 rw [hX] at HCO
 obtain ⟨R,hR⟩:∃ x,columnR f rs tag name=x:=⟨_,rfl⟩
 have HR:=Lib.hid (show (if x≠0 then ([],x) else (valsC rs tag i.toNat rs.length,(0:Int)))=R by rw [<- hR];unfold columnR;rw [hX])
 rw [hR]
 unfold RetCO at HCO
 simp only at HCO
 clear ho hl ht hX hR
 have HF0:=Lib.hid (show ∀ h:x=0,checkF f=0/\rs.length<=2000/\0<=i/\∀ j,j<rs.length->(rA rs j).tag=tag->i<(rA rs j).vals.length from fun h=>by
  subst h
  have h1:=HX.out
  unfold colAtF at h1
  split at h1
  ·rename_i h2;injection h1 with h3 h4;injection h4 with h5 h6;exact absurd h6 h2
  rename_i h2
  have h2:askF f rs=0:=Classical.byContradiction h2
  split at h1
  ·injection h1 with h3 h4;injection h4 with h5 h6;cases h6
  split at h1
  ·injection h1 with h3 h4;injection h4 with h5 h6;cases h6
  rename_i h8 h9
  injection h1 with h3 h4
  obtain ⟨g1,g2,g3⟩:=HOK.out h2
  refine ⟨g1,g2,by omega,fun j hj ht=>?_⟩
  have g4:=(g3 j hj).many
  rw [ht] at g4
  rcases ixF_spec (nameIs name) (katK f tag).fields with ⟨e1,-⟩|⟨i',hi',e1,-,-⟩
  ·omega
  ·omega)
 obtain ⟨m,q,ks,hd,tl,ct,sm⟩:=f
 unfold fmtG at HCO ⊢
 unfold colG at HCO
 simp only at HCO HKI hcp ⊢
 obtain ⟨n,hn⟩:∃ x,ks.length=x:=⟨_,rfl⟩
 rw [hn] at HCO hcp ⊢
 clear hn
 obtain ⟨nr,hnr⟩:∃ x,rs.length=x:=⟨_,rfl⟩
 have HNR:=Lib.hid hnr
 rw [hnr] at HCO HR HF0 ⊢
 have hnrb:nr<=9223372036854775807:=by rw [<- hnr];exact HLM.out.len
 clear hnr HX HOK HCC
 obtain ⟨nm,kd,wi,pl,fm,crt,fl,nd⟩:=co
 simp only at HCO
 have hF0:=heap_new w (.cells #[.int .u8 m,.int .u8 q,.slice A n cp,.string hd,.string tl,.string ct,.string sm] 44) rfl
 have hB0:Below w.heap.size w (w.alloc (.cells #[.int .u8 m,.int .u8 q,.slice A n cp,.string hd,.string tl,.string ct,.string sm] 44)):=by go_grown
 obtain ⟨i0,hi⟩:∃ i,Tryz.prog.info? 9=some i:=⟨_,rfl⟩
 have hz0i:i0.zero=some (.string ⟨#[]⟩):=by obtain rfl:=Option.some.inj (hi.symm.trans rfl);rfl
 have hz1i:i0.size=1:=by obtain rfl:=Option.some.inj (hi.symm.trans rfl);rfl
 have hz2i:i0.bytes=16:=by obtain rfl:=Option.some.inj (hi.symm.trans rfl);rfl
 have HI0:=Lib.hid hi;have HZ0:=Lib.hid hz0i;have HZ1:=Lib.hid hz1i;have HZ2:=Lib.hid hz2i
 clear hi hz0i hz1i hz2i
 go_enter Tryz.func17,Tryz.ntmps17
 obtain ⟨⟨f0,f1,f2,f3,f4,f5,f6⟩,f7⟩:=obox7 hF0
 go_wp2_with fail
 refine (HCO.out _ (HKI.out.below hB0) (HLM.out.below hB0) (HTB.out.below hB0)).mono ?_
 rintro _ w2 ⟨rfl,hb2⟩
 have HB2:=Lib.hid (below_then hb2 hB0 hB0.size)
 clear hF0 hb2 f0 f1 f2 f3 f4 f5 f6 f7 hB0
 have HB1:Hid (Below w.heap.size w (w2.alloc (.cells #[.string nm,.int .i64 kd,.int .i64 wi,.int .i64 pl,.int .i64 fm,.bool crt,.int .u8 fl,.bool nd] 91))):=Lib.hid (HB2.out.alloc HB2.out.size _)
 go_upto_region 2 with fail
 generalize w2.alloc (.cells #[.string nm,.int .i64 kd,.int .i64 wi,.int .i64 pl,.int .i64 fm,.bool crt,.int .u8 fl,.bool nd] 91)=w1 at HB1 ⊢
 have hz1:=HB1.out.size
 by_cases h0:x=0
 case neg=>
  have HE:=Lib.hid (show R=([],x) by rw [<- HR.out,if_pos h0])
  have h0a:(x !=0)=true:=by simpa using h0
  clear h0
  go_wp2
  go_ret2
  exact RetCol.no HE.out HB1.out
 subst h0
 obtain ⟨-,h2000,hi0,-⟩:=HF0.out rfl
 have HIV:=Lib.hid ((HF0.out rfl).2.2.2)
 obtain ⟨ic,hic⟩:∃ k:Nat,i=(k:Int):=⟨i.toNat,by omega⟩
 subst hic
 have HR2:=Lib.hid (show R=(valsC rs tag ic nr,(0:Int)) by
  have h:=HR.out
  rw [if_neg (fun h:(0:Int)≠0=>h rfl),Int.toNat_natCast] at h
  exact h.symm)
 clear hi0 HF0 HR
 go_wp2_with fail
 go_loopw [13,30] (fun o i wr=>∃ (j:Nat) (OA:Option Addr) (OC on:Nat),j<=nr/\o=.slice OA on OC/\i=.int .i64 j/\Hid ((valsC rs tag ic j).length=on)/\Hid (wr.ownsRow w1.heap.size 9 1 (.slice OA on OC) on (ystrV (valsC rs tag ic j)))/\Hid (Below w1.heap.size w1 wr)) (fun _ i _=>nr-(intOf i).toNat)
 case atStart=>exact ⟨0,none,0,0,Nat.zero_le _,rfl,rfl,Lib.hid rfl,Lib.hid (World.ownsRow_nil _ _ _ _),Lib.hid (Below.refl _ _)⟩
 case round=>
  obtain ⟨j,OA,OC,on,hj,rfl,rfl,HON,HO,HB⟩:=hrel
  have HBW:=Lib.hid (below_then HB.out HB1.out hz1)
  have hzr:=HB.out.size
  rcases Nat.lt_or_ge j nr with hlt | hge
  ·obtain ⟨b,off,rfl,hbw,c0,c1⟩:=(HLM.out.below HBW.out).cells (j:=j) (by rw [HNR.out];exact hlt)
   have HRJ:=Lib.hid ((HLM.out.below HBW.out).each j (by rw [HNR.out];exact hlt))
   have HIJ:=Lib.hid (HIV.out j hlt)
   have HSC:=Lib.hid (valsC_succ (rs:=rs) (tag:=tag) (i:=ic) (j:=j) (by rw [HNR.out];exact hlt))
   have hlen:=valsC_len rs tag ic j
   rw [HON.out] at hlen
   obtain ⟨r,hr⟩:∃ x,rA rs j=x:=⟨_,rfl⟩
   obtain ⟨RJ,hRJ⟩:∃ x,RA j=x:=⟨_,rfl⟩
   obtain ⟨CJ,hCJ⟩:∃ x,RC j=x:=⟨_,rfl⟩
   rw [hr,hRJ,hCJ] at HRJ
   rw [hr] at c0 HIJ HSC
   rw [hr,hRJ,hCJ] at c1
   clear hr hRJ hCJ
   obtain ⟨rt,vs⟩:=r
   simp only at HIJ HSC c0 c1
   obtain ⟨nv,hnv⟩:∃ x,vs.length=x:=⟨_,rfl⟩
   have HNV:=Lib.hid hnv
   rw [hnv] at c1 HIJ
   have hnvc:nv<=CJ:=by rw [<- hnv];exact HRJ.out.len.1
   have hnvb:=HRJ.out.len.2
   clear hnv
   obtain ⟨OL,hOL⟩:∃ x,valsC rs tag ic j=x:=⟨_,rfl⟩
   rw [hOL] at HO HON HSC
   clear hOL
   have hR5:=heap_new wr (.cells #[.string rt,.slice RJ nv CJ] 39) rfl
   have hb5:Below wr.heap.size wr (wr.alloc (.cells #[.string rt,.slice RJ nv CJ] 39)):=by go_grown
   have HO5:=Lib.hid (HO.out.alloc (.cells #[.string rt,.slice RJ nv CJ] 39))
   go_upto_region 8 with fail
   obtain ⟨rn,hrn⟩:∃ x,wr.heap.size=x:=⟨_,rfl⟩
   rw [hrn] at hR5 ⊢
   have HB5:=Lib.hid (below_then hb5 HB.out hzr)
   have HBW5:=Lib.hid (below_then hb5 HBW.out HBW.out.size)
   generalize wr.alloc (.cells #[.string rt,.slice RJ nv CJ] 39)=w5 at hR5 hb5 HO5 HB5 HBW5 ⊢
   obtain ⟨r0,r1,-,-,r2⟩:=box2 hR5
   have HRJ5:=Lib.hid (HRJ.out.below hb5)
   have hz5:=HB5.out.size
   have hbd:=bytes_dec rt tag
   clear c0 c1 hR5 hrn hbw hb5
   by_cases ht:rt=tag
   ·have HS2:=Lib.hid (show valsC rs tag ic (j+1)=OL++[wd vs ic] by rw [HSC.out,if_pos ht])
    have hiv:=HIJ.out ht
    have hicv:ic<nv:=by omega
    rw [decide_eq_true ht] at hbd
    obtain ⟨b2,off2,rfl,hbw2,hcs⟩:=HRJ5.out.vals.cells (by show 0<vs.length;rw [HNV.out];omega)
    have s0:=hcs ic (by show ic<vs.length;rw [HNV.out];exact hicv)
    simp only at s0
    obtain ⟨s,hs⟩:∃ x,wd vs ic=x:=⟨_,rfl⟩
    rw [hs] at s0 HS2
    clear hs hcs ht hiv
    go_upto_region 10 with (at_builtin;(with_reducible refine ywpList_push_strs rfl _ _ 37 rfl w1.heap.size i0 (.string ⟨#[]⟩) Tryz.underlying37 HI0.out HZ0.out HZ1.out HZ2.out rfl (.slice OA on OC) on OL rfl HO5.out 1 [.string s] [s] rfl rfl rfl (by omega) hz5 ?_);intro A7 k7 w7 hown7 hg7)
    have HBN:=Lib.hid (HB5.out.grown hg7 hz5 (town_ge2 HO5.out))
    have HOL:=Lib.hid (show (valsC rs tag ic (j+1)).length=on+1 by rw [HS2.out,List.length_append,HON.out];rfl)
    have HON2:=Lib.hid (show w7.ownsRow w1.heap.size 9 1 (.slice A7 (on+1) k7) (on+1) (ystrV (valsC rs tag ic (j+1))) by rw [HS2.out];exact hown7)
    go_wp2
    go_roundw
    case rel=>exact ⟨j+1,A7,k7,on+1,by omega,rfl,by go_num,HOL,HON2,HBN⟩
    case measure=>simp [intOf];omega
   ·have HS2:=Lib.hid (show valsC rs tag ic (j+1)=OL by rw [HSC.out,if_neg ht,List.append_nil])
    rw [decide_eq_false ht] at hbd
    have HOL:=Lib.hid (show (valsC rs tag ic (j+1)).length=on by rw [HS2.out,HON.out])
    have HON2:=Lib.hid (show w5.ownsRow w1.heap.size 9 1 (.slice OA on OC) on (ystrV (valsC rs tag ic (j+1))) by rw [HS2.out];exact HO5.out)
    clear ht
    go_wp2
    go_roundw
    case rel=>exact ⟨j+1,OA,OC,on,by omega,rfl,by go_num,HOL,HON2,HB5⟩
    case measure=>simp [intOf];omega
  ·obtain rfl:j=nr:=by omega
   go_wp2
   go_ret2
   exact RetCol.own HR2.out HON.out HO.out HBW.out
end Go.Proofs.YtbfbgappinilmaaGreatDoor
