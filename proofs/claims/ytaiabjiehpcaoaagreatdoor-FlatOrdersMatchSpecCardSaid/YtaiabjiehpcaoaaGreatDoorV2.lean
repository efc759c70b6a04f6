/- The walk of kindFault. (Printed by genF7.py.) The walks of the program's isValue and written. (Printed by genV2.py.) -/
import Derived.Test.YtaiabjiehpcaoaaGreatDoorF5
import Derived.Test.YtaiabjiehpcaoaaGreatDoorM2
import Derived.Test.YtaiabjiehpcaoaaGreatDoorF4
import Derived.Laws.StructEq
-- merged: F7 V2
set_option maxHeartbeats 2000000
set_option maxRecDepth 100000
namespace Go.Proofs.YtaiabjiehpcaoaaGreatDoor
open Go.RowKit Limb Nmb
set_option linter.unusedVariables false
set_option linter.unusedSimpArgs false
theorem Qah (s:ByteArray):s.toList.isEmpty=decide (s=⟨#[]⟩):=by
 rw [Lib.toList_data,Bool.eq_iff_iff,decide_eq_true_iff,List.isEmpty_iff]
 exact ⟨fun h=>ByteArray.ext (Array.toList_eq_nil_iff.1 h),fun h=>by rw [h]⟩
theorem Kinds.cells {w:World} {A:Option Addr} {ks:List RKd} {FA:Nat->Option Addr} {FC:Nat->Nat} (h:Kinds w A ks FA FC) {j:Nat} (hj:j<ks.length) :
  ∃ b off,A=some ⟨b,off,none⟩/\b<w.heap.size/\w.cell? ⟨b,off+j*4,none⟩=some (.string (kA ks j).tag)/\w.cell? ⟨b,off+j*4+1,none⟩=some (.slice (FA j) (kA ks j).fields.length (FC j)) /\
   w.cell? ⟨b,off+j*4+2,none⟩=some (.int .i64 (kA ks j).most)/\w.cell? ⟨b,off+j*4+3,none⟩=some (.string (kA ks j).under):=by
 obtain ⟨b,off,e,hb,hc⟩:=h.2.1.get hj
 exact ⟨b,off,e,hb,hc 0 (by decide),hc 1 (by decide),hc 2 (by decide),hc 3 (by decide)⟩
theorem Cols.cells {w:World} {A:Option Addr} {cs:List Col} (h:Cols w A cs) {j:Nat} (hj:j<cs.length) :
  ∃ b off,A=some ⟨b,off,none⟩/\b<w.heap.size/\w.cell? ⟨b,off+j*8,none⟩=some (.string (cA cs j).name)/\w.cell? ⟨b,off+j*8+1,none⟩=some (.int .i64 (cA cs j).kind) /\
   w.cell? ⟨b,off+j*8+2,none⟩=some (.int .i64 (cA cs j).width)/\w.cell? ⟨b,off+j*8+3,none⟩=some (.int .i64 (cA cs j).places)/\w.cell? ⟨b,off+j*8+4,none⟩=some (.int .i64 (cA cs j).form) /\
   w.cell? ⟨b,off+j*8+5,none⟩=some (.bool (cA cs j).right)/\w.cell? ⟨b,off+j*8+6,none⟩=some (.int .u8 (cA cs j).fill)/\w.cell? ⟨b,off+j*8+7,none⟩=some (.bool (cA cs j).need):=by
 obtain ⟨b,off,e,hb,hc⟩:=h.2.get hj
 exact ⟨b,off,e,hb,hc 0 (by decide),hc 1 (by decide),hc 2 (by decide),hc 3 (by decide),hc 4 (by decide),hc 5 (by decide),hc 6 (by decide),hc 7 (by decide)⟩
theorem Cols.take {w:World} {A:Option Addr} {cs:List Col} (h:Cols w A cs) (k:Nat):Cols w A (cs.take k):=by
 refine ⟨⟨fun c hc=>h.1.1 c (List.mem_of_mem_take hc),by have:=h.1.2;rw [List.length_take];omega⟩,fun hn=>?_⟩
 rw [List.length_take] at hn
 obtain ⟨b,off,e,hb,hc⟩:=h.2 (by omega)
 refine ⟨b,off,e,hb,fun j hj i hi=>?_⟩
 rw [List.length_take] at hj
 rw [hc j (by omega) i hi]
 have e2:cA (cs.take k) j=cA cs j:=by unfold cA;rw [List.getD_eq_getElem?_getD,List.getD_eq_getElem?_getD,List.getElem?_take,if_pos (by omega)]
 unfold colV
 rw [e2]
theorem anytag1_c (b:Nat) (x:RKd) (XA:Option Addr) (XC:Nat) (A:Option Addr) (c n:Nat) (ks:List RKd) (FA:Nat->Option Addr) (FC:Nat->Nat) (w:World) (hnk:n<=ks.length) (ho:Kinds w A ks FA FC) (hc:w.heap[b]?=some (.cells #[.string x.tag,.slice XA x.fields.length XC,.int .i64 x.most,.string x.under] 52 (0,0))) :
  Calls Tryz.prog 94 #[.slice A n c,.func (.func 92) #[] #[.pointer (some ⟨b,0,none⟩)]] w
   fun e w'=>e=.returned (.bool ((ks.take n).any (Qav x.tag)))/\Below w.heap.size w w' :=
 anyk_of _ _ _ _ w w (ixF_any _ _) (Below.refl _ _) (ixk_c 92 (.pointer (some ⟨b,0,none⟩)) (Qav x.tag) A c n ks FA FC w hnk ho (fun _ _=>by kernel_rfl)
  (fun j hj wr hb=>kf1_c (kA ks j) x (FA j) XA (FC j) XC b wr (Qaa hc hb)))
theorem anytag2_c (b:Nat) (x:RKd) (XA:Option Addr) (XC:Nat) (A:Option Addr) (c n:Nat) (ks:List RKd) (FA:Nat->Option Addr) (FC:Nat->Nat) (w:World) (hnk:n<=ks.length) (ho:Kinds w A ks FA FC) (hc:w.heap[b]?=some (.cells #[.string x.tag,.slice XA x.fields.length XC,.int .i64 x.most,.string x.under] 52 (0,0))) :
  Calls Tryz.prog 94 #[.slice A n c,.func (.func 97) #[] #[.pointer (some ⟨b,0,none⟩)]] w
   fun e w'=>e=.returned (.bool ((ks.take n).any (Qav x.under)))/\Below w.heap.size w w' :=
 anyk_of _ _ _ _ w w (ixF_any _ _) (Below.refl _ _) (ixk_c 97 (.pointer (some ⟨b,0,none⟩)) (Qav x.under) A c n ks FA FC w hnk ho (fun _ _=>by kernel_rfl)
  (fun j hj wr hb=>kf2_c (kA ks j) x (FA j) XA (FC j) XC b wr (Qaa hc hb)))
theorem kindfault_c (f:Fmt) (A:Option Addr) (c:Nat) (FA:Nat->Option Addr) (FC:Nat->Nat) (i:Nat) (w0:World) (ho:Kinds w0 A f.kinds FA FC) (hi:i<f.kinds.length) (hc:f.kinds.length<=c) :
  Calls Tryz.prog 53 #[fmtG f A c,.int .i64 (i:Int)] w0 (RetI (Qax f.mark f.kinds i) w0):=by
 obtain ⟨m,q,ks,hd,tl,ct,sm⟩:=f
 unfold fmtG
 simp only at *
 obtain ⟨b,off,rfl,hbw,a0,a1,a2,a3⟩:=ho.cells hi
 obtain ⟨B0,OF0,-,hbw0,z0,-⟩:=ho.cells (j:=0) (by omega)
 obtain ⟨hcols,hcc⟩:=ho.2.2 i hi
 have hszs:=ho.1.1 (kA ks i) (by rw [<- kA_get hi];exact List.getElem_mem _)
 have z0:w0.cell? ⟨b,off,none⟩=some (.string (kA ks 0).tag):=by
  obtain ⟨B0,OF0,e,-,z,-⟩:=ho.cells (j:=0) (by omega)
  injection e with e
  injection e with e1 e2
  subst e1;subst e2
  simpa using z
 obtain ⟨x,hx⟩:=ex_ (kA ks i)
 have HX:=Hd hx
 have hn:=ho.1.2
 have HO:=Hd ho
 obtain ⟨n,hnn⟩:=ex_ (ks.length)
 have HN:=Hd hnn
 have HNK:=Hd (show i<=ks.length by omega)
 rw [hnn] at hi hn hc ⊢
 rw [hx] at a0 a1 a2 a3 hcols hcc hszs
 obtain ⟨XA,hXA⟩:=ex_ (FA i)
 obtain ⟨XC,hXC⟩:=ex_ (FC i)
 rw [hXA] at a1 hcols
 rw [hXC] at a1 hcc
 obtain ⟨tg,fs,ms,un⟩:=x
 simp only at a0 a1 a2 a3 hcols hcc hszs
 have hnf:=hcols.1.2
 have HCO:=Hd hcols
 have HF1:=Hd (fun w (h:Kinds w (some ⟨b,off,none⟩) ks FA FC) h2=>anytag1_c (w0.heap.size+1) ⟨tg,fs,ms,un⟩ XA XC (some ⟨b,off,none⟩) c i ks FA FC w HNK.out h h2)
 have HF2:=Hd (fun w (h:Kinds w (some ⟨b,off,none⟩) ks FA FC) h2=>anytag2_c (w0.heap.size+1) ⟨tg,fs,ms,un⟩ XA XC (some ⟨b,off,none⟩) c i ks FA FC w HNK.out h h2)
 simp only at HF1 HF2
 have HCF:=Hd (fun (j:Nat) (hj:j<fs.length) w (h:Cols w XA (fs.take j))=>colf_c ⟨m,q,ks,hd,tl,ct,sm⟩ (some ⟨b,off,none⟩) c (cA fs j) XA XC (fs.take j) w (hcols.1.1 _ (by rw [<- Qbr hj];exact List.getElem_mem _)) (by rw [List.length_take];omega) h)
 unfold fmtG at HCF
 simp only at HCF
 rw [hnn] at HCF
 obtain ⟨nf,hnff⟩:=ex_ (fs.length)
 have HNF:=Hd hnff
 rw [hnff] at a1 hcc hnf HF1 HF2
 obtain ⟨t0,ht0⟩:=ex_ ((kA ks 0).tag)
 have HT0:=Hd ht0
 rw [ht0] at z0
 obtain ⟨B1,hB1⟩:=ex_ (tagL tg.data.toList)
 obtain ⟨B2,hB2⟩:=ex_ ((ks.take i).any (Qav tg))
 obtain ⟨B3,hB3⟩:=ex_ ((ks.take i).any (Qav un))
 have HT:=Hd (fun w=>istag_c tg w hszs.1)
 rw [hB1] at HT
 rw [hB2] at HF1
 rw [hB3] at HF2
 have HB1:=Hd hB1;have HB2:=Hd hB2;have HB3:=Hd hB3
 have htgs:=hszs.1
 clear hB1 hB2 hB3 ho hx hnn hcols hszs hXA hXC hnff ht0 hbw0
 have HF:=Hd (show ∀ r,((w0.alloc (.cells #[.int .u8 m,.int .u8 q,.slice (some ⟨b,off,none⟩) n c,.string hd,.string tl,.string ct,.string sm] 24)).alloc r).heap[w0.heap.size]?=some (.cells #[.int .u8 m,.int .u8 q,.slice (some ⟨b,off,none⟩) n c,.string hd,.string tl,.string ct,.string sm] 24 (0,0)) from fun r=>Qad (Qac w0 _ rfl) r)
 have HK:=Hd (Qac (w0.alloc (.cells #[.int .u8 m,.int .u8 q,.slice (some ⟨b,off,none⟩) n c,.string hd,.string tl,.string ct,.string sm] 24)) (.cells #[.string tg,.slice XA nf XC,.int .i64 ms,.string un] 52) (g:=w0.heap.size+1) (by simp))
 have HF:=Hd (HF.out (.cells #[.string tg,.slice XA nf XC,.int .i64 ms,.string un] 52))
 have hB1:Below w0.heap.size w0 ((w0.alloc (.cells #[.int .u8 m,.int .u8 q,.slice (some ⟨b,off,none⟩) n c,.string hd,.string tl,.string ct,.string sm] 24)).alloc (.cells #[.string tg,.slice XA nf XC,.int .i64 ms,.string un] 52)):=by go_grown
 by_cases hs1:tg.size<1
 ·have HE:=Hd (show Qax m ks i=3 by unfold Qax;rw [HX.out];simp [show ¬ (1<=tg.size) by omega])
  have hs2:(tg.size:Int)<1:=by omega
  clear hs1
  go_enter Tryz.func53,Tryz.ntmps53
  go_wp2
  go_ret
  exact ⟨congrArg (fun v=>Ending.returned (Value.int .i64 v)) HE.out.symm,hB1⟩
 by_cases hs2:6<tg.size
 ·have HE:=Hd (show Qax m ks i=3 by unfold Qax;rw [HX.out];simp [show ¬ (tg.size<=6) by omega])
  have hs3:¬ (tg.size:Int)<1:=by omega
  have hs4:(6:Int)<tg.size:=by omega
  clear hs1 hs2
  go_enter Tryz.func53,Tryz.ntmps53
  go_wp2
  go_ret
  exact ⟨congrArg (fun v=>Ending.returned (Value.int .i64 v)) HE.out.symm,hB1⟩
 have hs3:¬ (tg.size:Int)<1:=by omega
 have hs4:¬ (6:Int)<tg.size:=by omega
 have HSZ:=Hd (show 1<=tg.size/\tg.size<=6 by omega)
 clear hs1 hs2
 go_enter Tryz.func53,Tryz.ntmps53
 go_wp2_with fail
 generalize (w0.alloc (.cells #[.int .u8 m,.int .u8 q,.slice (some ⟨b,off,none⟩) n c,.string hd,.string tl,.string ct,.string sm] 24)).alloc (.cells #[.string tg,.slice XA nf XC,.int .i64 ms,.string un] 52)=w1 at HF HK hB1 ⊢
 obtain ⟨⟨f0,f1,f2,f3,f4,f5,f6⟩,f7⟩:=Qai HF.out
 obtain ⟨⟨k0,k1,k2,k3⟩,-,k5⟩:=Qaw HK.out
 refine (HT.out _).mono ?_
 rintro e w2 ⟨rfl,hb2⟩
 have hF2:=Qaa HF.out hb2
 have hK2:=Qaa HK.out hb2
 have hB2:=Qab hb2 hB1 hB1.size
 clear f0 f1 f2 f3 f4 f5 f6 f7 k0 k1 k2 k3 k5
 clear HF HK
 have HF:=Hd hF2;have HK:=Hd hK2
 clear hF2 hK2 hb2
 obtain ⟨⟨f0,f1,f2,f3,f4,f5,f6⟩,f7⟩:=Qai HF.out
 obtain ⟨⟨k0,k1,k2,k3⟩,-,k5⟩:=Qaw HK.out
 cases B1 with
 | false=>
  have HE:=Hd (show Qax m ks i=3 by unfold Qax;rw [HX.out];simp [HSZ.out.1,HSZ.out.2,HB1.out])
  go_wp2
  go_ret
  exact ⟨congrArg (fun v=>Ending.returned (Value.int .i64 v)) HE.out.symm,hB2⟩
 | true=>
 go_wp2_with fail
 refine (HF1.out _ (HO.out.below hB2) HK.out).mono ?_
 rintro e w3 ⟨rfl,hb3⟩
 have hF3:=Qaa HF.out hb3
 have hK3:=Qaa HK.out hb3
 have hB3:=Qab hb3 hB2 hB2.size
 clear f0 f1 f2 f3 f4 f5 f6 f7 k0 k1 k2 k3 k5
 clear HF HK
 have HF:=Hd hF3;have HK:=Hd hK3
 clear hF3 hK3 hb3
 obtain ⟨⟨f0,f1,f2,f3,f4,f5,f6⟩,f7⟩:=Qai HF.out
 obtain ⟨⟨k0,k1,k2,k3⟩,-,k5⟩:=Qaw HK.out
 cases B2 with
 | true=>
  have HE:=Hd (show Qax m ks i=7 by unfold Qax;rw [HX.out];simp [HSZ.out.1,HSZ.out.2,HB1.out,HB2.out])
  go_wp2
  go_ret
  exact ⟨congrArg (fun v=>Ending.returned (Value.int .i64 v)) HE.out.symm,hB3⟩
 | false=>
 have hc30:w3.cell? ⟨b,off,none⟩=some (.string t0):=(hB3.cell (p:=⟨b,off,none⟩) hbw).trans z0
 have cz:w3.cell? ⟨b,off,none⟩=some (.string t0):=hc30
 by_cases h7:m=0/\tg.size≠t0.size
 ·obtain ⟨h7,h8⟩:=h7
  subst h7
  have HE:=Hd (show Qax 0 ks i=3 by unfold Qax;rw [HX.out];simp [HSZ.out.1,HSZ.out.2,HB1.out,HB2.out,HT0.out,h8])
  have h8a:((tg.size:Int) !=(t0.size:Int))=true:=by simp;omega
  clear h8
  go_wp2
  go_quiet (fail)
  go_wp2
  go_ret
  exact ⟨congrArg (fun v=>Ending.returned (Value.int .i64 v)) HE.out.symm,below_drewN hB3 _⟩
 have H7:=Hd (show ¬ (m=0/\¬ tg.size=(kA ks 0).tag.size) by rw [HT0.out];exact h7)
 go_upto_region 7 with fail
 go_cut [40] (fun v wx=>v=.bool false/\∃ q,wx=w3.drewN q)
 case first=>
  by_cases h8:m=0
  ·subst h8
   have h9:((tg.size:Int) !=(t0.size:Int))=false:=by
    have:tg.size=t0.size:=Classical.byContradiction fun e=>h7 ⟨rfl,e⟩
    rw [this];simp
   clear h7
   go_quiet (fail)
   go_wp2_with fail
   go_meet
   exact ⟨rfl,_,rfl⟩
  ·have h9:(m==0)=false:=by simpa using h8
   clear h7 h8
   go_quiet (fail)
   go_wp2_with fail
   go_meet
   exact ⟨rfl,_,rfl⟩
 case rest=>
 obtain ⟨rfl,q4,rfl⟩:=hcut
 clear h7
 have hF4:(w3.drewN q4).heap[w0.heap.size]?=some (.cells #[.int .u8 m,.int .u8 q,.slice (some ⟨b,off,none⟩) n c,.string hd,.string tl,.string ct,.string sm] 24 (0,0)):=by exact HF.out
 have hK4:(w3.drewN q4).heap[w0.heap.size+1]?=some (.cells #[.string tg,.slice XA nf XC,.int .i64 ms,.string un] 52 (0,0)):=by exact HK.out
 have hB4:Below w0.heap.size w0 (w3.drewN q4):=below_drewN hB3 _
 clear f0 f1 f2 f3 f4 f5 f6 f7 k0 k1 k2 k3 k5
 clear HF HK hc30 cz hB3
 generalize w3.drewN q4=w4 at hF4 hK4 hB4 ⊢
 have HF:=Hd hF4;have HK:=Hd hK4
 clear hF4 hK4
 obtain ⟨⟨f0,f1,f2,f3,f4,f5,f6⟩,f7⟩:=Qai HF.out
 obtain ⟨⟨k0,k1,k2,k3⟩,-,k5⟩:=Qaw HK.out
 by_cases h9:50<nf
 ·have HE:=Hd (show Qax m ks i=2 by unfold Qax;rw [HX.out];simp [HSZ.out.1,HSZ.out.2,HB1.out,HB2.out,H7.out,HNF.out,h9])
  have h9a:(50:Int)<(nf:Int):=by omega
  clear h9
  go_wp2
  go_ret
  exact ⟨congrArg (fun v=>Ending.returned (Value.int .i64 v)) HE.out.symm,hB4⟩
 have h9a:¬ (50:Int)<(nf:Int):=by omega
 have H9:=Hd (show ¬ 50<fs.length by rw [HNF.out];exact h9)
 have hnf50:nf<=50:=by omega
 clear h9
 go_wp2_with fail
 go_loopw [64] (fun i wr=>∃ j:Nat,j<=nf/\i=.int .i64 j/\Hid (wr.heap[w0.heap.size]?=some (.cells #[.int .u8 m,.int .u8 q,.slice (some ⟨b,off,none⟩) n c,.string hd,.string tl,.string ct,.string sm] 24 (0,0)))/\Hid (wr.heap[w0.heap.size+1]?=some (.cells #[.string tg,.slice XA nf XC,.int .i64 ms,.string un] 52 (0,0)))/\Below w0.heap.size w0 wr/\Hid (∀ t,t<j->colF m (cA fs t) (fs.take t)=0)) (fun i _=>nf-(intOf i).toNat)
 case atStart=>exact ⟨0,Nat.zero_le _,rfl,HF,HK,hB4,Hd (fun t h=>absurd h (Nat.not_lt_zero _))⟩
 case round=>
  clear f0 f1 f2 f3 f4 f5 f6 f7 k0 k1 k2 k3 k5
  clear HF HK
  obtain ⟨j,hj,rfl,HF,HK,hB5,HJ⟩:=hrel
  obtain ⟨⟨f0,f1,f2,f3,f4,f5,f6⟩,f7⟩:=Qai HF.out
  obtain ⟨⟨k0,k1,k2,k3⟩,-,k5⟩:=Qaw HK.out
  rcases Nat.lt_or_ge j nf with hlt | hge
  ·have hltf:j<fs.length:=by rw [HNF.out];exact hlt
   obtain ⟨bc,oc,hXA,hbc,x0,x1,x2,x3,x4,x5,x6,x7⟩:=(HCO.out.below hB5).cells hltf
   subst hXA
   have HCJ:=Hd (HCF.out j hltf)
   have hle:(fs.take j).length=j:=by rw [List.length_take];omega
   rw [hle] at HCJ
   clear hle
   obtain ⟨C,hC⟩:=ex_ (cA fs j)
   have HC:=Hd hC
   rw [hC] at x0 x1 x2 x3 x4 x5 x6 x7 HCJ
   obtain ⟨nm,kd,wd,pl,fo,ri,fi,ne⟩:=C
   obtain ⟨E,hE⟩:=ex_ (colF m ⟨nm,kd,wd,pl,fo,ri,fi,ne⟩ (fs.take j))
   rw [hE] at HCJ
   have HEE:=Hd hE
   clear hC hE hltf
   unfold colG at HCJ
   simp only at x0 x1 x2 x3 x4 x5 x6 x7 HCJ
   go_upto_region 14 with fail
   have hL:(wr.alloc (.cells #[.string nm,.int .i64 kd,.int .i64 wd,.int .i64 pl,.int .i64 fo,.bool ri,.int .u8 fi,.bool ne] 60)).heap[wr.heap.size]?=some (.cells #[.string nm,.int .i64 kd,.int .i64 wd,.int .i64 pl,.int .i64 fo,.bool ri,.int .u8 fi,.bool ne] 60 (0,0)):=Qac _ _ rfl
   have hF6:=Qad HF.out (.cells #[.string nm,.int .i64 kd,.int .i64 wd,.int .i64 pl,.int .i64 fo,.bool ri,.int .u8 fi,.bool ne] 60)
   have hK6:=Qad HK.out (.cells #[.string nm,.int .i64 kd,.int .i64 wd,.int .i64 pl,.int .i64 fo,.bool ri,.int .u8 fi,.bool ne] 60)
   have hB6:Below w0.heap.size w0 (wr.alloc (.cells #[.string nm,.int .i64 kd,.int .i64 wd,.int .i64 pl,.int .i64 fo,.bool ri,.int .u8 fi,.bool ne] 60)):=by go_grown
   clear x0 x1 x2 x3 x4 x5 x6 x7 hbc
   obtain ⟨L,hLL⟩:=ex_ (wr.heap.size)
   rw [hLL] at hL ⊢
   clear f0 f1 f2 f3 f4 f5 f6 f7 k0 k1 k2 k3 k5
   clear HF HK
   generalize wr.alloc (.cells #[.string nm,.int .i64 kd,.int .i64 wd,.int .i64 pl,.int .i64 fo,.bool ri,.int .u8 fi,.bool ne] 60)=w6 at hL hF6 hK6 hB6 ⊢
   have HF:=Hd hF6;have HK:=Hd hK6;have HL:=Hd hL
   clear hF6 hK6 hL hB5 hLL
   obtain ⟨⟨f0,f1,f2,f3,f4,f5,f6⟩,f7⟩:=Qai HF.out
   obtain ⟨⟨k0,k1,k2,k3⟩,-,k5⟩:=Qaw HK.out
   obtain ⟨⟨c0,c1,c2,c3,c4,c5,c6,c7⟩,c8⟩:=QaC HL.out
   have hj0:(0:Int)<=(j:Int):=by omega
   have hjc:(j:Int)<=(XC:Int):=by omega
   have hjn:j<=XC:=by omega
   go_region_held3 (fun w'=>w'.cell? ⟨w0.heap.size,0,none⟩=some (.int .u8 m)/\w'.cell? ⟨w0.heap.size,1,none⟩=some (.int .u8 q)/\w'.cell? ⟨w0.heap.size,2,none⟩=some (.slice (some ⟨b,off,none⟩) n c)/\w'.cell? ⟨w0.heap.size,3,none⟩=some (.string hd)/\w'.cell? ⟨w0.heap.size,4,none⟩=some (.string tl)/\w'.cell? ⟨w0.heap.size,5,none⟩=some (.string ct)/\w'.cell? ⟨w0.heap.size,6,none⟩=some (.string sm)/\w'.cell? ⟨L,0,none⟩=some (.string nm)/\w'.cell? ⟨L,1,none⟩=some (.int .i64 kd)/\w'.cell? ⟨L,2,none⟩=some (.int .i64 wd)/\w'.cell? ⟨L,3,none⟩=some (.int .i64 pl)/\w'.cell? ⟨L,4,none⟩=some (.int .i64 fo)/\w'.cell? ⟨L,5,none⟩=some (.bool ri)/\w'.cell? ⟨L,6,none⟩=some (.int .u8 fi)/\w'.cell? ⟨L,7,none⟩=some (.bool ne)/\w'.cell? ⟨w0.heap.size+1,1,none⟩=some (.slice (some ⟨bc,oc,none⟩) nf XC))
    (first | (with_reducible exact ⟨g0,g1,g2,g3,g4,g5,g6,d0,d1,d2,d3,d4,d5,d6,d7,e1⟩) | (exact ⟨f0,f1,f2,f3,f4,f5,f6,c0,c1,c2,c3,c4,c5,c6,c7,k1⟩) | (go_keep;done))
    (first | (go_at_call 95;refine (HCJ.out _ ((HCO.out.below (by first | exact hB6.drew | exact hB6)).take j)).mono ?_;rintro e w7 ⟨rfl,hb7⟩;(have hF7:=Qaa (w:=w6.drew) HF.out hb7);(have hK7:=Qaa (w:=w6.drew) HK.out hb7);(have hL7:=Qaa (w:=w6.drew) HL.out hb7);(have hB7:=Qab hb7 hB6.drew hB6.size);obtain ⟨⟨g0,g1,g2,g3,g4,g5,g6⟩,g7⟩:=Qai hF7;obtain ⟨⟨d0,d1,d2,d3,d4,d5,d6,d7⟩,d8⟩:=QaC hL7;obtain ⟨⟨e0,e1,e2,e3⟩,-,e5⟩:=Qaw hK7))
   have HF7:=Hd hF7;have HK7:=Hd hK7
   clear f0 f1 f2 f3 f4 f5 f6 f7 k0 k1 k2 k3 k5
   clear c0 c1 c2 c3 c4 c5 c6 c7 c8 HF HK hF7 hK7 hL7
   by_cases hz:E=0
   ·subst hz
    have HJ2:=Hd (show ∀ t,t<j+1->colF m (cA fs t) (fs.take t)=0 from fun t ht=>by
     rcases Nat.lt_or_ge t j with h | h
     ·exact HJ.out t h
     ·obtain rfl:t=j:=by omega
      rw [HC.out];exact HEE.out)
    go_wp2
    go_roundw
    case rel=>exact ⟨j+1,by omega,by go_num,HF7,HK7,hB7,HJ2⟩
    case measure=>simp [intOf];omega
   ·have HEN:=Hd (show colsF m fs=E from by
     unfold colsF
     rw [fstF_hit (k:=j) (by rw [HNF.out];exact hlt) (fun t ht=>HJ.out t ht) (by rw [HC.out,HEE.out];exact hz),HC.out,HEE.out])
    have HE:=Hd (show Qax m ks i=E by unfold Qax;rw [HX.out];simp [HSZ.out.1,HSZ.out.2,HB1.out,HB2.out,H7.out,H9.out,HEN.out,hz])
    have hza:(E !=0)=true:=by simpa using hz
    clear hz
    go_wp2
    go_ret
    exact ⟨congrArg (fun v=>Ending.returned (Value.int .i64 v)) HE.out.symm,hB7⟩
  ·obtain rfl:j=nf:=by omega
   have HEN:=Hd (show colsF m fs=0 from by
    unfold colsF
    exact fstF_no (fun t ht=>HJ.out t (by rw [<- HNF.out];exact ht)))
   by_cases h10:0<=ms/\ms<=2000
   case neg=>
    have HE:=Hd (show Qax m ks i=1 by unfold Qax;rw [HX.out];simp [HSZ.out.1,HSZ.out.2,HB1.out,HB2.out,H7.out,H9.out,HEN.out,h10])
    have HO2:=Hd (fun w=>QbS ms 0 2000 w)
    rw [decide_eq_false h10] at HO2
    clear h10
    go_wp2_with fail
    refine (HO2.out _).mono ?_
    rintro e w9 ⟨rfl,rfl⟩
    go_wp2
    go_ret
    exact ⟨congrArg (fun v=>Ending.returned (Value.int .i64 v)) HE.out.symm,hB5⟩
   have HO2:=Hd (fun w=>QbS ms 0 2000 w)
   rw [decide_eq_true h10] at HO2
   have H10:=Hd h10
   clear h10
   go_wp2_with fail
   refine (HO2.out _).mono ?_
   rintro e w9 ⟨rfl,rfl⟩
   by_cases h11:un=⟨#[]⟩
   ·have HU:=Hd h11
    have hu:un.toList.isEmpty=true:=by rw [Qah,decide_eq_true h11]
    have HE:=Hd (show Qax m ks i=0 by unfold Qax;rw [HX.out];simp [HSZ.out.1,HSZ.out.2,HB1.out,HB2.out,H7.out,H9.out,HEN.out,H10.out,HU.out])
    clear h11
    go_wp2
    go_ret
    exact ⟨congrArg (fun v=>Ending.returned (Value.int .i64 v)) HE.out.symm,hB5⟩
   have hu:un.toList.isEmpty=false:=by rw [Qah,decide_eq_false h11]
   have HU:=Hd h11
   clear h11
   go_wp2_with fail
   refine (HF2.out _ (HO.out.below hB5) HK.out).mono ?_
   rintro e w8 ⟨rfl,hb8⟩
   have hB8:=Qab hb8 hB5 hB5.size
   cases B3 with
   | false=>
    have HE:=Hd (show Qax m ks i=5 by unfold Qax;rw [HX.out];simp [HSZ.out.1,HSZ.out.2,HB1.out,HB2.out,H7.out,H9.out,HEN.out,H10.out,HU.out,HB3.out])
    go_wp2
    go_ret
    exact ⟨congrArg (fun v=>Ending.returned (Value.int .i64 v)) HE.out.symm,hB8⟩
   | true=>
    have HE:=Hd (show Qax m ks i=0 by unfold Qax;rw [HX.out];simp [HSZ.out.1,HSZ.out.2,HB1.out,HB2.out,H7.out,H9.out,HEN.out,H10.out,HU.out,HB3.out])
    go_wp2
    go_ret
    exact ⟨congrArg (fun v=>Ending.returned (Value.int .i64 v)) HE.out.symm,hB8⟩
end Go.Proofs.YtaiabjiehpcaoaaGreatDoor
namespace Go.Proofs.YtaiabjiehpcaoaaGreatDoor
open Go.RowKit Limb Nmb Work
set_option linter.unusedVariables false
set_option linter.unusedSimpArgs false
theorem trim_blank (s:ByteArray) (w:World) (hs:s.size<=9223372036854775807):Calls Tryz.prog 140 #[.string s,.string ⟨#[32]⟩] w fun e w'=>e=.returned (.string (bs (Lib.trimS s.data.toList [32])))/\Below w.heap.size w w' :=
 Tryz.strings_Trim_laid s ⟨#[32]⟩ w hs (by decide) (ascii_of_all (by decide))
theorem readday1w_c (s:ByteArray) (pv:Int) (w:World) (hs:s.size<=9223372036854775807) (hpv:1<=pv/\pv<=9900) :
  Calls Tryz.prog 236 #[.string s,.int .i64 1,.int .i64 pv] w (RetO (Qa1 1 pv s.data.toList) w):=by
 obtain ⟨p1,p2⟩:=hpv
 have hT:=row3 w 4 2 2 3
 obtain ⟨O,hO⟩:=ex_ (Qa1 1 pv s.data.toList)
 rw [hO]
 rw [readO_1] at hO
 have HP:=Hd (parts_c s [4,2,2] w.heap.size 3 (w.alloc (.cells #[.int .i64 (4:Nat),.int .i64 (2:Nat),.int .i64 (2:Nat)] 3)) (by omega) (widths3 (by decide) (by decide) (by decide)) (by decide) (by simp) hT)
 clear hT
 have hal:Below w.heap.size w (w.alloc (.cells #[.int .i64 (4:Nat),.int .i64 (2:Nat),.int .i64 (2:Nat)] 3)):=by go_grown
 have HAL:=Hd hal
 clear hal
 cases hp:prt [4,2,2] s.data.toList with
 | none=>
  rw [hp] at HP hO
  have HO:=Hd (show O=none from hO.symm)
  clear hp hO
  go_enter Tryz.func236,Tryz.ntmps236
  go_wp2_with fail
  refine HP.out.mono ?_
  rintro e w1 ⟨v,rfl,hb1,-⟩
  have hbb:=Qab hb1 HAL.out (by simp)
  go_wp2
  go_ret2
  rw [HO.out]
  exact retO_none rfl hbb
 | some xs=>
  obtain ⟨x,y,z,rfl,bx,by_,bz,bz2,by2,bz1⟩:=prt_three (by decide) hp
  obtain ⟨bx0,bx9⟩:=bx (by decide)
  obtain ⟨by0,by9⟩:=by_ (by decide)
  obtain ⟨bz0,bz9⟩:=bz (by decide)
  clear bx by_ bz bz2 by2 bz1
  rw [hp] at HP hO
  have HO:=Hd (show O=dayO x y z from hO.symm)
  clear hp hO
  have HC:=Hd (fun w=>dayof_c x y z w ⟨by omega,by omega⟩)
  go_enter Tryz.func236,Tryz.ntmps236
  go_wp2_with fail
  refine HP.out.mono ?_
  rintro e w1 ⟨v,rfl,hb1,hv⟩
  obtain ⟨g,c,rfl,hcl⟩:=hv _ rfl (by simp)
  have c0:=hcl 0 (by simp)
  have c1:=hcl 1 (by simp)
  have c2:=hcl 2 (by simp)
  dsimp only [List.getElem_cons_zero,List.getElem_cons_succ,List.length_cons,List.length_nil] at c0 c1 c2
  have hg:g<w1.heap.size:=World.block_lt_of_cell? _ _ c0
  have hbb:=Qab hb1 HAL.out (by simp)
  clear hcl hv hb1
  go_wp2_with fail
  go_region_held3 (fun w'=>w'.cell? ⟨g,0,none⟩=some (.int .i64 x)/\w'.cell? ⟨g,1,none⟩=some (.int .i64 y)/\w'.cell? ⟨g,2,none⟩=some (.int .i64 z)) (first | exact ⟨c0,c1,c2⟩ | exact ⟨(hb2.cell (p:=⟨g,0,none⟩) hg).trans c0,(hb2.cell (p:=⟨g,1,none⟩) hg).trans c1,(hb2.cell (p:=⟨g,2,none⟩) hg).trans c2⟩ | (go_keep;done)) (first | (go_at_call 263;(with_reducible refine (HC.out _).mono ?_);rintro e w2 ⟨rfl,hb2⟩))
  go_wp2
  go_ret2
  rw [HO.out]
  exact retO_day (Qab hb2 hbb.drew hbb.size)
theorem readlong_c (s:ByteArray) (w:World) (hs:s.size<=9223372036854775807) :
  Calls Tryz.prog 203 #[.string s,.int .i64 1,.int .i64 1] w (Qbk (rdN 1 1 s.data.toList) (rdF 1 1 s.data.toList) w):=by
  have HF:=Hd (show formB 1=true by decide)
  have hp:(1:Int)<=1/\(1:Int)<=9900:=by decide
  unfold rdN rdF
  rw [HF.out,if_pos ⟨rfl,hp⟩,if_neg (by simp),if_neg (fun h=>h hp)]
  have HR:=Hd (fun w=>readday1w_c s 1 w hs (by decide))
  cases ho:Qa1 1 1 s.data.toList with
  | none=>
   rw [ho] at HR
   clear ho
   go_enter Tryz.func203,Tryz.ntmps203
   go_wp2_with fail
   refine (isform_c _ _).mono ?_
   rw [HF.out]
   rintro e w1 ⟨rfl,rfl⟩
   go_wp2_with fail
   refine (out_no _ _ _ _ hp).mono ?_
   rintro e w1 ⟨rfl,rfl⟩
   go_wp2_with fail
   refine (HR.out _).mono ?_
   rintro e w1 ⟨n,rfl,-,hb⟩
   go_wp2
   go_ret2
   exact ⟨rfl,hb⟩
  | some v=>
   rw [ho] at HR
   clear ho
   go_enter Tryz.func203,Tryz.ntmps203
   go_wp2_with fail
   refine (isform_c _ _).mono ?_
   rw [HF.out]
   rintro e w1 ⟨rfl,rfl⟩
   go_wp2_with fail
   refine (out_no _ _ _ _ hp).mono ?_
   rintro e w1 ⟨rfl,rfl⟩
   go_wp2_with fail
   refine (HR.out _).mono ?_
   rintro e w1 ⟨n,rfl,hn,hb⟩
   obtain rfl:=hn _ rfl
   clear hn
   go_wp2
   go_ret2
   exact ⟨rfl,hb⟩
theorem rd_long (l:List UInt8):decide (rdF 1 1 l=0)=dayOk l/\rdN 1 1 l=dayN 1 l:=by
 have hf:formB 1=true:=by decide
 have hp:(1:Int)<=1/\(1:Int)<=9900:=by decide
 have a:rdF 1 1 l=if (Qa1 1 1 l).isSome=true then 0 else 10:=by unfold rdF;rw [hf,if_neg (by simp),if_neg (fun h=>h hp)]
 have b:rdN 1 1 l=(Qa1 1 1 l).getD 0:=by unfold rdN;rw [hf,if_pos ⟨rfl,hp⟩]
 refine ⟨?_,b⟩
 rw [a]
 unfold dayOk
 cases (Qa1 1 1 l).isSome<;>rfl
theorem rd_longF (l:List UInt8):(rdF 1 1 l==0)=dayOk l:=by
 rw [<- (rd_long l).1]
 rfl
theorem eql_dec (a b c d:Int) (w:World):(binOp .eql 70 (.agg #[.int .i64 a,.int .i64 b]) (.agg #[.int .i64 c,.int .i64 d])).run Tryz.prog w=.ok (.bool (decide ((a,b)=(c,d)))) w:=by
 have u3:=Tryz.underlying3
 have a3:=Tryz.isAgg3
 have z3:=Tryz.sizeOf3
 have hS:Tryz.prog.underlying 70=some (.struct (Tryz.prog.fieldsOf 70)):=by kernel_rfl
 have hp:Tryz.prog.stoodInHeld 70=false:=by kernel_rfl
 rw [run_eql_struct,show (10000:Nat)=9999+1 from rfl,run_equalIn_agg w 9999 70 _ _ hS hp]
 simp only [Program.fieldsOf,Tryz.underlying70]
 go_simp
 by_cases h1:a=c<;>by_cases h2:b=d<;>simp [h1,h2]
theorem grd_dec (op:BinOp) (x y:Operand) (xs ys:Array Value) (w:World):(eqGuard op 70 x y (.agg xs) (.agg ys)).run Tryz.prog w=.ok () w:=run_eqGuard_agg w op _ x y xs ys (by kernel_rfl)
theorem isvalue_c (c:Col) (s:ByteArray) (w:World) (hs:s.size<=9223372036854775807) :
  Calls Tryz.prog 150 #[colG c,.string s] w (RetB (valOk c s.data.toList) w):=by
 obtain ⟨nm,kd,wd,pl,fm,rt,fl,nd⟩:=c
 unfold colG valOk
 simp only
 have hX:=Qac w (.cells #[.string nm,.int .i64 kd,.int .i64 wd,.int .i64 pl,.int .i64 fm,.bool rt,.int .u8 fl,.bool nd] 60) rfl
 have hB0:Below w.heap.size w (w.alloc (.cells #[.string nm,.int .i64 kd,.int .i64 wd,.int .i64 pl,.int .i64 fm,.bool rt,.int .u8 fl,.bool nd] 60)):=by go_grown
 by_cases h2:kd=2
 ·subst h2
  rw [if_pos rfl]
  have HR:=Hd (fun w=>readtext_c s w hs)
  obtain ⟨⟨u,p,e⟩,hr⟩:=ex_ (Qag s.data.toList)
  have hC:=dec_cases pl s.data.toList
  rw [hr] at HR hC
  simp only at hC
  have HO:=Hd hC
  clear hr hC
  unfold RetD at HR
  rcases HO.out with ⟨h1,h3⟩|⟨h1,q,h3,h4,h5⟩
  ·rw [h3]
   have h1':(e==0)=false:=beq_eq_false_iff_ne.2 h1
   clear h1 h3
   go_enter Tryz.func150,Tryz.ntmps150
   go_wp2_with fail
   refine (HR.out _).mono ?_
   rintro e w1 ⟨rfl,hb1⟩
   have hX1:=Qaa hX hb1
   have hB1:=Qab hb1 hB0 hB0.size
   obtain ⟨⟨x0,x1,x2,x3,x4,x5,x6,x7⟩,x8⟩:=QaC hX1
   clear hX hX1 hb1
   have hBD:Below w.heap.size w (w1.alloc (.cells #[.int .i64 u,.int .i64 p] 70)):=by go_grown
   go_wp2
   go_quiet (fail)
   go_wp2
   go_ret
   exact ⟨rfl,below_drewN hBD _⟩
  ·subst h1
   subst h3
   rw [h5]
   have HL:=Hd (fun w=>least_c u q w h4)
   unfold RetLe at HL
   obtain ⟨⟨v,r⟩,hv⟩:=ex_ (Qa5 u q)
   rw [hv] at HL ⊢
   clear h5 hv h4
   go_enter Tryz.func150,Tryz.ntmps150
   go_wp2_with fail
   refine (HR.out _).mono ?_
   rintro e w1 ⟨rfl,hb1⟩
   have hX1:=Qaa hX hb1
   have hB1:=Qab hb1 hB0 hB0.size
   obtain ⟨⟨x0,x1,x2,x3,x4,x5,x6,x7⟩,x8⟩:=QaC hX1
   have HX1:=Hd hX1
   clear hX hb1
   have hD:=Qac w1 (.cells #[.int .i64 u,.int .i64 (q:Int)] 70) rfl
   have hX2:=Qad HX1.out (.cells #[.int .i64 u,.int .i64 (q:Int)] 70)
   have hBD:Below w.heap.size w (w1.alloc (.cells #[.int .i64 u,.int .i64 (q:Int)] 70)):=by go_grown
   clear x0 x1 x2 x3 x4 x5 x6 x7 x8 hX1 HX1
   go_upto_region 4 with fail
   obtain ⟨D,hDD⟩:=ex_ (w1.heap.size)
   rw [hDD] at hD ⊢
   have hwD:w.heap.size<=D:=by have:=hB1.size;omega
   generalize w1.alloc (.cells #[.int .i64 u,.int .i64 (q:Int)] 70)=w2 at hD hX2 hBD ⊢
   obtain ⟨⟨x0,x1,x2,x3,x4,x5,x6,x7⟩,x8⟩:=QaC hX2
   obtain ⟨d0,d1,-,-,d2⟩:=box2 hD
   clear hX2 hD hB1 hDD
   by_cases hqp:(q:Int)<=pl
   case neg=>
    have hp2:decide ((q:Int)<=pl)=false:=decide_eq_false hqp
    rw [hp2]
    go_quiet (fail)
    go_wp2
    go_ret
    exact ⟨rfl,below_drewN hBD _⟩
   have hp2:decide ((q:Int)<=pl)=true:=decide_eq_true hqp
   rw [hp2]
   have hQ1:=eql_dec v r u q
   have hQ2:=grd_dec
   obtain ⟨B,hBB⟩:=ex_ (decide ((v,r)=(u,(q:Int))))
   have HBB:=Hd (show (decide ((q:Int)<=pl)&&decide ((v,r)=(u,(q:Int))))=B by rw [hp2,hBB];rfl)
   rw [hBB] at hQ1
   clear hBB
   go_region_held3 (fun w'=>w'.cell? ⟨D,0,none⟩=some (.int .i64 u)/\w'.cell? ⟨D,1,none⟩=some (.int .i64 (q:Int))/\w'.cell? ⟨w.heap.size,3,none⟩=some (.int .i64 pl)) (first | exact ⟨d0,d1,x3⟩ | exact ⟨(hb3.cell (p:=⟨D,0,none⟩) d2).trans d0,(hb3.cell (p:=⟨D,1,none⟩) d2).trans d1,(hb3.cell (p:=⟨w.heap.size,3,none⟩) x8).trans x3⟩ | (go_keep;done)) (first | (go_at_call 202;(with_reducible refine (HL.out _).mono ?_);rintro e w3 ⟨rfl,hb3⟩))
   have hB3:=Qab hb3 hBD.drew hBD.size
   go_wp2
   go_ret
   exact ⟨by rw [HBB.out];rfl,hB3⟩
 ·rw [if_neg h2]
  have k2:(kd==2)=false:=beq_eq_false_iff_ne.2 h2
  clear h2
  by_cases h3:kd=3
  ·subst h3
   rw [if_pos rfl]
   have HR:=Hd (fun w=>readlong_c s w hs)
   have hf:=rd_longF s.data.toList
   unfold Qbk at HR
   generalize rdN 1 1 s.data.toList=N at HR
   generalize rdF 1 1 s.data.toList=F at HR hf
   generalize dayOk s.data.toList=D at hf
   go_enter Tryz.func150,Tryz.ntmps150
   go_wp2_with fail
   refine (HR.out _).mono ?_
   rintro e w1 ⟨rfl,hb1⟩
   have hB1:=Qab hb1 hB0 hB0.size
   go_wp2
   go_ret
   exact ⟨rfl,hB1⟩
  ·rw [if_neg h3]
   have k3:(kd==3)=false:=beq_eq_false_iff_ne.2 h3
   clear h3
   have HI:Hid (∀ w,Calls Tryz.prog 157 #[.string s,.int .u8 32,.int .u8 126] w fun e w'=>w=w'/\e=.returned (.bool (inL s.data.toList 32 126))):=Hd (fun w=>inb_c s 32 126 w hs)
   have HT:=Hd (fun w=>trim_blank s w hs)
   unfold txtOk
   have hd:decide (Lib.trimS s.data.toList [32]=s.data.toList)=((bs (Lib.trimS s.data.toList [32])).toList==s.toList):=by
    rw [Lib.toList_data,Lib.toList_data,bs_toList,Bool.eq_iff_iff,decide_eq_true_iff,beq_iff_eq]
   rw [hd]
   generalize bs (Lib.trimS s.data.toList [32])=t at HT
   cases hi:inL s.data.toList 32 126 with
   | false=>
    rw [hi] at HI
    clear hi hd
    go_enter Tryz.func150,Tryz.ntmps150
    go_wp2_with fail
    refine (HI.out _).mono ?_
    rintro e w1 ⟨rfl,rfl⟩
    go_wp2
    go_ret
    exact ⟨rfl,hB0⟩
   | true=>
    rw [hi] at HI
    clear hi hd
    go_enter Tryz.func150,Tryz.ntmps150
    go_wp2_with fail
    refine (HI.out _).mono ?_
    rintro e w1 ⟨rfl,rfl⟩
    go_wp2_with fail
    refine (HT.out _).mono ?_
    rintro e w2 ⟨rfl,hb2⟩
    have hB2:=Qab hb2 hB0 hB0.size
    go_wp2
    go_ret
    exact ⟨rfl,hB2⟩
theorem daytext_c (v fm:Int) (w:World) (hv:1<=v/\v<=3652059) (hf:formB fm=true) (ht:Tab w):Calls Tryz.prog 204 #[.int .i64 v,.int .i64 fm] w (RetSF (dayS fm v) 0 w) :=
 DayText_ok v fm _ _ _ _ _ _ w hf hv.1 hv.2 (dateC_is hv) (dateC_is (thu_bd hv.1 hv.2)) ht
theorem written_c (f:Fmt) (A:Option Addr) (n cp:Nat) (c:Col) (s:ByteArray) (w:World) (hs:s.size<=9223372036854775807) (hv:s≠⟨#[]⟩->valOk c s.data.toList=true) (hk:ColK f.mark c) (ht:Tab w) :
  Calls Tryz.prog 151 #[.agg #[.int .u8 f.mark,.int .u8 f.quote,.slice A n cp,.string f.head,.string f.tail,.string f.count,.string f.sum],colG c,.string s] w (RetS (wrS f.mark c s) w):=by
 obtain ⟨m,q,ks,hd,tl,ct,sm⟩:=f
 obtain ⟨-,-,hpl,hfo,-,-,-⟩:=hk
 obtain ⟨nm,kd,wd,pl,fm,rt,fl,nd⟩:=c
 unfold colG
 simp only at *
 have hF:=Qad (Qac w (.cells #[.int .u8 m,.int .u8 q,.slice A n cp,.string hd,.string tl,.string ct,.string sm] 24) rfl) (.cells #[.string nm,.int .i64 kd,.int .i64 wd,.int .i64 pl,.int .i64 fm,.bool rt,.int .u8 fl,.bool nd] 60)
 have hC:=Qac (w.alloc (.cells #[.int .u8 m,.int .u8 q,.slice A n cp,.string hd,.string tl,.string ct,.string sm] 24)) (.cells #[.string nm,.int .i64 kd,.int .i64 wd,.int .i64 pl,.int .i64 fm,.bool rt,.int .u8 fl,.bool nd] 60) (g:=w.heap.size+1) (by simp)
 have hB0:Below w.heap.size w ((w.alloc (.cells #[.int .u8 m,.int .u8 q,.slice A n cp,.string hd,.string tl,.string ct,.string sm] 24)).alloc (.cells #[.string nm,.int .i64 kd,.int .i64 wd,.int .i64 pl,.int .i64 fm,.bool rt,.int .u8 fl,.bool nd] 60)):=by go_grown
 obtain ⟨⟨f0,f1,f2,f3,f4,f5,f6⟩,f7⟩:=Qai hF
 obtain ⟨⟨x0,x1,x2,x3,x4,x5,x6,x7⟩,x8⟩:=QaC hC
 have g1:=Qah s
 by_cases h0:s=⟨#[]⟩
 ·have HE:=Hd (show wrS m ⟨nm,kd,wd,pl,fm,rt,fl,nd⟩ s=⟨#[]⟩ from if_pos h0)
  rw [decide_eq_true h0] at g1
  clear h0 hv hpl hfo
  go_enter Tryz.func151,Tryz.ntmps151
  go_wp2
  go_ret
  exact ⟨by rw [HE.out];rfl,hB0⟩
 have hv:=hv h0
 rw [decide_eq_false h0] at g1
 have HTB:=Hd (ht.below hB0)
 clear ht
 by_cases h2:kd=2
 ·subst h2
  by_cases hm:m=0
  ·subst hm
   have HE:=Hd (show wrS 0 ⟨nm,2,wd,pl,fm,rt,fl,nd⟩ s=bs (sdig (Qaz (Qag s.data.toList).1 (Qag s.data.toList).2.1 pl.toNat)) by unfold wrS;rw [if_neg h0,if_pos ⟨rfl,rfl⟩])
   have HR:=Hd (fun w=>readtext_c s w hs)
   have hvv:decOk pl s.data.toList=true:=by unfold valOk at hv;simpa using hv
   obtain ⟨p1,p2⟩:=hpl rfl
   obtain ⟨k,rfl⟩:∃ k:Nat,pl=(k:Int):=⟨pl.toNat,by omega⟩
   rcases dec_cases (k:Int) s.data.toList with ⟨h1,h3⟩|⟨h1,qn,h3,h4,h5⟩
   ·rw [hvv] at h3;cases h3
   rw [h5] at hvv
   simp only [Bool.and_eq_true,decide_eq_true_eq] at hvv
   obtain ⟨u,hu⟩:=ex_ ((Qag s.data.toList).1)
   have hr:Qag s.data.toList=(u,(qn:Int),0):=by rw [<- hu,<- h3,<- h1]
   rw [hr] at HE HR
   rw [hu] at h4
   unfold RetD at HR
   have HSC:=Hd (fun w=>scaled_c u qn k w h4 (by omega) (by omega))
   have hbd:=scaled_bound (u:=u) (p:=qn) (q:=k) (by have:=QaV h4;omega) (by omega)
   simp only [Int.toNat_natCast] at HE
   generalize Qaz u (qn:Int) k=z at HE HSC hbd
   have HZ:=Hd (show z.natAbs<10 ^ 200 from Nat.lt_of_lt_of_le (show z.natAbs<10 ^ 25 by omega) (Nat.pow_le_pow_right (by decide) (by decide)))
   clear hv hvv h0 hr h3 h4 h5 h1 hu hbd hpl hfo
   go_enter Tryz.func151,Tryz.ntmps151
   go_wp2_with fail
   refine (HR.out _).mono ?_
   rintro e w1 ⟨rfl,hb1⟩
   have hC1:=Qaa hC hb1
   have hB1:=Qab hb1 hB0 hB0.size
   obtain ⟨⟨x0,x1,x2,x3,x4,x5,x6,x7⟩,x8⟩:=QaC hC1
   clear hF hC hC1 hb1 f0 f1 f2 f3 f4 f5 f6 f7
   have hBD:Below w.heap.size w (w1.alloc (.cells #[.int .i64 u,.int .i64 (qn:Int)] 70)):=by go_grown
   go_wp2_with fail
   refine (HSC.out _).mono ?_
   rintro e w2 ⟨sg,A2,n2,c2,rfl,hbig,hb2⟩
   have hB2:=Qab hb2 hBD hBD.size
   clear x0 x1 x2 x3 x4 x5 x6 x7 x8 hb2
   go_wp2_with fail
   refine (textz_c _ hbig HZ.out).mono ?_
   rintro e w3 ⟨rfl,hb3⟩
   have hB3:=Qab hb3 hB2 hB2.size
   go_wp2
   go_ret
   exact ⟨by rw [HE.out];rfl,hB3⟩
  ·have HE:=Hd (show wrS m ⟨nm,2,wd,pl,fm,rt,fl,nd⟩ s=s by unfold wrS;rw [if_neg h0,if_neg (fun h=>hm h.2),if_neg (show ¬ (2:Int)=3 by decide)])
   have k0:(m==0)=false:=beq_eq_false_iff_ne.2 hm
   clear hm h0 hv hpl hfo
   go_enter Tryz.func151,Tryz.ntmps151
   go_wp2
   go_ret
   exact ⟨by rw [HE.out];rfl,hB0⟩
 have k2:(kd==2)=false:=beq_eq_false_iff_ne.2 h2
 by_cases h3:kd=3
 ·subst h3
  have hvv:dayOk s.data.toList=true:=by unfold valOk at hv;simpa using hv
  have HE:=Hd (show wrS m ⟨nm,3,wd,pl,fm,rt,fl,nd⟩ s=dayS fm (dayN 1 s.data.toList) by unfold wrS;rw [if_neg h0,if_neg (fun h=>h2 h.1),if_pos rfl])
  have HR:=Hd (fun w=>readlong_c s w hs)
  obtain ⟨hfb,-⟩:=formB_of (hfo rfl)
  have hl:=rd_long s.data.toList
  rw [hvv] at hl
  have hl1:=of_decide_eq_true hl.1
  obtain ⟨v,hvd⟩:∃ v,Qa1 1 1 s.data.toList=some v:=Option.isSome_iff_exists.1 hvv
  have hvr:=readO_day hvd
  have hdn:dayN 1 s.data.toList=v:=by unfold dayN;rw [hvd];rfl
  rw [hdn] at HE hl
  rw [hl1,hl.2] at HR
  unfold Qbk at HR
  have HD:=Hd (fun w ht=>daytext_c v fm w hvr hfb ht)
  unfold RetSF at HD
  generalize dayS fm v=D at HE HD
  clear h0 hv hvv hl hl1 hvd hdn h2 hpl hfo
  go_enter Tryz.func151,Tryz.ntmps151
  go_wp2_with fail
  refine (HR.out _).mono ?_
  rintro e w1 ⟨rfl,hb1⟩
  have hC1:=Qaa hC hb1
  have hB1:=Qab hb1 hB0 hB0.size
  have HT1:=Hd (HTB.out.below hb1)
  obtain ⟨⟨x0,x1,x2,x3,x4,x5,x6,x7⟩,x8⟩:=QaC hC1
  clear hF hC hC1 hb1 f0 f1 f2 f3 f4 f5 f6 f7
  go_wp2_with fail
  refine (HD.out _ HT1.out).mono ?_
  rintro e w2 ⟨rfl,hb2⟩
  have hB2:=Qab hb2 hB1 hB1.size
  go_wp2
  go_ret
  exact ⟨by rw [HE.out];rfl,hB2⟩
 ·have HE:=Hd (show wrS m ⟨nm,kd,wd,pl,fm,rt,fl,nd⟩ s=s by unfold wrS;rw [if_neg h0,if_neg (fun h=>h2 h.1),if_neg h3])
  have k3:(kd==3)=false:=beq_eq_false_iff_ne.2 h3
  clear h3 h2 h0 hv hpl hfo
  go_enter Tryz.func151,Tryz.ntmps151
  go_wp2
  go_ret
  exact ⟨by rw [HE.out];rfl,hB0⟩
end Go.Proofs.YtaiabjiehpcaoaaGreatDoor
