/- The walk of the law of orders and flat rows. Words for the join of a walk and a card: a world in which the listed tables are laid. -/
import Derived.Test.YtbfbgappinilmaaGreatDoorTFM
import Derived.Test.YtbfbgappinilmaaGreatDoorFB
import Derived.Test.YtbfbgappinilmaaGreatDoorCards
import Derived.Test.YtbfbgappinilmaaGreatDoorTie
import Derived.Deep.DeepHandedRow
import Derived.LaidLaws
import Derived.Test.YtbfbgappinilmaaGreatDoorA8
import Derived.Lib.LaidU8
import Derived.MakeChecks
import Derived.Test.YtbfbgappinilmaaGreatDoorU2
import Derived.Test.YtbfbgappinilmaaGreatDoorF1
-- merged: TFL J3 J5 J2 J7
namespace Go.Proofs.YtbfbgappinilmaaGreatDoor
open Go.RowKit Limb Nmb Work
set_option linter.unusedVariables false
set_option linter.unusedSimpArgs false
set_option maxHeartbeats 8000000 in
set_option maxRecDepth 100000 in
theorem law_flat_i (a b c:ByteArray) (day ex:Int) (A:Option Addr) (cp:Nat) (l:List OLf) (m0:Int) (w:World) (hl:Lns w A l) (hn9:l.length<=9223372036854775807) (sa:a.size<=9223372036854775807) (sb:b.size<=9223372036854775807) (sc:c.size<=9223372036854775807) (ht:Tab w) (hM:w.cell? ⟨1,0,none⟩=some (.int .i64 m0)) :
  Calls Tryz.prog 3 #[ordG a b c day ex A l.length cp] w fun e w'=>e=.returned (.bool true)/\Below w.heap.size w w':=by
 obtain ⟨i0,hi,hz0,hz1,hz2⟩:=info_parts Tryz.infoRow
 obtain ⟨i1,hj,hy0,hy1,hy2⟩:=info_parts Tryz.infoDc
 have HI:=Lib.hid hi;have HZ0:=Lib.hid hz0;have HZ1:=Lib.hid hz1;have HZ2:=Lib.hid hz2
 have HJ:=Lib.hid hj;have HY0:=Lib.hid hy0;have HY1:=Lib.hid hy1;have HY2:=Lib.hid hy2
 clear hi hz0 hz1 hz2 hj hy0 hy1 hy2
 have HAL:=Lib.hid alive_c
 have HCO:=Lib.hid (fun w' (hb:Below w.heap.size w w')=>chkord_c a b c day ex A cp l w' (hl.below hb) hn9 sa sb sc)
 have HL:=Lib.hid hl
 have HTB:=Lib.hid (fun w' (hb:Below w.heap.size w w')=>ht.below hb)
 have HML:=Lib.hid (fun w' (hb:Below w.heap.size w w')=>(hb.cell (p:=⟨1,0,none⟩) (World.block_lt_of_cell? _ _ hM)).trans hM)
 obtain ⟨n,hn⟩:∃ n,l.length=n:=⟨_,rfl⟩
 have HN:=Lib.hid hn
 rw [hn] at HCO hn9 ⊢
 unfold ordG at HCO ⊢
 have hb0:=Lib.hid (show Below w.heap.size w (w.alloc (.cells #[.string a,.string b,.string c,.int .i64 day,.int .i64 ex,.slice A n cp] 24)) from (Below.refl _ _).alloc (Nat.le_refl _) _)
 have hX0:=Lib.hid (heap_new w (.cells #[.string a,.string b,.string c,.int .i64 day,.int .i64 ex,.slice A n cp] 24) rfl)
 clear hl hn sa sb sc ht hM
 go_enter Tryz.func3,Tryz.ntmps3
 go_upto_region 1 with fail
 generalize w.alloc (.cells #[.string a,.string b,.string c,.int .i64 day,.int .i64 ex,.slice A n cp] 24)=w0 at hb0 hX0 ⊢
 have hX:=hX0.out
 obtain ⟨⟨x0,x1,x2,x3,x4,x5⟩,-⟩:=obox6o hX
 clear hX
 go_wp2_with fail
 refine (HCO.out w0 hb0.out).mono ?_
 rintro _ w1 ⟨F,rfl,hF,hb1⟩
 have HX1:=Lib.hid (heap_below hX0.out hb1)
 have HB1:=Lib.hid (below_then hb1 hb0.out hb0.out.size)
 have hws:=Lib.hid (lt_heap HX1.out)
 clear hb1 x0 x1 x2 x3 x4 x5 HCO
 by_cases hF0:F=0
 case neg=>
  have hne:(F !=0)=true:=by simpa using hF0
  clear hF hF0
  go_wp2_with fail
  refine (HAL.out w1).mono ?_
  rintro _ w2 ⟨rfl,hb2⟩
  have HB2:=Lib.hid (below_then hb2 HB1.out HB1.out.size)
  clear hb2
  go_wp2
  go_ret
  exact ⟨rfl,HB2.out⟩
 subst hF0
 have ho:=hF rfl
 clear hF
 have HO:=Lib.hid ho
 have hn5:n<=500:=by rw [<- HN.out];exact ho.2.1
 have HLK:=Lib.hid (ord_lins ho)
 have hlj:=Lib.hid (show ∀ j,j<n->LnO (olA l j) from fun j h=>ho.2.2 j (by rw [HN.out];exact h))
 clear ho
 have hX:=HX1.out
 obtain ⟨⟨x0,x1,x2,x3,x4,x5⟩,-⟩:=obox6o hX
 clear hX
 go_wp2
 go_loopw [33,3,4] (fun i o v wr=>∃ (j:Nat) (X D:Option Addr) (c d:Nat),j<=n/\i=.int .i64 j/\o=.slice X j c/\v=.slice D j d/\Hid (BothO w1 wr X j c (linRs (linsF (l.take j))) D j d (decsF (l.take j)))) (fun i _ _ _=>n-(intOf i).toNat)
 case atStart=>exact ⟨0,none,none,0,0,Nat.zero_le _,rfl,rfl,rfl,Lib.hid (BothO.nil w1)⟩
 case round=>
  clear x0 x1 x2 x3 x4 x5
  obtain ⟨j,X,D,c,d,hj,rfl,rfl,rfl,HBO⟩:=hrel
  rcases Nat.lt_or_ge j n with hlt | hge
  ·have HB:=Lib.hid (below_then HBO.out.bel HB1.out HB1.out.size)
   have HK:=Lib.hid (hlj.out j hlt)
   obtain ⟨bb,off,rfl,hbw,hc⟩:=(Rws.below HL.out.2 HB.out).get (show j<l.length by rw [HN.out];exact hlt)
   have c0:=hc 0 (by decide);have c1:=hc 1 (by decide);have c2:=hc 2 (by decide);have c3:=hc 3 (by decide);have c4:=hc 4 (by decide);have c5:=hc 5 (by decide);have c6:=hc 6 (by decide);have c7:=hc 7 (by decide)
   simp only [olV,Nat.add_zero] at c0 c1 c2 c3 c4 c5 c6 c7
   have HTR:=Lib.hid (take_rows (l:=l) (j:=j) (by rw [HN.out];exact hlt))
   have HTD:=Lib.hid (take_decs (l:=l) (j:=j) (by rw [HN.out];exact hlt))
   have HQT:=Lib.hid (fun s hs=>qty_text HK.out (s:=s) hs)
   have HQF:=Lib.hid (qty_decF HK.out)
   have HQK:=Lib.hid (qty_ok HK.out.2)
   have HDB:=Lib.hid HK.out.2.1
   have HAZ:=Lib.hid (show (olA l j).art.size<=40 from by
    have:=HK.out.1
    unfold nameB at this
    simp only [Bool.and_eq_true,decide_eq_true_eq] at this
    have h2:(olA l j).art.data.toList.length=(olA l j).art.size:=by simp
    omega)
   have HSZ:=Lib.hid (show (qtyS (linO (olnO (olA l j))).u (linO (olnO (olA l j))).q).size<=20 from by
    have h1:=HQK.out
    have hl:=lin_ok (x:=olnO (olA l j)) ⟨HK.out.1,h1.1,h1.2.1,h1.2.2⟩
    have h2:=scl_ge (q:=(linO (olnO (olA l j))).q) (a:=3) hl.pos
    have h3:=hl.full
    unfold qtyS
    rw [bs_size2]
    exact text_short hl.pos (by omega) hl.q3)
   have HLR:=Lib.hid (show linR (linO (olnO (olA l j)))=⟨wLn,[(olA l j).art,qtyS (linO (olnO (olA l j))).u (linO (olnO (olA l j))).q]⟩ from rfl)
   obtain ⟨S,hS⟩:∃ S,qtyS (linO (olnO (olA l j))).u (linO (olnO (olA l j))).q=S:=⟨_,rfl⟩
   rw [hS] at HQT HSZ HLR
   rw [HLR.out] at HTR
   clear hS HLR HK hc
   obtain ⟨x,hx⟩:∃ x,olA l j=x:=⟨_,rfl⟩
   rw [hx] at c0 c1 c2 c3 c4 c5 c6 c7 HTR HTD HQT HQF HQK HDB HAZ
   clear hx
   obtain ⟨no,art,u,p,un,pu,pp,due⟩:=x
   dsimp only at c0 c1 c2 c3 c4 c5 c6 c7 HTR HTD HQT HQF HQK HDB HAZ
   obtain ⟨q,hq⟩:∃ q:Nat,p=(q:Int):=⟨p.toNat,by have:=HQK.out.2.1.1;omega⟩
   subst hq
   rw [Int.toNat_natCast] at HQT HQF
   have HNM:=Lib.hid (fun w=>normal_c u q w HDB.out)
   unfold RetLe at HNM
   obtain ⟨⟨U,Q⟩,hUQ⟩:∃ r,leastF u q=r:=⟨_,rfl⟩
   rw [hUQ] at HQT HQF HNM
   have HTX:=Lib.hid (fun w=>wtext_c U Q w)
   simp only at HQT HQF HNM
   rw [HQF.out] at HTX
   clear hUQ HQF HDB
   obtain ⟨RS,hRS⟩:∃ x,linRs (linsF (l.take j))=x:=⟨_,rfl⟩
   obtain ⟨DS,hDS⟩:∃ x,decsF (l.take j)=x:=⟨_,rfl⟩
   rw [hRS] at HBO HTR
   rw [hDS] at HBO HTD
   clear hRS hDS
   have HXL:=Lib.hid (heap_new wr (.cells #[.int .i64 no,.string art,.int .i64 u,.int .i64 (q:Int),.string un,.int .i64 pu,.int .i64 pp,.int .i64 due] 33) rfl)
   have hbL:Below wr.heap.size wr (wr.alloc (.cells #[.int .i64 no,.string art,.int .i64 u,.int .i64 (q:Int),.string un,.int .i64 pu,.int .i64 pp,.int .i64 due] 33)):=(Below.refl _ _).alloc (Nat.le_refl _) _
   have HBO2:=Lib.hid (HBO.out.below hbL)
   clear hbL
   go_upto_region 8 with fail
   obtain ⟨g,hg⟩:∃ x,wr.heap.size=x:=⟨_,rfl⟩
   rw [hg] at HXL
   try rw [hg]
   generalize wr.alloc (.cells #[.int .i64 no,.string art,.int .i64 u,.int .i64 (q:Int),.string un,.int .i64 pu,.int .i64 pp,.int .i64 due] 33)=w2 at HXL HBO2 ⊢
   clear hg c0 c1 c2 c3 c4 c5 c6 c7 hbw HBO HB
   have hXL:=HXL.out
   obtain ⟨⟨c0,c1,c2,c3,c4,c5,c6,c7⟩,-⟩:=obox8o hXL
   clear hXL
   go_wp2_with fail
   refine (HNM.out w2).mono ?_
   rintro _ w3 ⟨rfl,hb3⟩
   have HXL3:=Lib.hid (heap_below HXL.out hb3)
   have HBO3:=Lib.hid (HBO2.out.below hb3)
   clear hb3 c0 c1 c2 c3 c4 c5 c6 c7
   go_wp2_with fail
   refine (HTX.out w3).mono ?_
   rintro _ w4 ⟨s,rfl,hs,hb4⟩
   obtain rfl:=HQT.out s hs
   have HXL4:=Lib.hid (heap_below HXL3.out hb4)
   have HBO4:=Lib.hid (HBO3.out.below hb4)
   clear hb4 hs
   have hXL:=HXL4.out
   obtain ⟨⟨c0,c1,c2,c3,c4,c5,c6,c7⟩,hgz⟩:=obox8o hXL
   clear hXL c0 c4 c5 c6 c7
   obtain ⟨RA,RC,hbm⟩:=HBO4.out
   have HBM:=Lib.hid hbm
   have hzr:w1.heap.size<=w4.heap.size:=hbm.bel.size
   clear hbm HNM HTX HBO2 HBO3 HBO4 HXL HXL3
   have HSW:=Lib.hid (show ∀ wx,Below w4.heap.size w4 wx->wx.cell? ⟨g,1,none⟩=some (.string art)/\wx.cell? ⟨g,2,none⟩=some (.int .i64 u)/\wx.cell? ⟨g,3,none⟩=some (.int .i64 (q:Int)) from fun wx hb=>by
    obtain ⟨⟨-,k1,k2,k3,-⟩,-⟩:=obox8o (heap_below HXL4.out hb)
    exact ⟨k1,k2,k3⟩)
   go_wp2_with fail
   go_region_held3 (fun w'=>w'.cell? ⟨g,1,none⟩=some (.string art)/\w'.cell? ⟨g,2,none⟩=some (.int .i64 u)/\w'.cell? ⟨g,3,none⟩=some (.int .i64 (q:Int)))
    (first | (go_keep;done) | (refine HSW.out _ ?_;go_grown;done) | (refine HSA.out _ ?_;go_grown;done) | (refine ⟨?_,?_,?_⟩<;>assumption))
    (first
     | (refine step_append_lies _ rfl (.tmp 54) (.tmp 57) 29 rfl w1.heap.size 31 i1 (.agg #[.int .i64 0,.int .i64 0]) 2 16 Tryz.underlying29 HJ.out HY0.out HY1.out HY2.out rfl (by decide) (.slice D j d) j (decC DS) rfl (own_below HPA.out.down (by go_grown)) ⟨_,0,none⟩ 1 1 [.int .i64 u,.int .i64 (q:Int)] rfl rfl (by first | exact World.news_of_block (cs:=#[.int .i64 u,.int .i64 (q:Int)]) (t:=31) (fr:=(0,0)) (heap_new _ _ (by simp)) | exact World.news_of_block (cs:=#[.int .i64 u,.int .i64 (q:Int)]) (t:=31) (fr:=(0,0)) (KPA.out _ (heap_new _ _ (by simp))) | exact World.news_of_block (cs:=#[.int .i64 u,.int .i64 (q:Int)]) (t:=31) (fr:=(0,0)) (KPA.out _ (heap_old (heap_new _ _ (by simp)) _)) | exact World.news_of_block (cs:=#[.int .i64 u,.int .i64 (q:Int)]) (t:=31) (fr:=(0,0)) (KPA.out _ (heap_old (heap_old (heap_new _ _ (by simp)) _) _))) (by intro u hu;simp at hu;rcases hu with rfl | rfl<;>rfl) (by decide) (by unfold maxLen;omega) (by omega) (by (try simp);omega) _ rfl ?_;intro G2 e2 wB ownB hgB hatB hltB;(have hpB:=HPA.out.decs (by go_grown) hgB ownB);(have kB:=tgrown_heap (heap_below HKA.out (by go_grown)) (own_below HPA.out.down (by go_grown)) hgB (by decide));(obtain ⟨⟨-,s1,s2,s3,-⟩,sz⟩:=obox8o kB);(have HPB:=Lib.hid hpB);clear hpB kB ownB hgB hatB hltB)
     | (refine step_append_lies _ rfl (.tmp 46) (.tmp 52) 28 rfl w1.heap.size 39 i0 (.agg #[.string ⟨#[]⟩,.slice none 0 0]) 2 40 Tryz.underlying28 HI.out HZ0.out HZ1.out HZ2.out rfl (by decide) (.slice X j c) j (rowsC 2 j (rowV RS RA RC)) rfl (own_below HBM.out.own (by go_grown)) ⟨_,0,none⟩ 1 1 [.string ⟨#[76]⟩,.slice (some ⟨_,0,none⟩) 2 2] rfl rfl (by first | exact World.news_of_block (cs:=#[.string ⟨#[76]⟩,.slice (some ⟨_,0,none⟩) 2 2]) (t:=39) (fr:=(0,0)) (heap_new _ _ (by simp)) | exact World.news_of_block (cs:=#[.string ⟨#[76]⟩,.slice (some ⟨_,0,none⟩) 2 2]) (t:=39) (fr:=(0,0)) (heap_old (heap_new _ _ (by simp)) _)) (by intro u hu;simp at hu;rcases hu with rfl | rfl<;>rfl) (by decide) (by unfold maxLen;omega) (by omega) (by (try simp);omega) _ rfl ?_;intro G1 e1 wA ownA hgA hatA hltA;(have hpA:=HBM.out.rows (a:=art) (s:=s) (by go_grown) (by first | exact heap_new _ _ (by simp) | exact heap_old (heap_new _ _ (by simp)) _ | exact heap_old (heap_old (heap_new _ _ (by simp)) _) _) (by have:=HAZ.out;omega) (by have:=HSZ.out;omega) (by decide) hgA ownA);(have kA:=tgrown_heap (heap_below HXL4.out (by go_grown)) (own_below HBM.out.own (by go_grown)) hgA (by decide));(have KPA:=Lib.hid (fun (gg:Nat) (hh:_)=>tgrown_heap (g:=gg) (cs:=#[.int .i64 u,.int .i64 (q:Int)]) (T:=31) (f:=(0,0)) hh (own_below HBM.out.own (by go_grown)) hgA (by decide)));(obtain ⟨⟨-,q1,q2,q3,-⟩,qz⟩:=obox8o kA);(have HKA:=Lib.hid kA);(have HSA:=Lib.hid (show ∀ wx,Below wA.heap.size wA wx->wx.cell? ⟨g,1,none⟩=some (.string art)/\wx.cell? ⟨g,2,none⟩=some (.int .i64 u)/\wx.cell? ⟨g,3,none⟩=some (.int .i64 (q:Int)) from fun wx hb=>by obtain ⟨⟨-,k1,k2,k3,-⟩,-⟩:=obox8o (heap_below HKA.out hb);exact ⟨k1,k2,k3⟩));(have HPA:=Lib.hid hpA);(have hzA:w1.heap.size<=wA.heap.size:=HPA.out.bel.size);clear hpA kA ownA hgA hatA hltA)
     | fail)
   all_goals
    have hpB:=HPB.out
    clear HPB HPA HKA KPA HSA HSW q1 q2 q3 s1 s2 s3 c1 c2 c3 hzA HBM HXL4
    go_wp2
    go_roundw
    case rel=>
     refine ⟨j+1,_,_,_,_,by omega,by go_num,rfl,rfl,Lib.hid ?_⟩
     rw [HTR.out,HTD.out]
     exact ⟨_,_,hpB⟩
    case measure=>simp [intOf];omega
  ·obtain rfl:j=n:=by omega
   have hT:l.take j=l:=by rw [<- HN.out,List.take_length]
   rw [hT] at HBO
   obtain ⟨⟨RA,RC,hrm⟩,hcap,hds⟩:=HBO.out.out (decs37_R HO.out)
   have HB:=Lib.hid (below_then HBO.out.bel HB1.out HB1.out.size)
   have HX:=Lib.hid (heap_below HX1.out HBO.out.bel)
   have HRM:=Lib.hid hrm;have HDS:=Lib.hid hds
   have HF0:=Lib.hid flt0_c;have HF1:=Lib.hid flt1_c
   have HCL:=Lib.hid (fun A FA FC w' h1 h2 h3=>closed37 HO.out (A:=A) (X:=X) (FA:=FA) (RA:=RA) (FC:=FC) (RC:=RC) (c:=c) (w:=w') h1 h2 (by rw [HN.out];exact hcap.1) h3)
   have HWR:=Lib.hid (fun A FA FC X RA RC c w' h1 h2 h3 h4=>write37 HO.out (A:=A) (X:=X) (FA:=FA) (RA:=RA) (FC:=FC) (RC:=RC) (c:=c) (w:=w') (m0:=m0) h1 h2 h3 h4)
   have HRD:=Lib.hid (fun A FA FC w' h1 h2 h3=>read37 HO.out (A:=A) (FA:=FA) (FC:=FC) (w:=w') (m0:=m0) h1 h2 h3)
   have HTN:=Lib.hid (fun A FA FC B GA GC X RA RC c w' h1 h2 h3 h4=>turn37 HO.out (A:=A) (B:=B) (X:=X) (FA:=FA) (RA:=RA) (FC:=FC) (RC:=RC) (GA:=GA) (GC:=GC) (c:=c) (w:=w') h1 h2 h3 h4)
   have HTT:=Lib.hid (fun A FA FC X RA RC c w' h1 h2 h3 h4=>tot37 HO.out (A:=A) (X:=X) (FA:=FA) (RA:=RA) (FC:=FC) (RC:=RC) (c:=c) (w:=w') h1 h2 h3 h4)
   have HSU:=Lib.hid (fun A FA FC X RA RC c w' h1 h2 h3=>sum37 HO.out (A:=A) (X:=X) (FA:=FA) (RA:=RA) (FC:=FC) (RC:=RC) (c:=c) (w:=w') h1 h2 h3)
   have HCC:=Lib.hid (fun A FA FC X RA RC c w' h1 h2 h3=>col37 HO.out (A:=A) (X:=X) (FA:=FA) (RA:=RA) (FC:=FC) (RC:=RC) (c:=c) (w:=w') h1 h2 h3)
   obtain ⟨E,P,hex,hcm⟩:=exact37 HO.out
   rw [HN.out] at HCL HWR HRD HTN HTT HSU HCC hex
   have HEX:=Lib.hid hex;have HCM:=Lib.hid hcm
   have HIT:=Lib.hid (fun w' h=>itoas_c (j:Int) w' (by omega) h)
   obtain ⟨TX,hTX⟩:∃ x,txt37 l=x:=⟨_,rfl⟩
   rw [hTX] at HWR HRD
   obtain ⟨SU,hSU⟩:∃ x,sumU (linsF l)=x:=⟨_,rfl⟩
   obtain ⟨SQ,hSQ⟩:∃ x:Int,(sumQ (linsF l):Int)=x:=⟨_,rfl⟩
   rw [hSU,hSQ] at HSU HCM
   obtain ⟨IT,hIT⟩:∃ x,bs (Lib.itoa (j:Int))=x:=⟨_,rfl⟩
   rw [hIT] at HCC
   rw [show (⟨(Lib.itoa (j:Int)).toArray⟩:ByteArray)=IT from hIT] at HIT
   obtain ⟨AR,hAR⟩:∃ x,allRs (linsF l)=x:=⟨_,rfl⟩
   rw [hAR] at HCL HWR HRD HTN HTT HSU HCC
   obtain ⟨LR,hLR⟩:∃ x,linRs (linsF l)=x:=⟨_,rfl⟩
   rw [hLR] at HRM HCL
   clear hrm hds hex hcm hTX hSU hSQ hIT hAR hLR hT HBO hcap
   go_wp2_with fail
   refine (HF0.out wr).mono ?_
   rintro _ w2 ⟨A2,FA2,FC2,rfl,hk,hb⟩
   have HK:=Lib.hid hk
   have HB2:=Lib.hid (below_then hb HB.out HB.out.size)
   have HX2:=Lib.hid (heap_below HX.out hb)
   have HRM2:=Lib.hid (HRM.out.below hb)
   have HDS2:=Lib.hid (HDS.out.below hb)
   clear hk hb
   have HCL2:=Lib.hid (HCL.out A2 FA2 FC2 w2 HK.out HRM2.out (HTB.out _ HB2.out))
   go_wp2_with fail
   refine HCL2.out.mono ?_
   rintro _ w3 ⟨X3,c3,rfl,⟨RA3,RC3,hr⟩,hb⟩
   have HR3:=Lib.hid hr
   have HB3:=Lib.hid (below_then hb HB2.out HB2.out.size)
   have HX3:=Lib.hid (heap_below HX2.out hb)
   have HDS3:=Lib.hid (HDS2.out.below hb)
   clear hr hb
   go_wp2_with fail
   refine (HF0.out w3).mono ?_
   rintro _ w4 ⟨A4,FA4,FC4,rfl,hk,hb⟩
   have HK4:=Lib.hid hk
   have HB4:=Lib.hid (below_then hb HB3.out HB3.out.size)
   have HX4:=Lib.hid (heap_below HX3.out hb)
   have HR4:=Lib.hid (HR3.out.below hb)
   have HDS4:=Lib.hid (HDS3.out.below hb)
   clear hk hb
   have HWR4:=Lib.hid (HWR.out A4 FA4 FC4 X3 RA3 RC3 c3 w4 HK4.out HR4.out (HTB.out _ HB4.out) (HML.out _ HB4.out))
   go_wp2_with fail
   refine HWR4.out.mono ?_
   rintro _ w5 ⟨rfl,hb⟩
   have HB5:=Lib.hid (below_then hb HB4.out HB4.out.size)
   have HX5:=Lib.hid (heap_below HX4.out hb)
   have HDS5:=Lib.hid (HDS4.out.below hb)
   clear hb
   go_wp2_with fail
   refine (HF0.out w5).mono ?_
   rintro _ w6 ⟨A6,FA6,FC6,rfl,hk,hb⟩
   have HK6:=Lib.hid hk
   have HB6:=Lib.hid (below_then hb HB5.out HB5.out.size)
   have HX6:=Lib.hid (heap_below HX5.out hb)
   have HDS6:=Lib.hid (HDS5.out.below hb)
   clear hk hb
   have HRD6:=Lib.hid (HRD.out A6 FA6 FC6 w6 HK6.out (HTB.out _ HB6.out) (HML.out _ HB6.out))
   go_wp2_with fail
   refine HRD6.out.mono ?_
   rintro _ w7 ⟨X7,c7,rfl,⟨RA7,RC7,hr⟩,hb⟩
   have HR7:=Lib.hid hr
   have HB7:=Lib.hid (below_then hb HB6.out HB6.out.size)
   have HX7:=Lib.hid (heap_below HX6.out hb)
   have HDS7:=Lib.hid (HDS6.out.below hb)
   clear hr hb
   go_wp2_with fail
   refine (HF0.out w7).mono ?_
   rintro _ w8 ⟨A8,FA8,FC8,rfl,hk,hb⟩
   have HK8:=Lib.hid hk
   have HB8:=Lib.hid (below_then hb HB7.out HB7.out.size)
   have HX8:=Lib.hid (heap_below HX7.out hb)
   have HR8:=Lib.hid (HR7.out.below hb)
   have HDS8:=Lib.hid (HDS7.out.below hb)
   clear hk hb
   go_wp2_with fail
   refine (HF1.out w8).mono ?_
   rintro _ w9 ⟨A9,FA9,FC9,rfl,hk,hb⟩
   have HK9:=Lib.hid hk
   have HB9:=Lib.hid (below_then hb HB8.out HB8.out.size)
   have HX9:=Lib.hid (heap_below HX8.out hb)
   have HR9:=Lib.hid (HR8.out.below hb)
   have HDS9:=Lib.hid (HDS8.out.below hb)
   have HTN9:=Lib.hid (HTN.out A8 FA8 FC8 A9 FA9 FC9 X7 RA7 RC7 c7 w9 (HK8.out.below hb) HK9.out HR9.out (HTB.out _ HB9.out))
   clear hk hb
   go_wp2_with fail
   refine HTN9.out.mono ?_
   rintro _ w10 ⟨X10,c10,rfl,⟨RA10,RC10,hr⟩,hcp,hb⟩
   have HR10:=Lib.hid hr
   have HCP:=Lib.hid hcp
   have HB10:=Lib.hid (below_then hb HB9.out HB9.out.size)
   have HX10:=Lib.hid (heap_below HX9.out hb)
   have HDS10:=Lib.hid (HDS9.out.below hb)
   clear hr hcp hb
   go_wp2_with fail
   refine (HAL.out w10).mono ?_
   rintro _ w11 ⟨rfl,hb⟩
   have HB11:=Lib.hid (below_then hb HB10.out HB10.out.size)
   have HX11:=Lib.hid (heap_below HX10.out hb)
   have HDS11:=Lib.hid (HDS10.out.below hb)
   have HR11:=Lib.hid (HR10.out.below hb)
   clear hb
   go_wp2_with fail
   refine (HF1.out w11).mono ?_
   rintro _ w12 ⟨A12,FA12,FC12,rfl,hk,hb⟩
   have HK12:=Lib.hid hk
   have HB12:=Lib.hid (below_then hb HB11.out HB11.out.size)
   have HX12:=Lib.hid (heap_below HX11.out hb)
   have HDS12:=Lib.hid (HDS11.out.below hb)
   have HR12:=Lib.hid (HR11.out.below hb)
   clear hk hb
   have HTT12:=Lib.hid (HTT.out A12 FA12 FC12 X10 RA10 RC10 c10 w12 HK12.out HR12.out HCP.out (HTB.out _ HB12.out))
   go_wp2_with fail
   refine HTT12.out.mono ?_
   rintro _ w13 ⟨rfl,hb⟩
   have HB13:=Lib.hid (below_then hb HB12.out HB12.out.size)
   have HX13:=Lib.hid (heap_below HX12.out hb)
   have HDS13:=Lib.hid (HDS12.out.below hb)
   have HR13:=Lib.hid (HR12.out.below hb)
   clear hb
   go_wp2_with fail
   refine (HF1.out w13).mono ?_
   rintro _ w14 ⟨A14,FA14,FC14,rfl,hk,hb⟩
   have HK14:=Lib.hid hk
   have HB14:=Lib.hid (below_then hb HB13.out HB13.out.size)
   have HX14:=Lib.hid (heap_below HX13.out hb)
   have HDS14:=Lib.hid (HDS13.out.below hb)
   have HR14:=Lib.hid (HR13.out.below hb)
   clear hk hb
   have HSU14:=Lib.hid (HSU.out A14 FA14 FC14 X10 RA10 RC10 c10 w14 HK14.out HR14.out (HTB.out _ HB14.out))
   go_wp2_with fail
   refine HSU14.out.mono ?_
   rintro _ w15 ⟨rfl,hb⟩
   have HB15:=Lib.hid (below_then hb HB14.out HB14.out.size)
   have HX15:=Lib.hid (heap_below HX14.out hb)
   have HDS15:=Lib.hid (HDS14.out.below hb)
   have HR15:=Lib.hid (HR14.out.below hb)
   clear hb
   have HY16:=Lib.hid (heap_new w15 (.cells #[.int .i64 SU,.int .i64 SQ] 31) rfl)
   have hb:Below w15.heap.size w15 (w15.alloc (.cells #[.int .i64 SU,.int .i64 SQ] 31)):=(Below.refl _ _).alloc (Nat.le_refl _) _
   have HB16:=Lib.hid (below_then hb HB15.out HB15.out.size)
   have HX16:=Lib.hid (heap_below HX15.out hb)
   have HDS16:=Lib.hid (HDS15.out.below hb)
   have HR16:=Lib.hid (HR15.out.below hb)
   clear hb
   go_wp2_with fail
   obtain ⟨g1,hg1⟩:∃ x,w15.heap.size=x:=⟨_,rfl⟩
   rw [hg1] at HY16
   try rw [hg1]
   generalize w15.alloc (.cells #[.int .i64 SU,.int .i64 SQ] 31)=w16 at HY16 HB16 HX16 HDS16 HR16 ⊢
   clear hg1
   have HEX16:=Lib.hid (HEX.out D d w16 HDS16.out)
   refine HEX16.out.mono ?_
   rintro _ w17 ⟨rfl,hb⟩
   have HB17:=Lib.hid (below_then hb HB16.out HB16.out.size)
   have HX17:=Lib.hid (heap_below HX16.out hb)
   have HDS17:=Lib.hid (HDS16.out.below hb)
   have HR17:=Lib.hid (HR16.out.below hb)
   have HY17:=Lib.hid (heap_below HY16.out hb)
   clear hb
   have HZ18:=Lib.hid (heap_new w17 (.cells #[.int .i64 E,.int .i64 P] 31) rfl)
   have hb:Below w17.heap.size w17 (w17.alloc (.cells #[.int .i64 E,.int .i64 P] 31)):=(Below.refl _ _).alloc (Nat.le_refl _) _
   have HB18:=Lib.hid (below_then hb HB17.out HB17.out.size)
   have HX18:=Lib.hid (heap_below HX17.out hb)
   have HDS18:=Lib.hid (HDS17.out.below hb)
   have HR18:=Lib.hid (HR17.out.below hb)
   have HY18:=Lib.hid (heap_below HY17.out hb)
   clear hb
   go_upto_region 30 with fail
   obtain ⟨g2,hg2⟩:∃ x,w17.heap.size=x:=⟨_,rfl⟩
   rw [hg2] at HZ18
   try rw [hg2]
   generalize w17.alloc (.cells #[.int .i64 E,.int .i64 P] 31)=w18 at HZ18 HY18 HB18 HX18 HDS18 HR18 ⊢
   clear hg2
   have hy:=HY18.out
   have hz:=HZ18.out
   obtain ⟨y0,y1,y2,y3,y4⟩:=box2 hy
   obtain ⟨z0,z1,z2,z3,z4⟩:=box2 hz
   clear hy hz
   go_wp2_with fail
   refine (HCM.out w18).mono ?_
   rintro _ w19 ⟨rfl,hb⟩
   have HB19:=Lib.hid (below_then hb HB18.out HB18.out.size)
   have HX19:=Lib.hid (heap_below HX18.out hb)
   have HDS19:=Lib.hid (HDS18.out.below hb)
   have HR19:=Lib.hid (HR18.out.below hb)
   clear hb y0 y1 y2 y3 y4 z0 z1 z2 z3 z4
   go_wp2_with fail
   refine (HF1.out w19).mono ?_
   rintro _ w20 ⟨A20,FA20,FC20,rfl,hk,hb⟩
   have HK20:=Lib.hid hk
   have HB20:=Lib.hid (below_then hb HB19.out HB19.out.size)
   have HX20:=Lib.hid (heap_below HX19.out hb)
   have HDS20:=Lib.hid (HDS19.out.below hb)
   have HR20:=Lib.hid (HR19.out.below hb)
   clear hk hb
   have HCC20:=Lib.hid (HCC.out A20 FA20 FC20 X10 RA10 RC10 c10 w20 HK20.out HR20.out (HTB.out _ HB20.out))
   go_wp2_with fail
   refine HCC20.out.mono ?_
   rintro _ w21 ⟨A21,c21,rfl,hsv,hb⟩
   have HSV:=Lib.hid hsv
   have HB21:=Lib.hid (below_then hb HB20.out HB20.out.size)
   have HX21:=Lib.hid (heap_below HX20.out hb)
   clear hb hsv
   have hX:=HX21.out
   obtain ⟨⟨x0,x1,x2,x3,x4,x5⟩,-⟩:=obox6o hX
   clear hX
   have HIT21:=Lib.hid (HIT.out w21 (HTB.out _ HB21.out))
   go_wp2_with fail
   refine HIT21.out.mono ?_
   rintro _ w22 ⟨rfl,hb⟩
   have HSV22:=Lib.hid (HSV.out.below hb)
   have HB22:=Lib.hid (below_then hb HB21.out HB21.out.size)
   clear hb x0 x1 x2 x3 x4 x5
   have HN23:=Lib.hid (heap_new w22 (.cells #[.string IT] 9) rfl)
   have hb:Below w22.heap.size w22 (w22.alloc (.cells #[.string IT] 9)):=(Below.refl _ _).alloc (Nat.le_refl _) _
   have HSV23:=Lib.hid (HSV22.out.below hb)
   have HB23:=Lib.hid (below_then hb HB22.out HB22.out.size)
   clear hb
   go_wp2_with fail
   obtain ⟨g3,hg3⟩:∃ x,w22.heap.size=x:=⟨_,rfl⟩
   rw [hg3] at HN23
   try rw [hg3]
   generalize w22.alloc (.cells #[.string IT] 9)=w23 at HN23 HSV23 HB23 ⊢
   clear hg3
   have HEQ:=Lib.hid (eqstrs_c [IT] A21 (some ⟨g3,0,none⟩) c21 1 w23 HSV23.out (fun _=>⟨g3,0,rfl,lt_heap HN23.out,fun k hk=>by
    obtain rfl:k=0:=by simp at hk;omega
    exact cell_of_row w23 g3 0 _ _ _ HN23.out⟩) (by simp))
   refine HEQ.out.mono ?_
   rintro _ w24 ⟨rfl,hb⟩
   have HB24:=Lib.hid (below_then hb HB23.out HB23.out.size)
   clear hb
   go_wp2
   go_ret
   exact ⟨rfl,HB24.out⟩
theorem law_flat_e (a b c:ByteArray) (day ex:Int) (A:Option Addr) (cp:Nat) (l:List OLf) (w:World) (hl:Lns w A l) (hn9:l.length<=9223372036854775807) (sa:a.size<=9223372036854775807) (sb:b.size<=9223372036854775807) (sc:c.size<=9223372036854775807) (ht:Tab w) (hM:∃ m,w.cell? ⟨1,0,none⟩=some (.int .i64 m)) :
  Calls Tryz.prog 3 #[ordG a b c day ex A l.length cp] w fun e w'=>e=.returned (.bool true)/\Below w.heap.size w w':=by
 obtain ⟨m,hm⟩:=hM
 exact law_flat_i a b c day ex A cp l m w hl hn9 sa sb sc ht hm
end Go.Proofs.YtbfbgappinilmaaGreatDoor
namespace Go.Proofs.YtbfbgappinilmaaGreatDoor
open Go.ChangeShapes Go.WideShapes Go.ChangeAt Go.RowKit
set_option linter.unusedVariables false
set_option linter.unusedSimpArgs false
def tabCells:Nat->DataW Unit->List Value
 | 0,_=>[]
 | f+1,.agg l=>l.flatMap (tabCells f)
 | _,.lit (.int k n)=>[.int k n]
 | _,_=>[]
def putTab (h:Array Obj) (g:Nat) (d:DataW Unit):Array Obj:=h.modify g fun
 | .cells _ t frozen=>.cells (tabCells 4 d).toArray t frozen
 | o=>o
theorem tab_of_laid {l:List (String×DataW Unit)} {W:World} {d:DataW Unit} (hn:(l.all fun x=>x.2.handleName?.isNone)=true) (hm:("internal/strconv.uint64pow10",d)∈l) (hd:d=Lib.tabData .u64 Lib.pow10Tab) (h:laidMetH Tryz.prog l W):Tab W:=by
 subst hd
 rw [MakeChecks.laidMetH_plain _ _ _ hn] at h
 obtain ⟨g',t',cs,fuel,p,hg',ht',hvar,hd⟩:=Lib.laidMet.reads h hm
 obtain rfl:=Option.some.inj ((show Tryz.prog.globalNamed "internal/strconv.uint64pow10" = some 2 by kernel_rfl).symm.trans hg')
 obtain rfl:=Option.some.inj ((show (Tryz.prog.globals[2]?).map (·.type)=some 202 by kernel_rfl).symm.trans ht')
 unfold Tab Lib.TabIs
 rw [hvar]
 have:=Lib.cells_of_tab (e:=125) Tryz.underlying202 Tryz.underlying125 (by kernel_rfl) (by kernel_rfl) hd
 rw [<- this]
end Go.Proofs.YtbfbgappinilmaaGreatDoor
namespace Go.Proofs.YtbfbgappinilmaaGreatDoor
open Go.ChangeShapes Go.WideShapes Go.ChangeAt Go.RowKit Go.Deep
set_option linter.unusedVariables false
section
variable {H:Type} {enc:TypeId×Value->H} {P:Program} {w:World} {base:Nat} {spare:Nat->Bool} {held:Bool}
theorem open_rows {t e:TypeId} {fs:Array Field} {fuel:Nat} {cs:List Value} {x:DataW H×List MemPlace} (ht:P.underlying t=some (.slice e)) (he:P.underlying e=some (.struct fs))
  (hone:oneCellFields P fs=true) (hC:P.cellsOf e=fs.size) (h:DataW.trod enc P w base spare held fuel t cs=some x) :
  cs=[.slice Option.none 0 0] ∨
  ∃ (a:Addr) (len cap m:Nat),cs=[.slice (some a) len cap]/\len<=cap/\cap<=maxLen/\m=(if spare a.block then cap else len) /\
   ∀ i,i<m->∀ (j:Nat) (f:Field),fs[j]?=some f->∃ (n:Nat) (v:Value) (y:DataW H×List MemPlace),w.cell? (a.add (i*fs.size+j))=some v/\DataW.trod enc P w base spare held n f.type [v]=some y:=by
 rcases open_slice ht h with h0 | ⟨a,len,cap,m,n,D,Pl,hcs,hb,hl,hm,hmm,hx,hi⟩
 ·exact .inl h0.1
 ·refine .inr ⟨a,len,cap,m,hcs,hl,hm,hmm,fun i him=>?_⟩
  obtain ⟨cs',hc,ht'⟩:=hi i him
  rw [hC] at hc
  obtain ⟨ys,n',hn',hy,hlen,hyl,hf⟩:=DataW.trod_struct he ht'
  obtain ⟨_,hcl,hat⟩:=World.cells?_some hc
  intro j f hj
  obtain ⟨ho,hk⟩:=hone_of hone j f hj
  have hjl:j<fs.size:=(Array.getElem?_eq_some_iff.1 hj).1
  have hcell:=hat j hjl
  have hv:cs'[j]?=some (cs'[j]'(by omega)):=List.getElem?_eq_getElem (by omega)
  have h1:=hf j f hj
  rw [ho,hk] at h1
  have hone':(cs'.drop j).take 1=[cs'[j]'(by omega)]:=by
   rw [List.drop_eq_getElem_cons (by omega)]
   rfl
  rw [hone'] at h1
  have hys:ys[j]?=some (ys[j]'(by omega)):=List.getElem?_eq_getElem (by omega)
  refine ⟨_,_,_,?_,h1.trans hys⟩
  rw [<- Go.Deep.add_add,hcell,hv]
end
theorem opened {H:Type} {enc:TypeId×Value->H} {w:World} {base:Nat} {a:Option Addr} {len cap:Nat} {d:DataW H} {p:List MemPlace}
  (h:DataW.Trod enc Tryz.prog w base (fun _=>true) true 29 (.slice a len cap) d p) :
  len<=cap/\cap<=9223372036854775807/\(a=Option.none->len=0/\cap=0)/\(∀ x,a=some x->0<cap->∃ b off,x=⟨b,off,Option.none⟩)/\∃ ds,Decs w a len ds:=by
 obtain ⟨fuel,hf⟩:=h
 rcases open_rows Tryz.underlying29 Tryz.underlying31 (by kernel_rfl) (by kernel_rfl) hf with hcs | ⟨x,l,c,m,hcs,hl,hm,hmm,hc⟩
 ·simp [Value.cells] at hcs
  obtain ⟨rfl,rfl,rfl⟩:=hcs
  exact ⟨Nat.le_refl _,by omega,fun _=>⟨rfl,rfl⟩,(fun x hx=>by cases hx),[],rfl,(fun d hd=>by simp at hd),(fun h=>by omega)⟩
 ·simp [Value.cells] at hcs
  obtain ⟨rfl,rfl,rfl⟩:=hcs
  simp only [if_true] at hmm
  subst hmm
  obtain ⟨b,off,spot⟩:=x
  have hint:∀ i,i<m->∀ j,j<2->∃ n,w.cell? ((⟨b,off,spot⟩:Addr).add (i*2+j))=some (.int .i64 n)/\(-9223372036854775808<=n/\n<=9223372036854775807):=by
   intro i hi j hj
   match j,hj with
   | 0,_=>
    obtain ⟨n,v,y,h1,h2⟩:=hc i hi 0 _ rfl
    obtain ⟨k,hk,_,hw⟩:=DataW.trod_int Tryz.underlying3 h2
    simp at hk
    subst hk
    exact ⟨k,h1,i64_wf hw⟩
   | 1,_=>
    obtain ⟨n,v,y,h1,h2⟩:=hc i hi 1 _ rfl
    obtain ⟨k,hk,_,hw⟩:=DataW.trod_int Tryz.underlying3 h2
    simp at hk
    subst hk
    exact ⟨k,h1,i64_wf hw⟩
  have hspot:0<m->spot=Option.none:=fun h=>by
   obtain ⟨n,h1,_⟩:=hint 0 h 0 (by omega)
   have:=World.cell?_spot h1
   rw [Addr.add,if_pos (by simp)] at this
   exact this
  refine ⟨hl,by unfold maxLen at hm;omega,(fun h=>by cases h),fun y hy h0=>?_,?_⟩
  ·injection hy with hy
   subst hy
   rw [hspot h0]
   exact ⟨_,_,rfl⟩
  ·obtain ⟨F,hF⟩:∃ F:Nat->Int,∀ i,i<m->w.cell? ((⟨b,off,spot⟩:Addr).add (i*2))=some (.int .i64 (F i))/\(-9223372036854775808<=F i/\F i<=9223372036854775807) :=
    choose_lt fun i hi=>hint i hi 0 (by omega)
   obtain ⟨G,hG⟩:∃ F:Nat->Int,∀ i,i<m->w.cell? ((⟨b,off,spot⟩:Addr).add (i*2+1))=some (.int .i64 (F i))/\(-9223372036854775808<=F i/\F i<=9223372036854775807) :=
    choose_lt fun i hi=>hint i hi 1 (by omega)
   refine ⟨(List.range len).map fun i=>(F i,G i),by simp,?_,?_⟩
   ·intro d hd
    obtain ⟨i,hi,rfl⟩:=List.mem_map.1 hd
    rw [List.mem_range] at hi
    exact ⟨(hF i (by omega)).2,(hG i (by omega)).2⟩
   ·intro hn
    have hs:=hspot (by omega)
    subst hs
    have hadd:∀ k,(⟨b,off,Option.none⟩:Addr).add k=⟨b,off+k,Option.none⟩:=by intro k;unfold Addr.add;split<;>simp_all
    refine ⟨b,off,rfl,?_,fun j hj=>?_⟩
    ·have:=(hF 0 (by omega)).1
     rw [hadd] at this
     exact World.block_lt_of_cell? w _ this
    ·have e1:dU ((List.range len).map fun i=>(F i,G i)) j=F j:=by simp [dU,List.getD_eq_getElem?_getD,hj]
     have e2:dP ((List.range len).map fun i=>(F i,G i)) j=G j:=by simp [dP,List.getD_eq_getElem?_getD,hj]
     rw [e1,e2]
     have h1:=(hF j (by omega)).1
     have h2:=(hG j (by omega)).1
     rw [hadd] at h1 h2
     exact ⟨h1,h2⟩
end Go.Proofs.YtbfbgappinilmaaGreatDoor
namespace Go.Proofs.YtbfbgappinilmaaGreatDoor
open Go.ChangeShapes Go.WideShapes Go.ChangeAt Go.RowKit Go.Deep Go.Joins
set_option linter.unusedVariables false
set_option linter.unusedSimpArgs false
section
variable {H:Type} {enc:TypeId×Value->H} {P:Program} {w:World} {base:Nat} {spare:Nat->Bool} {held:Bool}
theorem open_structF {r:Reach} {b0:Nat} {t:TypeId} {fs:Array Field} {v:Value} {d:DataW H} {p:List MemPlace} (hs:P.underlying t=some (.struct fs)) (hone:oneCellFields P fs=true) (hC:P.cellsOf t=fs.size)
  (hv:Value.okWide P w r b0 t v) (h:DataW.Trod enc P w base spare held t v d p) :
  ∃ (cs:List Value) (n:Nat),v=.agg ⟨cs⟩/\cs.length=fs.size/\∀ (j:Nat) (f:Field),fs[j]?=some f->∃ c y,cs[j]?=some c/\DataW.trod enc P w base spare held n f.type [c]=some y:=by
 obtain ⟨⟨cs⟩,rfl,hsz⟩:=okWide_struct hs hv
 have hl:cs.length=fs.size:=hsz.trans hC
 obtain ⟨fuel,hf⟩:=h
 obtain ⟨ys,n,_,_,_,hyl,hg⟩:=DataW.trod_struct hs hf
 refine ⟨cs,n,rfl,hl,fun j f hj=>?_⟩
 obtain ⟨ho,hk⟩:=hone_of hone j f hj
 have hjl:j<fs.size:=(Array.getElem?_eq_some_iff.1 hj).1
 have hone':(cs.drop j).take 1=[cs[j]'(by omega)]:=by
  rw [List.drop_eq_getElem_cons (by omega)]
  rfl
 have h1:=hg j f hj
 rw [ho,hk] at h1
 simp only [Value.cells,hone'] at h1
 exact ⟨_,_,List.getElem?_eq_getElem (by omega),h1.trans (List.getElem?_eq_getElem (by omega))⟩
end
theorem choose_ltF {α:Type} (d:α) {n:Nat} {p:Nat->α->Prop} (h:∀ i,i<n->∃ z,p i z):∃ F:Nat->α,∀ i,i<n->p i (F i) :=
 ⟨fun i=>if hi:i<n then Classical.choose (h i hi) else d,fun i hi=>by
  show p i (if hi:i<n then Classical.choose (h i hi) else d)
  rw [dif_pos hi]
  exact Classical.choose_spec (h i hi)⟩
end Go.Proofs.YtbfbgappinilmaaGreatDoor
