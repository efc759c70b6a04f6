/- The walk of reader.tag. What readLine answers. -/
import Derived.Test.YtbfbgappinilmaaGreatDoorI4
import Derived.Test.YtbfbgappinilmaaGreatDoorFB
import Derived.Test.YtbfbgappinilmaaGreatDoorI7
import Derived.Test.YtbfbgappinilmaaGreatDoorZD
import Derived.Test.YtbfbgappinilmaaGreatDoorYP
-- merged: I8 I9 TFA
namespace Go.Proofs.YtbfbgappinilmaaGreatDoor
open Go.RowKit Limb Nmb Work
set_option linter.unusedVariables false
set_option linter.unusedSimpArgs false
def tagN (f:Fmt) (line:ByteArray):Nat :=
 if f.mark=0 then min (kA f.kinds 0).tag.size line.size
 else if Lib.indexByte line.data.toList (qB f.mark)<0 then line.size else (Lib.indexByte line.data.toList (qB f.mark)).toNat
def RetTg (f:Fmt) (A:Option Addr) (cp:Nat) (FA:Nat->Option Addr) (FC:Nat->Nat) (line:ByteArray) (g:Nat) (w:World) (e:Ending) (w':World):Prop :=
 e=.returned (.tuple #[kindG (katK f (line.extract 0 (tagN f line))) (katA f FA (line.extract 0 (tagN f line))) (katC f FC (line.extract 0 (tagN f line))),.bool (decide (0<=katI f (line.extract 0 (tagN f line))))])/\w.grownBy w' (some g) /\
  w'.heap[g]?=some (.cells #[.int .u8 f.mark,.int .u8 f.quote,.slice A f.kinds.length cp,.string f.head,.string f.tail,.string f.count,.string f.sum,.string line,.int .i64 (tagN f line:Int)] 145 (0,0))
theorem cell_farI {w:World} {g i r j:Nat} {u x:Value} (hne:g≠r) (h:w.cell? ⟨g,i,none⟩=some x):(w.setCell ⟨r,j,none⟩ u).cell? ⟨g,i,none⟩=some x:=by
 rw [World.cell?_setCell_other _ _ _ _ (by intro e;injection e;omega)]
 exact h
theorem cell_far4 {w:World} {g i r:Nat} {x a b c d:Value} (hne:g≠r) (h:w.cell? ⟨g,i,none⟩=some x):((((w.setCell ⟨r,0,none⟩ a).setCell ⟨r,1,none⟩ b).setCell ⟨r,2,none⟩ c).setCell ⟨r,3,none⟩ d).cell? ⟨g,i,none⟩=some x :=
 cell_farI hne (cell_farI hne (cell_farI hne (cell_farI hne h)))
set_option maxHeartbeats 4000000 in
set_option maxRecDepth 100000 in
theorem tag_c (f:Fmt) (A:Option Addr) (cp:Nat) (FA:Nat->Option Addr) (FC:Nat->Nat) (line:ByteArray) (g B:Nat) (w:World) (hl:line.size<=6000) (hn0:0<f.kinds.length) (hm:0<=f.mark/\f.mark<=255)
  (hg:w.heap[g]?=some (.cells #[.int .u8 f.mark,.int .u8 f.quote,.slice A f.kinds.length cp,.string f.head,.string f.tail,.string f.count,.string f.sum,.string line,.int .i64 0] 145 (0,0))) (hB:B<=g) (hK:∀ w',Below B w w'->Kinds w' A f.kinds FA FC) :
  Calls Tryz.prog 89 #[.pointer (some ⟨g,0,none⟩)] w (RetTg f A cp FA FC line g w):=by
 have HKA:=Lib.hid (fun t w h=>kindat_c f A cp FA FC t w h)
 have HIX:=Lib.hid (fun w=>ixbyte_c line f.mark w hm)
 unfold RetTg
 obtain ⟨N,hN⟩:∃ x,tagN f line=x:=⟨_,rfl⟩
 have HN:=Lib.hid hN
 rw [hN]
 unfold tagN at HN
 clear hN
 obtain ⟨kb,ko,hA,hkb,hkc⟩:=(hK w (Below.refl _ _)).2.1.get hn0
 have hk0:=hkc 0 (by decide)
 have HK0:=Lib.hid (show ∀ w',Below B w w'->w'.cell? ⟨kb,ko,none⟩=some (.string (kA f.kinds 0).tag) from fun w' hb=>by
  obtain ⟨kb',ko',hA',-,hkc'⟩:=(hK w' hb).2.1.get hn0
  rw [hA] at hA'
  cases hA'
  have h1:=hkc' 0 (by decide)
  simpa [kindV] using h1)
 have HKZ:=Lib.hid ((hK w (Below.refl _ _)).1.1 (kA f.kinds 0) (by rw [<- kA_get hn0];exact List.getElem_mem _)).1
 have hklen:=(hK w (Below.refl _ _)).1.2
 obtain ⟨m,q,ks,hd,tl,ct,sm⟩:=f
 unfold fmtG at HKA
 simp only at HKA HIX HN HKZ HK0 hm hg hn0 hklen hK ⊢
 subst hA
 obtain ⟨n,hn⟩:∃ x,ks.length=x:=⟨_,rfl⟩
 rw [hn] at HKA hg hn0 hklen ⊢
 have HKT:=Lib.hid (fun w h=>HKA.out (line.extract 0 N) w h)
 obtain ⟨KI,hKI⟩:∃ x,katI ⟨m,q,ks,hd,tl,ct,sm⟩ (line.extract 0 N)=x:=⟨_,rfl⟩
 obtain ⟨KK,hKK⟩:∃ x,katK ⟨m,q,ks,hd,tl,ct,sm⟩ (line.extract 0 N)=x:=⟨_,rfl⟩
 obtain ⟨KA,hKA⟩:∃ x,katA ⟨m,q,ks,hd,tl,ct,sm⟩ FA (line.extract 0 N)=x:=⟨_,rfl⟩
 obtain ⟨KC,hKC⟩:∃ x,katC ⟨m,q,ks,hd,tl,ct,sm⟩ FC (line.extract 0 N)=x:=⟨_,rfl⟩
 rw [hKI,hKK,hKA,hKC] at HKT ⊢
 unfold kindG at HKT ⊢
 clear HKA hKI hKK hKA hKC
 have HKB:=Lib.hid hK
 have HRS:=heap_new w (.cells #[.string ⟨#[]⟩,.slice none 0 0,.int .i64 0,.string ⟨#[]⟩] 83) rfl
 have HRS:=Lib.hid HRS
 have HG1:=Lib.hid (heap_old hg (.cells #[.string ⟨#[]⟩,.slice none 0 0,.int .i64 0,.string ⟨#[]⟩] 83))
 have HB1:Hid (Below w.heap.size w (w.alloc (.cells #[.string ⟨#[]⟩,.slice none 0 0,.int .i64 0,.string ⟨#[]⟩] 83))):=Lib.hid (by go_grown)
 have HGL:=Lib.hid (And.intro (lt_heap hg) hB)
 have HBW:=Lib.hid (Nat.le_of_lt (Nat.lt_of_le_of_lt HGL.out.2 HGL.out.1))
 obtain ⟨kt,hkt⟩:∃ x,(kA ks 0).tag=x:=⟨_,rfl⟩
 rw [hkt] at HN HKZ HK0
 have hktz:=HKZ.out
 clear hk0 hkc hkb hK hg hB hn hkt
 go_enter Tryz.func89,Tryz.ntmps89
 go_upto_region 2 with fail
 generalize w.alloc (.cells #[.string ⟨#[]⟩,.slice none 0 0,.int .i64 0,.string ⟨#[]⟩] 83)=w1 at HG1 HRS HB1 ⊢
 obtain ⟨⟨⟨g0,g1,g2,g3,g4,g5,g6,g7,g8⟩,z0,z1,z2,z3,z4,z5,z6,z7,z8⟩,gz⟩:=obox9 HG1.out
 have hk0:=HK0.out w1 (HB1.out.mono HBW.out)
 go_upto_if 10 with fail
 go_cut [4] (fun v wx=>v=.int .i64 (N:Int)/\Hid (wx.heap[g]?=some (.cells #[.int .u8 m,.int .u8 q,.slice (some ⟨kb,ko,none⟩) n cp,.string hd,.string tl,.string ct,.string sm,.string line,.int .i64 0] 145 (0,0)))/\Hid (wx.heap[w.heap.size]?=some (.cells #[.string ⟨#[]⟩,.slice none 0 0,.int .i64 0,.string ⟨#[]⟩] 83 (0,0)))/\Hid (Below w.heap.size w wx))
 case first=>
  by_cases h0:m=0
  ·subst h0
   have HE:=Lib.hid ((if_pos rfl).symm.trans HN.out)
   have hni:((min kt.size line.size:Nat):Int)=(N:Int):=by rw [HE.out]
   have hmn:min (kt.size:Int) (line.size:Int)=(N:Int):=by omega
   clear hni
   go_wp2_with fail
   go_quiet (fail)
   go_wp2_with fail
   go_meet
   exact ⟨rfl,HG1,HRS,Lib.hid (below_drewN HB1.out _)⟩
  have HE:=Lib.hid ((if_neg h0).symm.trans HN.out)
  have k0:(m==0)=false:=beq_eq_false_iff_ne.2 h0
  obtain ⟨X,hX⟩:∃ x,Lib.indexByte line.data.toList (UInt8.ofNat m.toNat)=x:=⟨_,rfl⟩
  rw [hX] at HIX
  rw [show Lib.indexByte line.data.toList (qB m)=X from hX] at HE
  clear h0 hX
  have HIQ:=Lib.hid (fun w=>(HIX.out w).mono fun e w' (h:e=.returned (.int .i64 X)/\w=w')=>(⟨h.1,h.2.symm⟩:e=.returned (.int .i64 X)/\w'=w))
  by_cases hx:X<0
  ·have HE2:=Lib.hid ((if_pos hx).symm.trans HE.out)
   go_wp2_with fail
   go_quiet ((go_at_call 126;exact Calls.quiet_of_same (HIQ.out _)))
   have HG2:=Lib.hid (show (w1.drewN nq).heap[g]?=_ from HG1.out);have HRS2:=Lib.hid (show (w1.drewN nq).heap[w.heap.size]?=_ from HRS.out)
   have HB2:=Lib.hid (below_drewN HB1.out nq)
   clear g0 g1 g2 g3 g4 g5 g6 g7 g8 z0 z1 z2 z3 z4 z5 z6 z7 z8 gz hk0
   generalize w1.drewN nq=w2 at HG2 HRS2 HB2 ⊢
   obtain ⟨⟨⟨g0,g1,g2,g3,g4,g5,g6,g7,g8⟩,z0,z1,z2,z3,z4,z5,z6,z7,z8⟩,gz⟩:=obox9 HG2.out
   go_wp2_with fail
   go_meet
   exact ⟨by rw [HE2.out],HG2,HRS2,HB2⟩
  ·have HE2:=Lib.hid ((if_neg hx).symm.trans HE.out)
   go_wp2_with fail
   go_quiet ((go_at_call 126;exact Calls.quiet_of_same (HIQ.out _)))
   go_wp2_with fail
   go_meet
   exact ⟨by rw [<- HE2.out,Int.toNat_of_nonneg (by omega)],HG1,HRS,Lib.hid (below_drewN HB1.out _)⟩
 case rest=>
  rename World=>w2
  obtain ⟨rfl,HG2,HRS2,HB2⟩:=hcut
  have hNs:N<=line.size:=by
   have hN:=HN.out
   have h3:=data_len6 line
   split at hN
   ·omega
   ·rcases idx_cases (qB m) line.data.toList with ⟨h1,-⟩|⟨o,h1,h2,-⟩
    ·rw [h1] at hN;simp at hN;omega
    ·rw [h1] at hN
     rw [if_neg (by omega)] at hN
     omega
  clear g0 g1 g2 g3 g4 g5 g6 g7 g8 z0 z1 z2 z3 z4 z5 z6 z7 z8 gz hk0 HG1 HRS HB1
  obtain ⟨⟨⟨g0,g1,g2,g3,g4,g5,g6,g7,g8⟩,z0,z1,z2,z3,z4,z5,z6,z7,z8⟩,gz⟩:=obox9 HG2.out
  go_upto_region 8 with fail
  have HG3:Hid ((w2.setCell ⟨g,8,none⟩ (.int .i64 (N:Int))).heap[g]?=some (.cells #[.int .u8 m,.int .u8 q,.slice (some ⟨kb,ko,none⟩) n cp,.string hd,.string tl,.string ct,.string sm,.string line,.int .i64 (N:Int)] 145 (0,0))):=Lib.hid (heap_set HG2.out 8 _)
  have HRS3:Hid ((w2.setCell ⟨g,8,none⟩ (.int .i64 (N:Int))).heap[w.heap.size]?=_):=Lib.hid (heap_far HRS2.out (p:=⟨g,8,none⟩) (by have:=HGL.out.1;show w.heap.size≠g;omega) _)
  have HW3:Hid (w.grownBy (w2.setCell ⟨g,8,none⟩ (.int .i64 (N:Int))) (some g)):=Lib.hid (grownR_set HB2.out)
  clear g0 g1 g2 g3 g4 g5 g6 g7 g8 z0 z1 z2 z3 z4 z5 z6 z7 z8 gz
  generalize w2.setCell ⟨g,8,none⟩ (.int .i64 (N:Int))=w3 at HG3 HRS3 HW3 ⊢
  have HK3:=Lib.hid (HKB.out w3 (belowR_grown HW3.out HGL.out.2 HBW.out))
  have T3:Below w3.heap.size w3 w3:=Below.refl _ _
  have HS3:Hid (∀ wx,Below w3.heap.size w3 wx->(fun w':World=>w'.cell? ⟨g,0,none⟩=some (.int .u8 m)/\w'.cell? ⟨g,1,none⟩=some (.int .u8 q)/\w'.cell? ⟨g,2,none⟩=some (.slice (some ⟨kb,ko,none⟩) n cp)/\w'.cell? ⟨g,3,none⟩=some (.string hd)/\w'.cell? ⟨g,4,none⟩=some (.string tl)/\w'.cell? ⟨g,5,none⟩=some (.string ct)/\w'.cell? ⟨g,6,none⟩=some (.string sm)/\w'.cell? ⟨g,7,none⟩=some (.string line)) wx):=Lib.hid (fun wx h=>by
   obtain ⟨⟨⟨g0,g1,g2,g3,g4,g5,g6,g7,g8⟩,-⟩,-⟩:=obox9 (heap_below HG3.out h)
   exact ⟨g0,g1,g2,g3,g4,g5,g6,g7⟩)
  have HSX:Hid (∀ wx,(fun w':World=>w'.cell? ⟨g,0,none⟩=some (.int .u8 m)/\w'.cell? ⟨g,1,none⟩=some (.int .u8 q)/\w'.cell? ⟨g,2,none⟩=some (.slice (some ⟨kb,ko,none⟩) n cp)/\w'.cell? ⟨g,3,none⟩=some (.string hd)/\w'.cell? ⟨g,4,none⟩=some (.string tl)/\w'.cell? ⟨g,5,none⟩=some (.string ct)/\w'.cell? ⟨g,6,none⟩=some (.string sm)/\w'.cell? ⟨g,7,none⟩=some (.string line)) wx->∀ a b c d,(fun w':World=>w'.cell? ⟨g,0,none⟩=some (.int .u8 m)/\w'.cell? ⟨g,1,none⟩=some (.int .u8 q)/\w'.cell? ⟨g,2,none⟩=some (.slice (some ⟨kb,ko,none⟩) n cp)/\w'.cell? ⟨g,3,none⟩=some (.string hd)/\w'.cell? ⟨g,4,none⟩=some (.string tl)/\w'.cell? ⟨g,5,none⟩=some (.string ct)/\w'.cell? ⟨g,6,none⟩=some (.string sm)/\w'.cell? ⟨g,7,none⟩=some (.string line)) ((((wx.setCell ⟨w.heap.size,0,none⟩ a).setCell ⟨w.heap.size,1,none⟩ b).setCell ⟨w.heap.size,2,none⟩ c).setCell ⟨w.heap.size,3,none⟩ d)):=Lib.hid (fun wx h a b c d=>by
   have hne:g≠w.heap.size:=by have:=HGL.out.1;omega
   obtain ⟨g0,g1,g2,g3,g4,g5,g6,g7⟩:=h
   exact ⟨cell_far4 hne g0,cell_far4 hne g1,cell_far4 hne g2,cell_far4 hne g3,cell_far4 hne g4,cell_far4 hne g5,cell_far4 hne g6,cell_far4 hne g7⟩)
  have i1:(0:Int)<=(N:Int):=by omega
  have i2:(N:Int)<=(line.size:Int):=by omega
  have HR4:=Lib.hid (And.intro (heap_below HRS3.out T3) (lt_heap HRS3.out))
  go_region_held3 (fun w':World=>w'.cell? ⟨g,0,none⟩=some (.int .u8 m)/\w'.cell? ⟨g,1,none⟩=some (.int .u8 q)/\w'.cell? ⟨g,2,none⟩=some (.slice (some ⟨kb,ko,none⟩) n cp)/\w'.cell? ⟨g,3,none⟩=some (.string hd)/\w'.cell? ⟨g,4,none⟩=some (.string tl)/\w'.cell? ⟨g,5,none⟩=some (.string ct)/\w'.cell? ⟨g,6,none⟩=some (.string sm)/\w'.cell? ⟨g,7,none⟩=some (.string line))
   (first | (with_reducible exact HS3.out _ T4) | (with_reducible exact HSX.out _ (HS3.out _ T4) _ _ _ _) | (with_reducible exact HS3.out _ (T4.alloc T4.size _)) | (refine HS3.out _ ?_;go_grown))
   (first | (go_at_call 35;refine (HKT.out _ (by first | exact HK3.out | exact HK3.out.below (by go_grown))).mono ?_;rintro e w4 ⟨rfl,hb4⟩;(have T4:Below w3.heap.size w3 w4:=below_then hb4 (by go_grown) (by first | exact Nat.le_refl _ | (simp only [World.size_alloc,World.size_drew];omega)));obtain ⟨⟨y0,y1,y2,y3⟩,y5,y4⟩:=obox4 (heap_below HRS3.out T4)))
  have HG5:Hid (((((w4.setCell ⟨w.heap.size,0,none⟩ (.string KK.tag)).setCell ⟨w.heap.size,1,none⟩ (.slice KA KK.fields.length KC)).setCell ⟨w.heap.size,2,none⟩ (.int .i64 KK.most)).setCell ⟨w.heap.size,3,none⟩ (.string KK.under)).heap[g]?=some (.cells #[.int .u8 m,.int .u8 q,.slice (some ⟨kb,ko,none⟩) n cp,.string hd,.string tl,.string ct,.string sm,.string line,.int .i64 (N:Int)] 145 (0,0))):=Lib.hid (by
   have hne:g≠w.heap.size:=by have:=HGL.out.1;omega
   exact heap_far (heap_far (heap_far (heap_far (heap_below HG3.out T4) (p:=⟨w.heap.size,0,none⟩) hne _) (p:=⟨w.heap.size,1,none⟩) hne _) (p:=⟨w.heap.size,2,none⟩) hne _) (p:=⟨w.heap.size,3,none⟩) hne _)
  have HR5:Hid (((((w4.setCell ⟨w.heap.size,0,none⟩ (.string KK.tag)).setCell ⟨w.heap.size,1,none⟩ (.slice KA KK.fields.length KC)).setCell ⟨w.heap.size,2,none⟩ (.int .i64 KK.most)).setCell ⟨w.heap.size,3,none⟩ (.string KK.under)).heap[w.heap.size]?=some (.cells #[.string KK.tag,.slice KA KK.fields.length KC,.int .i64 KK.most,.string KK.under] 83 (0,0))):=Lib.hid (heap_set (heap_set (heap_set (heap_set (heap_below HRS3.out T4) 0 _) 1 _) 2 _) 3 _)
  have HW5:Hid (w.grownBy ((((w4.setCell ⟨w.heap.size,0,none⟩ (.string KK.tag)).setCell ⟨w.heap.size,1,none⟩ (.slice KA KK.fields.length KC)).setCell ⟨w.heap.size,2,none⟩ (.int .i64 KK.most)).setCell ⟨w.heap.size,3,none⟩ (.string KK.under)) (some g)):=Lib.hid (by
   have h1:=grown_then HW3.out T4
   refine ⟨h1.os,h1.tape,h1.output,by have:=h1.size;simpa [World.setCell] using this,fun k hk hne=>?_⟩
   refine Eq.trans ?_ (h1.block k hk hne)
   rw [Below.heap_setCell _ ⟨w.heap.size,3,none⟩ _ k (by show k≠w.heap.size;omega),Below.heap_setCell _ ⟨w.heap.size,2,none⟩ _ k (by show k≠w.heap.size;omega),Below.heap_setCell _ ⟨w.heap.size,1,none⟩ _ k (by show k≠w.heap.size;omega),Below.heap_setCell _ ⟨w.heap.size,0,none⟩ _ k (by show k≠w.heap.size;omega)])
  clear y0 y1 y2 y3 y4 y5
  generalize ((((w4.setCell ⟨w.heap.size,0,none⟩ (.string KK.tag)).setCell ⟨w.heap.size,1,none⟩ (.slice KA KK.fields.length KC)).setCell ⟨w.heap.size,2,none⟩ (.int .i64 KK.most)).setCell ⟨w.heap.size,3,none⟩ (.string KK.under))=w5 at HG5 HR5 HW5 ⊢
  obtain ⟨⟨y0,y1,y2,y3⟩,y5,y4⟩:=obox4 HR5.out
  go_wp2_with fail
  refine bodyPost_ret (v:=.tuple #[.agg #[.string KK.tag,.slice KA KK.fields.length KC,.int .i64 KK.most,.string KK.under],.bool (decide (0<=KI))]) (by simp [results,Tryz.results89,go_sem,y0,y1,y2,y3]) rfl ⟨rfl,HW5.out,HG5.out⟩
noncomputable def rdV (m q:Int) (line:ByteArray) (c:Col) (i:Nat):ByteArray×Bool:=if m=0 then fixO c line i else sepO m q c line i
def rdI (m q:Int) (line:ByteArray) (c:Col) (i:Nat):Nat:=if m=0 then i+c.width.toNat else sepI m q line i
noncomputable def rdCols (m q:Int) (line:ByteArray):List Col->Nat->List ByteArray×Nat×Bool
 | [],i=>([],i,true)
 | c :: cs,i=>if (rdV m q line c i).2=true then ((rdV m q line c i).1 :: (rdCols m q line cs (rdI m q line c i)).1,(rdCols m q line cs (rdI m q line c i)).2) else ([],i,false)
def rdAdd (vs:List ByteArray) (r:List ByteArray×Nat×Bool):List ByteArray×Nat×Bool:=(vs++r.1,r.2)
theorem rd_nil (m q:Int) (line:ByteArray) (vs:List ByteArray) (i:Nat):rdAdd vs (rdCols m q line [] i)=(vs,i,true):=by unfold rdCols rdAdd;simp
theorem rd_step {m q:Int} {line:ByteArray} {c:Col} {cs:List Col} {i:Nat} (vs:List ByteArray) (h:(rdV m q line c i).2=true):rdAdd vs (rdCols m q line (c :: cs) i)=rdAdd (vs++[(rdV m q line c i).1]) (rdCols m q line cs (rdI m q line c i)):=by
 rw [rdCols,if_pos h]
 unfold rdAdd
 simp
theorem rd_stop {m q:Int} {line:ByteArray} {c:Col} {cs:List Col} {i:Nat} (vs:List ByteArray) (h:(rdV m q line c i).2=false):rdAdd vs (rdCols m q line (c :: cs) i)=(vs,i,false):=by
 rw [rdCols,if_neg (by rw [h];decide)]
 unfold rdAdd
 simp
theorem rd_le {m q:Int} {line:ByteArray} {c:Col} {i:Nat} (hw:0<=c.width) (hi:i<=line.size) (h:(rdV m q line c i).2=true):rdI m q line c i<=line.size:=by
 unfold rdV at h
 unfold rdI
 by_cases hm:m=0
 ·rw [if_pos hm] at h ⊢
  unfold fixO at h
  split at h
  ·cases h
  ·omega
 ·rw [if_neg hm] at h ⊢
  unfold sepO at h
  split at h
  ·cases h
  rename_i hh
  have hlt:i<line.size:=by
   rcases Nat.lt_or_ge i line.size with h | h
   ·exact h
   ·exact absurd (by rw [List.drop_eq_nil_of_le (by rw [data_len6];exact h)];simp) hh
  unfold sepI
  cases hs:sepEnd m q line.data.toList (i+1) with
  | none=>exact Nat.zero_le _
  | some p=>
   have:=(sep_le (by rw [data_len6];omega) hs).2.1
   rw [data_len6] at this
   exact this
def row00:RowP:=⟨⟨#[]⟩,[]⟩
noncomputable def lineO (f:Fmt) (line:ByteArray):RowP×Int×Int :=
 if 6000<line.size then (row00,0,2)
 else if katI f (line.extract 0 (tagN f line))<0 then (row00,0,9)
 else if (rdCols f.mark f.quote line (katK f (line.extract 0 (tagN f line))).fields (tagN f line)).2.2=false then (row00,((rdCols f.mark f.quote line (katK f (line.extract 0 (tagN f line))).fields (tagN f line)).1.length:Int),10)
 else if (rdCols f.mark f.quote line (katK f (line.extract 0 (tagN f line))).fields (tagN f line)).2.1<line.size then (row00,((katK f (line.extract 0 (tagN f line))).fields.length:Int),10)
 else if (rowF f ⟨(katK f (line.extract 0 (tagN f line))).tag,(rdCols f.mark f.quote line (katK f (line.extract 0 (tagN f line))).fields (tagN f line)).1⟩).2≠0 then
  (row00,(rowF f ⟨(katK f (line.extract 0 (tagN f line))).tag,(rdCols f.mark f.quote line (katK f (line.extract 0 (tagN f line))).fields (tagN f line)).1⟩).1,(rowF f ⟨(katK f (line.extract 0 (tagN f line))).tag,(rdCols f.mark f.quote line (katK f (line.extract 0 (tagN f line))).fields (tagN f line)).1⟩).2)
 else (⟨(katK f (line.extract 0 (tagN f line))).tag,(rdCols f.mark f.quote line (katK f (line.extract 0 (tagN f line))).fields (tagN f line)).1⟩,0,0)
theorem method_c (m q:Int) (A:Option Addr) (n cp:Nat) (hd tl ct sm:ByteArray) (c:Col) (line:ByteArray) (i g B:Nat) (m0:Int) (w:World) (hm:0<=m/\m<=255) (hq:m≠0->q=0∨(0<=q/\q<128)) (hl:line.size<=6000) (hi:i<=line.size) (hk:ColK m c)
  (hg:w.heap[g]?=some (.cells #[.int .u8 m,.int .u8 q,.slice A n cp,.string hd,.string tl,.string ct,.string sm,.string line,.int .i64 (i:Int)] 145 (0,0))) (hB:B<=g) (hT:∀ w',Below B w w'->Tab w') (hM:∀ w',Below B w w'->w'.cell? ⟨1,0,none⟩=some (.int .i64 m0)) :
  Calls Tryz.prog (if m=0 then 91 else 90) #[.pointer (some ⟨g,0,none⟩),colG c] w (RetRd m q A n cp hd tl ct sm line g (rdV m q line c i) (rdI m q line c i) w):=by
 unfold rdV rdI
 by_cases h:m=0
 ·rw [if_pos h,if_pos h,if_pos h]
  exact fixed_c m q A n cp hd tl ct sm c line i g B w h hl hi hk hg hB hT
 ·rw [if_neg h,if_neg h,if_neg h]
  exact separated_c m q A n cp hd tl ct sm c line i g B m0 w h hm (hq h) hl hi hk hg hB hT hM
structure NumV (c:Col) (s:ByteArray) (u:Int) (q:Nat):Prop where
 text:s=bs (textL u q)
 least:lstB u (q:Int)=true
 pos:0<u
 fit:u<=1000000000000000
 places:(q:Int)<=c.places
 full:scaled u (q:Int) c.places.toNat<=1000000000000000
 wide:((Lib.decDigits (scaled u (q:Int) c.places.toNat).toNat).length:Int)<=c.width
 wide2:((textL u q).length:Int)<=c.width
structure NumC (c:Col):Prop where
 kind:c.kind=2
 pl:0<=c.places/\c.places<=9
 width:1<=c.width/\c.width<=100
theorem textL_ne (u:Int) (q:Nat):textL u q≠[]:=fun e=>by
 have:=textL_len u q
 rw [e] at this
 simp only [List.length_nil] at this
 have:=dec_ne u.natAbs
 split at * <;> split at * <;> split at * <;> omega
theorem bs_ne {l:List UInt8} (h:l≠[]):bs l≠⟨#[]⟩:=fun e=>h (by have:=congrArg (fun x:ByteArray=>x.data.toList) e;simpa [bs] using this)
theorem scl_pos {u:Int} {q a:Nat} (h:0<u):0<scaled u (q:Int) a:=by
 unfold scaled
 have h0:0<10 ^ (a-(q:Int).toNat):=Nat.pow_pos (by omega)
 exact Int.mul_pos h (by omega)
theorem num_ok {c:Col} {s:ByteArray} {u:Int} {q:Nat} (hc:NumC c) (h:NumV c s u q):valOk c s.data.toList=true:=by
 have h9:=hc.pl
 have hp:=h.places
 unfold valOk
 rw [if_pos hc.kind,h.text,bs_data]
 unfold decOk
 rw [readText_back (u:=u) (q:=q) ⟨by have:=h.pos;omega,h.fit⟩ (by omega)]
 simp only
 simp [h.least,hp]
theorem num_wr0 {c:Col} {s:ByteArray} {u:Int} {q:Nat} (hc:NumC c) (h:NumV c s u q):wrS 0 c s=bs (Lib.decDigits (scaled u (q:Int) c.places.toNat).toNat):=by
 have h9:=hc.pl
 have hp:=h.places
 unfold wrS
 rw [if_neg (by rw [h.text];exact bs_ne (textL_ne u q)),if_pos ⟨hc.kind,rfl⟩,h.text,bs_data,readText_back (u:=u) (q:=q) ⟨by have:=h.pos;omega,h.fit⟩ (by omega)]
 simp only
 have:=scl_pos (q:=q) (a:=c.places.toNat) h.pos
 rw [sdig_pos (by omega)]
 congr 2
 omega
theorem num_wr1 {c:Col} {s:ByteArray} {u:Int} {q:Nat} {m:Int} (hm:m≠0) (hc:NumC c) (h:NumV c s u q):wrS m c s=s:=by
 unfold wrS
 rw [if_neg (by rw [h.text];exact bs_ne (textL_ne u q)),if_neg (fun k=>hm k.2),if_neg (by rw [hc.kind];decide)]
theorem num_val {c:Col} {s:ByteArray} {u:Int} {q:Nat} {m:Int} (hc:NumC c) (hn:c.need=false) (hm:m=0∨(0<=m/\m<=255/\markF m=false)) (h:NumV c s u q):valF m 0 c s=0:=by
 unfold valF
 rw [if_neg (by rw [h.text];exact bs_ne (textL_ne u q)),if_neg (by rw [num_ok hc h];decide)]
 rcases Classical.em (m=0) with h0 | h0
 ·subst h0
  rw [num_wr0 hc h,bs_size2,if_neg (by have:=h.wide;omega),if_neg (fun k=>k.1 rfl)]
 ·have hm':=hm.resolve_left h0
  rw [num_wr1 h0 hc h,if_neg (by rw [h.text,bs_size2];have:=h.wide2;omega),if_neg]
  rintro ⟨-,-,k⟩
  rw [h.text,bs_data,num_clean hm'.2.2 ⟨hm'.1,hm'.2.1⟩] at k
  omega
theorem dec_dig (n:Nat):∀ c∈Lib.decDigits n,48<=c.toNat/\c.toNat<=57:=by
 induction n using Nat.strongRecOn with
 | ind n ih=>
  intro c hc
  rw [Lib.decDigits] at hc
  split at hc
  ·rename_i h
   rw [List.mem_singleton] at hc
   subst hc
   rw [UInt8.toNat_ofNat']
   omega
  ·rename_i h
   rcases List.mem_append.1 hc with h1 | h1
   ·exact ih (n/10) (by omega) c h1
   ·rw [List.mem_singleton] at h1
    subst h1
    rw [UInt8.toNat_ofNat']
    omega
theorem lst_scale {u:Int} {q:Nat} (h:lstB u (q:Int)=true) (hu:u≠0):∀ {a:Nat},q<=a->leastF (scaled u (q:Int) a) a=(u,(q:Int)):=by
 intro a
 induction a with
 | zero=>
  intro hq
  obtain rfl:q=0:=by omega
  unfold scaled leastF
  simp
 | succ a ih=>
  intro hq
  by_cases e:q=a+1
  ·subst e
   have e1:scaled u ((a+1:Nat):Int) (a+1)=u:=by unfold scaled;simp
   rw [e1]
   exact of_decide_eq_true h
  ·have e1:scaled u (q:Int) (a+1)=scaled u (q:Int) a*10:=by
    unfold scaled
    rw [show a+1-(q:Int).toNat=(a-(q:Int).toNat)+1 by omega,Nat.pow_succ]
    push_cast
    rw [Int.mul_assoc]
   rw [e1,least_step (by omega),Int.mul_ediv_cancel _ (by decide)]
   exact ih (by omega)
theorem trimS_keep {l:List UInt8} (h:∀ c∈l,c≠32):Lib.trimS l [32]=l:=by
 rw [trim_id]
 constructor
 ·intro k
  exact h 32 (List.mem_of_mem_head? k) rfl
 ·intro k
  exact h 32 (List.mem_of_mem_getLast? k) rfl
theorem zeros_drop:∀ (k:Nat) {l:List UInt8},l.head? ≠ some 48->Lib.trimLeftB (List.replicate k 48++l) 48=l
 | 0,l,h=>by
  unfold Lib.trimLeftB
  rw [List.replicate_zero,List.nil_append]
  cases l with
  | nil=>rfl
  | cons a l=>
   have:a≠48:=fun e=>h (by rw [e];rfl)
   rw [List.dropWhile_cons_of_neg (by simpa using this)]
 | k+1,l,h=>by
  have ih:=zeros_drop k h
  unfold Lib.trimLeftB at ih ⊢
  rw [List.replicate_succ,List.cons_append,List.dropWhile_cons_of_pos (by simp)]
  exact ih
theorem num_fil {c:Col} {s:ByteArray} {u:Int} {q:Nat} (hc:NumC c) (hr:c.right=true) (hf:c.fill=48) (h:NumV c s u q):filS 0 c s=bs (List.replicate (c.width.toNat-(Lib.decDigits (scaled u (q:Int) c.places.toNat).toNat).length) 48++Lib.decDigits (scaled u (q:Int) c.places.toNat).toNat):=by
 have hn:Lib.hasPrefix (Lib.decDigits (scaled u (q:Int) c.places.toNat).toNat) [45]=false:=by
  rcases hd:Lib.decDigits (scaled u (q:Int) c.places.toNat).toNat with _ | ⟨a,l⟩
  ·rfl
  ·have:=dec_dig (scaled u (q:Int) c.places.toNat).toNat a (by rw [hd];exact List.mem_cons_self ..)
   have ha:a≠45:=fun e=>by subst e;simp at this
   have hb:((45:UInt8)==a)=false:=beq_eq_false_iff_ne.2 (Ne.symm ha)
   (show (((45:UInt8)==a)&&([]:List UInt8).isPrefixOf l)=false;rw [hb];rfl)
 unfold filS
 rw [if_neg (by rw [h.text];exact bs_ne (textL_ne u q)),num_wr0 hc h,bs_data,if_neg (fun k=>by rw [hn] at k;cases k.2.2),if_pos hr,bs_size2,hf]
 rfl
theorem num_read {c:Col} {s:ByteArray} {u:Int} {q:Nat} (hc:NumC c) (hr:c.right=true) (hf:c.fill=48) (h:NumV c s u q):fromO c (filS 0 c s)=(s,true):=by
 have h9:=hc.pl
 have hp:=h.places
 have hpos:=scl_pos (q:=q) (a:=c.places.toNat) h.pos
 have hfil:=num_fil hc hr hf h
 obtain ⟨n,hn⟩:∃ n,(scaled u (q:Int) c.places.toNat).toNat=n:=⟨_,rfl⟩
 have hN:scaled u (q:Int) c.places.toNat=(n:Int):=by omega
 have hn0:0<n:=by omega
 have hn1:n<=1000000000000000:=by have:=h.full;omega
 rw [hn] at hfil
 have hdig:=dec_dig n
 have hX:∀ x∈List.replicate (c.width.toNat-(Lib.decDigits n).length) (48:UInt8)++Lib.decDigits n,48<=x.toNat/\x.toNat<=57:=fun x hx=>by
  rcases List.mem_append.1 hx with k | k
  ·rw [(List.mem_replicate.1 k).2];decide
  ·exact hdig x k
 have hcut:cutF c (filS 0 c s)=bs (Lib.decDigits n):=by
  unfold cutF
  rw [hfil,bs_data,trimS_keep (fun x hx e=>by have:=hX x hx;subst e;simp at this)]
  have hne:List.replicate (c.width.toNat-(Lib.decDigits n).length) (48:UInt8)++Lib.decDigits n≠[]:=fun e=>by
   have:=(List.append_eq_nil_iff.1 e).2
   have h2:=dec_ne n
   rw [this] at h2
   simp at h2
  rw [if_pos ⟨hc.kind,hf,hne⟩]
  have hpre:Lib.hasPrefix (List.replicate (c.width.toNat-(Lib.decDigits n).length) (48:UInt8)++Lib.decDigits n) [45]=false:=by
   generalize List.replicate (c.width.toNat-(Lib.decDigits n).length) (48:UInt8)++Lib.decDigits n=X at hX
   cases X with
   | nil=>rfl
   | cons a l=>
    have:=hX a (List.mem_cons_self ..)
    have ha:a≠45:=fun e=>by subst e;simp at this
    have hb:((45:UInt8)==a)=false:=beq_eq_false_iff_ne.2 (Ne.symm ha)
    (show (((45:UInt8)==a)&&([]:List UInt8).isPrefixOf l)=false;rw [hb];rfl)
  have htp:Lib.trimPrefix (List.replicate (c.width.toNat-(Lib.decDigits n).length) (48:UInt8)++Lib.decDigits n) [45]=List.replicate (c.width.toNat-(Lib.decDigits n).length) (48:UInt8)++Lib.decDigits n:=by
   unfold Lib.trimPrefix
   rw [hpre]
   rfl
  unfold stripL
  rw [if_neg (by rw [hpre];decide),htp,zeros_drop _ (dec_head n hn0),if_neg (fun e=>by have h2:=dec_ne n;rw [e] at h2;simp at h2)]
 have hval:valO 0 c (bs (Lib.decDigits n))=(s,true):=by
  unfold valO
  have hne:Lib.decDigits n≠[]:=fun e=>by have h2:=dec_ne n;rw [e] at h2;simp at h2
  have hhd:((Lib.decDigits n).head? == some 45)=false:=by
   cases hd:(Lib.decDigits n).head? with
   | none=>rfl
   | some a=>
    have:=hdig a (List.mem_of_mem_head? hd)
    have ha:a≠45:=fun e=>by subst e;simp at this
    simpa using ha
  have hlen:(Lib.decDigits n).length<=16:=by
   refine Nat.not_lt.1 fun k=>?_
   have:=dec_lt (n:=n) (k:=16) (by decide) k
   omega
  have hri:readImp (Lib.decDigits n) c.places=((n:Int),c.places,0):=by
   unfold readImp
   rw [if_neg (fun k=>k ⟨h9.1,h9.2⟩),hhd]
   simp only [Bool.false_eq_true,if_false]
   rw [decide_eq_false (by omega),digB_of (by have:=dec_ne n;omega) hdig,numL_dec,if_neg (by decide),if_pos hn1]
  rw [if_neg (bs_ne hne),if_pos ⟨hc.kind,rfl⟩,bs_data,hri]
  simp only
  have hl:=lst_scale h.least (by have:=h.pos;omega) (a:=c.places.toNat) (by omega)
  rw [hN] at hl
  rw [if_neg (fun k=>k rfl),hl]
  simp only [Int.toNat_natCast]
  have hok:=num_ok hc h
  rw [h.text,bs_data] at hok
  rw [hok,h.text]
 unfold fromO
 rw [hcut,hval]
 simp
structure TxtV (c:Col) (s:ByteArray):Prop where
 seen:∀ x∈s.data.toList,33<=x.toNat/\x.toNat<=126
 ne:s≠⟨#[]⟩
 wide:(s.size:Int)<=c.width
theorem txt_ok {c:Col} {s:ByteArray} (hk:c.kind=1) (h:TxtV c s):valOk c s.data.toList=true:=by
 unfold valOk txtOk
 rw [if_neg (by rw [hk];decide),if_neg (by rw [hk];decide),trimS_keep (fun x hx e=>by have:=h.seen x hx;subst e;simp at this),decide_eq_true rfl,Bool.and_true]
 refine inL_mk fun i hi=>?_
 rw [byA_get hi]
 have:=h.seen _ (List.getElem_mem hi)
 omega
theorem txt_wr {m:Int} {c:Col} {s:ByteArray} (hk:c.kind=1):wrS m c s=s:=by
 unfold wrS
 split
 ·rename_i h;exact h.symm
 ·rw [if_neg (by rw [hk];rintro ⟨k,-⟩;cases k),if_neg (by rw [hk];decide)]
theorem txt_val {c:Col} {s:ByteArray} {m:Int} (hk:c.kind=1) (hn:c.need=false) (h:TxtV c s) (hm:m=0∨(∀ x∈s.data.toList,x≠UInt8.ofNat m.toNat)):valF m 0 c s=0:=by
 unfold valF
 rw [if_neg h.ne,if_neg (by rw [txt_ok hk h];decide),txt_wr hk,if_neg (by have:=h.wide;omega),if_neg]
 rintro ⟨k1,-,k2⟩
 rcases hm with k | k
 ·exact k1 k
 ·rw [ixb_no (fun e=>k _ e rfl)] at k2
  omega
theorem trim_tail {l:List UInt8} (h:∀ c∈l,c≠32) (k:Nat):Lib.trimS (l++List.replicate k 32) [32]=l:=by
 have e:Lib.trimS (l++List.replicate k 32) [32]=((l++List.replicate k 32).reverse.dropWhile ([32].contains ·)).reverse.dropWhile ([32].contains ·):=rfl
 have e2:Lib.trimS l [32]=(l.reverse.dropWhile ([32].contains ·)).reverse.dropWhile ([32].contains ·):=rfl
 have h1:=trimS_keep h
 rw [e2] at h1
 rw [e,List.reverse_append,List.reverse_replicate]
 have h3:∀ k (x:List UInt8),(List.replicate k (32:UInt8)++x).dropWhile ([32].contains ·)=x.dropWhile ([32].contains ·):=by
  intro k x
  induction k with
  | zero=>rfl
  | succ k ih=>rw [List.replicate_succ,List.cons_append,List.dropWhile_cons_of_pos (by simp)];exact ih
 rw [h3]
 exact h1
theorem txt_fil {c:Col} {s:ByteArray} (hk:c.kind=1) (hr:c.right=false) (hf:c.fill=32) (h:TxtV c s):filS 0 c s=bs (s.data.toList++List.replicate (c.width.toNat-s.size) 32):=by
 unfold filS
 rw [if_neg h.ne,txt_wr hk,if_neg (fun k=>by rw [hr] at k;cases k.1),if_neg (by rw [hr];decide),if_neg (by rw [hk];decide),hf]
 rfl
theorem txt_read {c:Col} {s:ByteArray} (hk:c.kind=1) (hr:c.right=false) (hf:c.fill=32) (h:TxtV c s):fromO c (filS 0 c s)=(s,true):=by
 have hcut:cutF c (filS 0 c s)=s:=by
  unfold cutF
  rw [txt_fil hk hr hf h,bs_data,trim_tail (fun x hx e=>by have:=h.seen x hx;subst e;simp at this),if_neg (by rw [hk];rintro ⟨k,-⟩;cases k)]
  exact bs_self s
 have hval:valO 0 c s=(s,true):=by
  unfold valO
  rw [if_neg h.ne,if_neg (by rw [hk];rintro ⟨k,-⟩;cases k),if_neg (by rw [hk];decide),txt_ok hk h]
 unfold fromO
 rw [hcut,hval]
 simp
end Go.Proofs.YtbfbgappinilmaaGreatDoor
