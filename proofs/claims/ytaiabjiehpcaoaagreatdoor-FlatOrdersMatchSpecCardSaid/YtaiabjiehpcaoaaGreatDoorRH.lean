/- The walk of the reference's ReadText. A region that draws its order: its loads may be taken first as long as its first store has not come up. -/
import Derived.Test.YtaiabjiehpcaoaaGreatDoorT16
import Derived.Test.YtaiabjiehpcaoaaGreatDoorShelf
import Derived.Deep.RegionHeld3
import Derived.StillTail
import Derived.WalkKit
import Derived.Lib.Hide
-- merged: T17 RH
set_option maxHeartbeats 4000000
set_option maxRecDepth 100000
namespace Go.Proofs.YtaiabjiehpcaoaaGreatDoor
open Go.RowKit Limb Work Nmb
set_option linter.unusedVariables false
set_option linter.unusedSimpArgs false
set_option linter.unnecessarySimpa false
theorem snoc_ind8 {P:List UInt8->Prop} (h0:P []) (h1:∀ l c,P l->P (l++[c])) (l:List UInt8):P l:=by
 rw [<- List.reverse_reverse l]
 induction l.reverse with
 | nil=>exact h0
 | cons a l ih=>rw [List.reverse_cons];exact h1 _ _ ih
theorem dw_nil (p:UInt8->Bool):∀ l:List UInt8,l.dropWhile p=[]↔∀ x∈l,p x=true
 | []=>by simp
 | a :: l=>by
  rw [List.dropWhile_cons]
  by_cases h:p a=true
  ·rw [if_pos h,dw_nil p l];simp [h]
  ·rw [if_neg h];simp [h]
theorem dw_head (p:UInt8->Bool):∀ (l:List UInt8) (y:UInt8) (r:List UInt8),l.dropWhile p=y :: r->p y=false
 | [],y,r,h=>by simp at h
 | a :: l,y,r,h=>by
  rw [List.dropWhile_cons] at h
  by_cases hp:p a=true
  ·rw [if_pos hp] at h;exact dw_head p l y r h
  ·rw [if_neg hp] at h
   injection h with h1 h2
   subst h1
   simpa using hp
theorem trim_nil_iff (l:List UInt8) (c:UInt8):Lib.trimB l c=[]↔∀ x∈l,x=c:=by
 unfold Lib.trimB Lib.trimLeftB Lib.trimRightB
 constructor
 ·intro h
  rcases hr:l.reverse.dropWhile (· == c) with _ | ⟨y,r⟩
  ·intro x hx
   have h2:=(dw_nil _ _).1 hr x (by simpa using hx)
   simpa using h2
  ·exfalso
   have hy:¬ ((y==c)=true):=by
    have:=dw_head _ _ _ _ hr
    rw [this];decide
   rw [hr] at h
   have h2:=(dw_nil _ _).1 h y (by simp)
   exact hy h2
 ·intro h
  have h1:l.reverse.dropWhile (· == c)=[]:=(dw_nil _ _).2 (fun x hx=>by simpa using h x (by simpa using hx))
  rw [h1]
  rfl
theorem num_zero_iff:∀ l:List UInt8,(∀ c∈l,48<=c.toNat/\c.toNat<=57)->(numL l=0↔∀ c∈l,c=48):=by
 intro l
 induction l using snoc_ind8 with
 | h0=>intro _;simp [numL]
 | h1 l c ih => 
  intro h
  have h1:=ih (fun x hx=>h x (by simp [hx]))
  have hc:=h c (by simp)
  have e:numL (l++[c])=numL l*10+(c.toNat-48):=by unfold numL;rw [List.foldl_append];rfl
  rw [e]
  have hcc:c.toNat=48↔c=48:=⟨fun h=>UInt8.toNat_inj.1 h,fun h=>by rw [h];rfl⟩
  constructor
  ·intro h2 x hx
   rcases List.mem_append.1 hx with hx | hx
   ·exact h1.1 (by omega) x hx
   ·have:=List.mem_singleton.1 hx
    subst this
    exact hcc.1 (by omega)
  ·intro h2
   have h3:=h1.2 (fun x hx=>h2 x (by simp [hx]))
   have h4:=hcc.2 (h2 c (by simp))
   omega
theorem digB_app {l m:List UInt8} (h1:digB l=true) (h2:digB m=true):digB (l++m)=true:=by
 unfold digB at h1 h2 ⊢
 rw [Bool.and_eq_true] at h1 h2 ⊢
 refine ⟨?_,by rw [inB_append,h1.2,h2.2];rfl⟩
 cases l with
 | nil=>exact absurd h1.1 (by decide)
 | cons a l=>rfl
theorem readR_t {l:List UInt8} {m:Nat} {nb:Int} (hm:numL l=m):Qa6 true l nb=if m=0 then (0,0,10) else if m<=1000000000000000 then (-(m:Int),nb,0) else (0,0,1):=by
 unfold Qa6 made
 rw [hm,if_pos rfl,Int.natAbs_neg,Int.natAbs_natCast]
theorem readR_f {l:List UInt8} {m:Nat} {nb:Int} (hm:numL l=m):Qa6 false l nb=if m<=1000000000000000 then ((m:Int),nb,0) else (0,0,1):=by
 unfold Qa6 made
 rw [hm,if_neg (by decide),Int.natAbs_natCast]
theorem rreadtext_c (s:ByteArray) (w:World) (hs:s.size<=9223372036854775807) :
  Calls Tryz.prog 79 #[.string s] w (RetD (Qag s.data.toList) w):=by
 have hsl:s.data.toList.length=s.size:=by simp
 have hX:=Qac w (.cells #[.int .i64 0,.int .i64 0] 70) rfl
 have hb0:Below w.heap.size w (w.alloc (.cells #[.int .i64 0,.int .i64 0] 70)):=by go_grown
 by_cases h40:40<s.size
 ·have h40':(40:Int)<(s.size:Int):=by omega
  have HE:=Hd (show Qag s.data.toList=(0,0,10) by unfold Qag;simp only;rw [hsl,decide_eq_true h40];simp)
  clear h40
  obtain ⟨g0,g1,g2,g3,g4⟩:=box2 hX
  go_enter Tryz.func79,Tryz.ntmps79
  go_wp2
  exact bodyPost_ret (v:=.tuple #[.agg #[.int .i64 0,.int .i64 0],.int .i64 10]) (by simp [results,Tryz.results79,go_sem,g0,g1]) rfl (RetD.of (r:=(0,0,10)) ⟨rfl,by go_grown⟩ HE.out.symm)
 have h40':¬ (40:Int)<(s.size:Int):=by omega
 go_enter Tryz.func79,Tryz.ntmps79
 go_wp2_with fail
 refine (cutp_c s 45 _ hs).mono ?_
 rintro e w1 ⟨rfl,t,rfl,ht⟩
 have htl:t.size<=s.size:=by
  have h1:t.data.toList.length=t.size:=by simp
  rw [<- h1,ht,<- hsl]
  split
  ·simp
  ·exact Nat.le_refl _
 have HT:=Hd ht;clear ht
 go_wp2_with fail
 refine (cut_c t 46 _ (by omega)).mono ?_
 rintro e w3 ⟨⟨n,rfl⟩,a,b,rfl,ha,hb⟩
 have hXn:((w.alloc (.cells #[.int .i64 0,.int .i64 0] 70)).drewN n).heap[w.heap.size]?=some (.cells #[.int .i64 0,.int .i64 0] 70 (0,0)):=by exact hX
 have hbn:=below_drewN hb0 n
 clear hX hb0
 generalize (w.alloc (.cells #[.int .i64 0,.int .i64 0] 70)).drewN n=W at hXn hbn ⊢
 obtain ⟨g0,g1,g2,g3,g4⟩:=box2 hXn
 have hlen:=cutL_len t.data.toList 46
 have htl2:t.data.toList.length=t.size:=by simp
 rw [<- ha,<- hb,htl2] at hlen
 have hal:a.data.toList.length=a.size:=by simp
 have hbl:b.data.toList.length=b.size:=by simp
 rw [hal,hbl] at hlen
 have hlen1:=hlen.1
 have HN:=Hd hlen.2
 have hfin:Qag s.data.toList=if decide (40<s.size)||!Qbd a.data.toList||((cutL t.data.toList 46).2.2&&(!digB b.data.toList||decide (9<b.size))) then (0,0,10) else Qa6 (hasB s 45) (a.data.toList++b.data.toList) b.size:=by
  unfold Qag
  simp only
  have h2:(if (s.data.toList.head? == some 45)=true then s.data.toList.tail else s.data.toList)=t.data.toList:=HT.out.symm
  rw [h2,<- ha,<- hb,hsl,hbl]
  rfl
 rw [decide_eq_false h40] at hfin
 have HF:=Hd hfin
 obtain ⟨neg,hneg⟩:=ex_ (hasB s 45)
 rw [hneg] at HF ⊢
 obtain ⟨has,hhas⟩:=ex_ ((cutL t.data.toList 46).2.2)
 rw [hhas] at HF HN ⊢
 clear ha hb hlen htl2 hsl hneg hhas hfin h40
 have HDA:=Hd (fun w=>tisdig_c a w (by omega))
 cases hda:digB a.data.toList with
 | false=>
  have hw:Qbd a.data.toList=false:=by unfold Qbd;rw [hda];rfl
  have HE:=Hd (show Qag s.data.toList=(0,0,10) by rw [HF.out,hw];simp)
  rw [hda] at HDA
  clear hda hw
  go_wp2_with fail
  refine (HDA.out _).mono ?_
  rintro e w4 ⟨rfl,rfl⟩
  go_wp2
  exact bodyPost_ret (v:=.tuple #[.agg #[.int .i64 0,.int .i64 0],.int .i64 10]) (by simp [results,Tryz.results79,go_sem,g0,g1]) rfl (RetD.of (r:=(0,0,10)) ⟨rfl,by go_grown⟩ HE.out.symm)
 | true=>
 rw [hda] at HDA
 go_wp2_with fail
 refine (HDA.out _).mono ?_
 rintro e w4 ⟨rfl,rfl⟩
 have ha0:0<a.size:=dig_size hda
 have hhd:=head_get ha0
 have hwd:Qbd a.data.toList=(a.data.toList.length==1||!(a.data.toList.head? == some 48)):=by unfold Qbd;rw [hda];rfl
 rw [hal,hhd] at hwd
 by_cases hbad:1<a.size/\a[0]=48
 ·have HE:=Hd (show Qag s.data.toList=(0,0,10) by
   have e1:(a.size==1)=false:=beq_eq_false_iff_ne.2 (by omega)
   have e2:Qbd a.data.toList=false:=by rw [hwd,e1,hbad.2];decide
   rw [HF.out,e2];simp)
  obtain ⟨z1,z2⟩:=hbad
  have z3:(1:Int)<(a.size:Int):=by omega
  have z4:((a[0].toNat:Int)==48)=true:=by rw [z2];decide
  clear hwd hhd z2 hda
  go_wp2
  exact bodyPost_ret (v:=.tuple #[.agg #[.int .i64 0,.int .i64 0],.int .i64 10]) (by simp [results,Tryz.results79,go_sem,g0,g1]) rfl (RetD.of (r:=(0,0,10)) ⟨rfl,by go_grown⟩ HE.out.symm)
 have hwt:Qbd a.data.toList=true:=by
  rw [hwd]
  by_cases h1:a.size=1
  ·rw [h1];rfl
  ·have h2:a[0]≠48:=fun h=>hbad ⟨by omega,h⟩
   simp [h2]
 rw [hwt] at HF
 have hdaa:=digB_all hda
 clear hwd hhd
 cases has with
 | false=>
  have hb0:=HN.out rfl
  have hbz:b.size=0:=by rw [<- hbl,hb0];rfl
  have hread:Qag s.data.toList=Qa6 neg (a.data.toList++b.data.toList) b.size:=by rw [HF.out];rfl
  have hdall:digB (a.data.toList++b.data.toList)=true:=by rw [hb0,List.append_nil];exact hda
  have hb9:¬ (9:Int)<(b.size:Int):=by omega
  clear hb0 hbz
  obtain ⟨C,hC⟩:=ex_ (a++b)
  have hCl:C.data.toList=a.data.toList++b.data.toList:=by rw [<- hC,ByteArray.data_append,Array.toList_append]
  have hCd:digB C.data.toList=true:=by rw [hCl];exact hdall
  have hCs:C.size<=9223372036854775807:=by rw [<- hC,ByteArray.size_append];omega
  have hcat:¬ 9223372036854775807<a.size+b.size:=by omega
  rw [<- hCl] at hread
  have HOD:=Hd (fun w=>tof_c C w hCs hCd)
  have HTR:=Hd (fun w=>Tryz.strings_Trim_one C 48 (by decide) w hCs)
  have htz:Lib.trimB C.data.toList 48=[]↔numL C.data.toList=0:=(trim_nil_iff _ _).trans (num_zero_iff _ (digB_all hCd)).symm
  obtain ⟨m,hm⟩:=ex_ (numL C.data.toList)
  rw [hm] at HOD htz
  have HM:=Hd hm;have HTZ:=Hd htz;have HRD:=Hd hread
  clear hCl hCd hm htz hread hdall hwt hda hdaa
  by_cases h1:1<a.size
  ·have z3:(1:Int)<(a.size:Int):=by omega
   have z4:((a[0].toNat:Int)==48)=false:=beq_eq_false_iff_ne.2 (fun h=>hbad ⟨h1,UInt8.toNat_inj.1 (by have:(48:UInt8).toNat=48:=rfl;omega)⟩)
   clear hbad
   cases neg with
   | true=>
    go_wp2_with fail
    have HT2:=Hd (readR_t (nb:=(b.size:Int)) HM.out)
    refine (HTR.out _).mono ?_
    rintro e w6 ⟨rfl,hw6⟩
    have hX6:w6.heap[w.heap.size]?=some (.cells #[.int .i64 0,.int .i64 0] 70 (0,0)):=by rcases hw6 with rfl | rfl<;>exact hXn
    have hb6:Below w.heap.size w w6:=by
     rcases hw6 with rfl | rfl
     ·exact hbn
     ·exact hbn.drew
    clear hw6 g0 g1 g2 g3 g4 hXn hbn
    obtain ⟨g0,g1,g2,g3,g4⟩:=box2 hX6
    obtain ⟨T,hT⟩:∃ T:ByteArray,(⟨(Lib.trimB C.data.toList 48).toArray⟩:ByteArray)=T:=⟨_,rfl⟩
    have hTl:T.data.toList=Lib.trimB C.data.toList 48:=by rw [<- hT]
    rw [hT]
    clear hT
    by_cases hm0:m=0
    ·have hTe:T.toList.isEmpty=true:=by rw [Lib.toList_data,hTl,HTZ.out.2 hm0];rfl
     have HE:=Hd (HRD.out.trans (by rw [HT2.out,if_pos hm0]):Qag s.data.toList=(0,0,10))
     clear hTl hm0
     go_wp2
     exact bodyPost_ret (v:=.tuple #[.agg #[.int .i64 0,.int .i64 0],.int .i64 10]) (by simp [results,Tryz.results79,go_sem,g0,g1]) rfl (RetD.of (r:=(0,0,10)) ⟨rfl,by go_grown⟩ HE.out.symm)
    have hTe:T.toList.isEmpty=false:=by
     rw [Lib.toList_data,hTl]
     cases h:Lib.trimB C.data.toList 48 with
     | nil=>exact absurd (HTZ.out.1 h) hm0
     | cons x l=>rfl
    clear hTl
    by_cases hmm:m<=1000000000000000
    ·have HE:=Hd (HRD.out.trans (by rw [HT2.out,if_neg hm0,if_pos hmm]):Qag s.data.toList=((-(m:Int)),(b.size:Int),0))
     have hmm':m<=1000000000000000:=hmm
     go_wp2_with fail
     refine (HOD.out _).mono ?_
     rintro e w7 ⟨rfl,rfl⟩
     rw [if_pos hmm,decide_eq_true hmm]
     go_wp2
     exact bodyPost_ret (v:=.tuple #[.agg #[.int .i64 (-(m:Int)),.int .i64 (b.size:Int)],.int .i64 0]) (by simp [results,Tryz.results79,go_sem,g0,g1]) rfl (RetD.of (r:=((-(m:Int)),(b.size:Int),0)) ⟨rfl,by go_grown⟩ HE.out.symm)
    ·have HE:=Hd (HRD.out.trans (by rw [HT2.out,if_neg hm0,if_neg hmm]):Qag s.data.toList=(0,0,1))
     go_wp2_with fail
     refine (HOD.out _).mono ?_
     rintro e w7 ⟨rfl,rfl⟩
     rw [if_neg hmm,decide_eq_false hmm]
     go_wp2
     exact bodyPost_ret (v:=.tuple #[.agg #[.int .i64 0,.int .i64 0],.int .i64 1]) (by simp [results,Tryz.results79,go_sem,g0,g1]) rfl (RetD.of (r:=(0,0,1)) ⟨rfl,by go_grown⟩ HE.out.symm)
   | false=>
    go_wp2_with fail
    have HT2:=Hd (readR_f (nb:=(b.size:Int)) HM.out)
    by_cases hmm:m<=1000000000000000
    ·have HE:=Hd (HRD.out.trans (by rw [HT2.out,if_pos hmm]):Qag s.data.toList=((m:Int),(b.size:Int),0))
     refine (HOD.out _).mono ?_
     rintro e w7 ⟨rfl,rfl⟩
     rw [if_pos hmm,decide_eq_true hmm]
     go_wp2
     exact bodyPost_ret (v:=.tuple #[.agg #[.int .i64 (m:Int),.int .i64 (b.size:Int)],.int .i64 0]) (by simp [results,Tryz.results79,go_sem,g0,g1]) rfl (RetD.of (r:=((m:Int),(b.size:Int),0)) ⟨rfl,by go_grown⟩ HE.out.symm)
    ·have HE:=Hd (HRD.out.trans (by rw [HT2.out,if_neg hmm]):Qag s.data.toList=(0,0,1))
     refine (HOD.out _).mono ?_
     rintro e w7 ⟨rfl,rfl⟩
     rw [if_neg hmm,decide_eq_false hmm]
     go_wp2
     exact bodyPost_ret (v:=.tuple #[.agg #[.int .i64 0,.int .i64 0],.int .i64 1]) (by simp [results,Tryz.results79,go_sem,g0,g1]) rfl (RetD.of (r:=(0,0,1)) ⟨rfl,by go_grown⟩ HE.out.symm)
  ·have z3:¬ (1:Int)<(a.size:Int):=by omega
   clear hbad
   cases neg with
   | true=>
    go_wp2_with fail
    have HT2:=Hd (readR_t (nb:=(b.size:Int)) HM.out)
    refine (HTR.out _).mono ?_
    rintro e w6 ⟨rfl,hw6⟩
    have hX6:w6.heap[w.heap.size]?=some (.cells #[.int .i64 0,.int .i64 0] 70 (0,0)):=by rcases hw6 with rfl | rfl<;>exact hXn
    have hb6:Below w.heap.size w w6:=by
     rcases hw6 with rfl | rfl
     ·exact hbn
     ·exact hbn.drew
    clear hw6 g0 g1 g2 g3 g4 hXn hbn
    obtain ⟨g0,g1,g2,g3,g4⟩:=box2 hX6
    obtain ⟨T,hT⟩:∃ T:ByteArray,(⟨(Lib.trimB C.data.toList 48).toArray⟩:ByteArray)=T:=⟨_,rfl⟩
    have hTl:T.data.toList=Lib.trimB C.data.toList 48:=by rw [<- hT]
    rw [hT]
    clear hT
    by_cases hm0:m=0
    ·have hTe:T.toList.isEmpty=true:=by rw [Lib.toList_data,hTl,HTZ.out.2 hm0];rfl
     have HE:=Hd (HRD.out.trans (by rw [HT2.out,if_pos hm0]):Qag s.data.toList=(0,0,10))
     clear hTl hm0
     go_wp2
     exact bodyPost_ret (v:=.tuple #[.agg #[.int .i64 0,.int .i64 0],.int .i64 10]) (by simp [results,Tryz.results79,go_sem,g0,g1]) rfl (RetD.of (r:=(0,0,10)) ⟨rfl,by go_grown⟩ HE.out.symm)
    have hTe:T.toList.isEmpty=false:=by
     rw [Lib.toList_data,hTl]
     cases h:Lib.trimB C.data.toList 48 with
     | nil=>exact absurd (HTZ.out.1 h) hm0
     | cons x l=>rfl
    clear hTl
    by_cases hmm:m<=1000000000000000
    ·have HE:=Hd (HRD.out.trans (by rw [HT2.out,if_neg hm0,if_pos hmm]):Qag s.data.toList=((-(m:Int)),(b.size:Int),0))
     have hmm':m<=1000000000000000:=hmm
     go_wp2_with fail
     refine (HOD.out _).mono ?_
     rintro e w7 ⟨rfl,rfl⟩
     rw [if_pos hmm,decide_eq_true hmm]
     go_wp2
     exact bodyPost_ret (v:=.tuple #[.agg #[.int .i64 (-(m:Int)),.int .i64 (b.size:Int)],.int .i64 0]) (by simp [results,Tryz.results79,go_sem,g0,g1]) rfl (RetD.of (r:=((-(m:Int)),(b.size:Int),0)) ⟨rfl,by go_grown⟩ HE.out.symm)
    ·have HE:=Hd (HRD.out.trans (by rw [HT2.out,if_neg hm0,if_neg hmm]):Qag s.data.toList=(0,0,1))
     go_wp2_with fail
     refine (HOD.out _).mono ?_
     rintro e w7 ⟨rfl,rfl⟩
     rw [if_neg hmm,decide_eq_false hmm]
     go_wp2
     exact bodyPost_ret (v:=.tuple #[.agg #[.int .i64 0,.int .i64 0],.int .i64 1]) (by simp [results,Tryz.results79,go_sem,g0,g1]) rfl (RetD.of (r:=(0,0,1)) ⟨rfl,by go_grown⟩ HE.out.symm)
   | false=>
    go_wp2_with fail
    have HT2:=Hd (readR_f (nb:=(b.size:Int)) HM.out)
    by_cases hmm:m<=1000000000000000
    ·have HE:=Hd (HRD.out.trans (by rw [HT2.out,if_pos hmm]):Qag s.data.toList=((m:Int),(b.size:Int),0))
     refine (HOD.out _).mono ?_
     rintro e w7 ⟨rfl,rfl⟩
     rw [if_pos hmm,decide_eq_true hmm]
     go_wp2
     exact bodyPost_ret (v:=.tuple #[.agg #[.int .i64 (m:Int),.int .i64 (b.size:Int)],.int .i64 0]) (by simp [results,Tryz.results79,go_sem,g0,g1]) rfl (RetD.of (r:=((m:Int),(b.size:Int),0)) ⟨rfl,by go_grown⟩ HE.out.symm)
    ·have HE:=Hd (HRD.out.trans (by rw [HT2.out,if_neg hmm]):Qag s.data.toList=(0,0,1))
     refine (HOD.out _).mono ?_
     rintro e w7 ⟨rfl,rfl⟩
     rw [if_neg hmm,decide_eq_false hmm]
     go_wp2
     exact bodyPost_ret (v:=.tuple #[.agg #[.int .i64 0,.int .i64 0],.int .i64 1]) (by simp [results,Tryz.results79,go_sem,g0,g1]) rfl (RetD.of (r:=(0,0,1)) ⟨rfl,by go_grown⟩ HE.out.symm)
 | true=>
  have HDB:=Hd (fun w=>tisdig_c b w (by omega))
  cases hdb:digB b.data.toList with
  | false=>
   have HE:=Hd (show Qag s.data.toList=(0,0,10) by rw [HF.out,hdb];rfl)
   rw [hdb] at HDB
   clear hdb
   by_cases h1:1<a.size
   ·have z3:(1:Int)<(a.size:Int):=by omega
    have z4:((a[0].toNat:Int)==48)=false:=beq_eq_false_iff_ne.2 (fun h=>hbad ⟨h1,UInt8.toNat_inj.1 (by have:(48:UInt8).toNat=48:=rfl;omega)⟩)
    clear hbad hwt hda hdaa
    go_wp2_with fail
    refine (HDB.out _).mono ?_
    rintro e w5 ⟨rfl,rfl⟩
    go_wp2
    exact bodyPost_ret (v:=.tuple #[.agg #[.int .i64 0,.int .i64 0],.int .i64 10]) (by simp [results,Tryz.results79,go_sem,g0,g1]) rfl (RetD.of (r:=(0,0,10)) ⟨rfl,by go_grown⟩ HE.out.symm)
   ·have z3:¬ (1:Int)<(a.size:Int):=by omega
    clear hbad hwt hda hdaa
    go_wp2_with fail
    refine (HDB.out _).mono ?_
    rintro e w5 ⟨rfl,rfl⟩
    go_wp2
    exact bodyPost_ret (v:=.tuple #[.agg #[.int .i64 0,.int .i64 0],.int .i64 10]) (by simp [results,Tryz.results79,go_sem,g0,g1]) rfl (RetD.of (r:=(0,0,10)) ⟨rfl,by go_grown⟩ HE.out.symm)
  | true=>
  rw [hdb] at HDB
  by_cases h9:9<b.size
  ·have HE:=Hd (show Qag s.data.toList=(0,0,10) by rw [HF.out,hdb,decide_eq_true h9];rfl)
   have h9':(9:Int)<(b.size:Int):=by omega
   clear hdb h9
   by_cases h1:1<a.size
   ·have z3:(1:Int)<(a.size:Int):=by omega
    have z4:((a[0].toNat:Int)==48)=false:=beq_eq_false_iff_ne.2 (fun h=>hbad ⟨h1,UInt8.toNat_inj.1 (by have:(48:UInt8).toNat=48:=rfl;omega)⟩)
    clear hbad hwt hda hdaa
    go_wp2_with fail
    refine (HDB.out _).mono ?_
    rintro e w5 ⟨rfl,rfl⟩
    go_wp2
    exact bodyPost_ret (v:=.tuple #[.agg #[.int .i64 0,.int .i64 0],.int .i64 10]) (by simp [results,Tryz.results79,go_sem,g0,g1]) rfl (RetD.of (r:=(0,0,10)) ⟨rfl,by go_grown⟩ HE.out.symm)
   ·have z3:¬ (1:Int)<(a.size:Int):=by omega
    clear hbad hwt hda hdaa
    go_wp2_with fail
    refine (HDB.out _).mono ?_
    rintro e w5 ⟨rfl,rfl⟩
    go_wp2
    exact bodyPost_ret (v:=.tuple #[.agg #[.int .i64 0,.int .i64 0],.int .i64 10]) (by simp [results,Tryz.results79,go_sem,g0,g1]) rfl (RetD.of (r:=(0,0,10)) ⟨rfl,by go_grown⟩ HE.out.symm)
  ·have hread:Qag s.data.toList=Qa6 neg (a.data.toList++b.data.toList) b.size:=by rw [HF.out,hdb,decide_eq_false h9];rfl
   have hdall:digB (a.data.toList++b.data.toList)=true:=digB_app hda hdb
   have hb9:¬ (9:Int)<(b.size:Int):=by omega
   clear hdb h9
   obtain ⟨C,hC⟩:=ex_ (a++b)
   have hCl:C.data.toList=a.data.toList++b.data.toList:=by rw [<- hC,ByteArray.data_append,Array.toList_append]
   have hCd:digB C.data.toList=true:=by rw [hCl];exact hdall
   have hCs:C.size<=9223372036854775807:=by rw [<- hC,ByteArray.size_append];omega
   have hcat:¬ 9223372036854775807<a.size+b.size:=by omega
   rw [<- hCl] at hread
   have HOD:=Hd (fun w=>tof_c C w hCs hCd)
   have HTR:=Hd (fun w=>Tryz.strings_Trim_one C 48 (by decide) w hCs)
   have htz:Lib.trimB C.data.toList 48=[]↔numL C.data.toList=0:=(trim_nil_iff _ _).trans (num_zero_iff _ (digB_all hCd)).symm
   obtain ⟨m,hm⟩:=ex_ (numL C.data.toList)
   rw [hm] at HOD htz
   have HM:=Hd hm;have HTZ:=Hd htz;have HRD:=Hd hread
   clear hCl hCd hm htz hread hdall hwt hda hdaa
   by_cases h1:1<a.size
   ·have z3:(1:Int)<(a.size:Int):=by omega
    have z4:((a[0].toNat:Int)==48)=false:=beq_eq_false_iff_ne.2 (fun h=>hbad ⟨h1,UInt8.toNat_inj.1 (by have:(48:UInt8).toNat=48:=rfl;omega)⟩)
    clear hbad
    go_wp2_with fail
    refine (HDB.out _).mono ?_
    rintro e w5 ⟨rfl,rfl⟩
    cases neg with
    | true=>
     go_wp2_with fail
     have HT2:=Hd (readR_t (nb:=(b.size:Int)) HM.out)
     refine (HTR.out _).mono ?_
     rintro e w6 ⟨rfl,hw6⟩
     have hX6:w6.heap[w.heap.size]?=some (.cells #[.int .i64 0,.int .i64 0] 70 (0,0)):=by rcases hw6 with rfl | rfl<;>exact hXn
     have hb6:Below w.heap.size w w6:=by
      rcases hw6 with rfl | rfl
      ·exact hbn
      ·exact hbn.drew
     clear hw6 g0 g1 g2 g3 g4 hXn hbn
     obtain ⟨g0,g1,g2,g3,g4⟩:=box2 hX6
     obtain ⟨T,hT⟩:∃ T:ByteArray,(⟨(Lib.trimB C.data.toList 48).toArray⟩:ByteArray)=T:=⟨_,rfl⟩
     have hTl:T.data.toList=Lib.trimB C.data.toList 48:=by rw [<- hT]
     rw [hT]
     clear hT
     by_cases hm0:m=0
     ·have hTe:T.toList.isEmpty=true:=by rw [Lib.toList_data,hTl,HTZ.out.2 hm0];rfl
      have HE:=Hd (HRD.out.trans (by rw [HT2.out,if_pos hm0]):Qag s.data.toList=(0,0,10))
      clear hTl hm0
      go_wp2
      exact bodyPost_ret (v:=.tuple #[.agg #[.int .i64 0,.int .i64 0],.int .i64 10]) (by simp [results,Tryz.results79,go_sem,g0,g1]) rfl (RetD.of (r:=(0,0,10)) ⟨rfl,by go_grown⟩ HE.out.symm)
     have hTe:T.toList.isEmpty=false:=by
      rw [Lib.toList_data,hTl]
      cases h:Lib.trimB C.data.toList 48 with
      | nil=>exact absurd (HTZ.out.1 h) hm0
      | cons x l=>rfl
     clear hTl
     by_cases hmm:m<=1000000000000000
     ·have HE:=Hd (HRD.out.trans (by rw [HT2.out,if_neg hm0,if_pos hmm]):Qag s.data.toList=((-(m:Int)),(b.size:Int),0))
      have hmm':m<=1000000000000000:=hmm
      go_wp2_with fail
      refine (HOD.out _).mono ?_
      rintro e w7 ⟨rfl,rfl⟩
      rw [if_pos hmm,decide_eq_true hmm]
      go_wp2
      exact bodyPost_ret (v:=.tuple #[.agg #[.int .i64 (-(m:Int)),.int .i64 (b.size:Int)],.int .i64 0]) (by simp [results,Tryz.results79,go_sem,g0,g1]) rfl (RetD.of (r:=((-(m:Int)),(b.size:Int),0)) ⟨rfl,by go_grown⟩ HE.out.symm)
     ·have HE:=Hd (HRD.out.trans (by rw [HT2.out,if_neg hm0,if_neg hmm]):Qag s.data.toList=(0,0,1))
      go_wp2_with fail
      refine (HOD.out _).mono ?_
      rintro e w7 ⟨rfl,rfl⟩
      rw [if_neg hmm,decide_eq_false hmm]
      go_wp2
      exact bodyPost_ret (v:=.tuple #[.agg #[.int .i64 0,.int .i64 0],.int .i64 1]) (by simp [results,Tryz.results79,go_sem,g0,g1]) rfl (RetD.of (r:=(0,0,1)) ⟨rfl,by go_grown⟩ HE.out.symm)
    | false=>
     go_wp2_with fail
     have HT2:=Hd (readR_f (nb:=(b.size:Int)) HM.out)
     by_cases hmm:m<=1000000000000000
     ·have HE:=Hd (HRD.out.trans (by rw [HT2.out,if_pos hmm]):Qag s.data.toList=((m:Int),(b.size:Int),0))
      refine (HOD.out _).mono ?_
      rintro e w7 ⟨rfl,rfl⟩
      rw [if_pos hmm,decide_eq_true hmm]
      go_wp2
      exact bodyPost_ret (v:=.tuple #[.agg #[.int .i64 (m:Int),.int .i64 (b.size:Int)],.int .i64 0]) (by simp [results,Tryz.results79,go_sem,g0,g1]) rfl (RetD.of (r:=((m:Int),(b.size:Int),0)) ⟨rfl,by go_grown⟩ HE.out.symm)
     ·have HE:=Hd (HRD.out.trans (by rw [HT2.out,if_neg hmm]):Qag s.data.toList=(0,0,1))
      refine (HOD.out _).mono ?_
      rintro e w7 ⟨rfl,rfl⟩
      rw [if_neg hmm,decide_eq_false hmm]
      go_wp2
      exact bodyPost_ret (v:=.tuple #[.agg #[.int .i64 0,.int .i64 0],.int .i64 1]) (by simp [results,Tryz.results79,go_sem,g0,g1]) rfl (RetD.of (r:=(0,0,1)) ⟨rfl,by go_grown⟩ HE.out.symm)
   ·have z3:¬ (1:Int)<(a.size:Int):=by omega
    clear hbad
    go_wp2_with fail
    refine (HDB.out _).mono ?_
    rintro e w5 ⟨rfl,rfl⟩
    cases neg with
    | true=>
     go_wp2_with fail
     have HT2:=Hd (readR_t (nb:=(b.size:Int)) HM.out)
     refine (HTR.out _).mono ?_
     rintro e w6 ⟨rfl,hw6⟩
     have hX6:w6.heap[w.heap.size]?=some (.cells #[.int .i64 0,.int .i64 0] 70 (0,0)):=by rcases hw6 with rfl | rfl<;>exact hXn
     have hb6:Below w.heap.size w w6:=by
      rcases hw6 with rfl | rfl
      ·exact hbn
      ·exact hbn.drew
     clear hw6 g0 g1 g2 g3 g4 hXn hbn
     obtain ⟨g0,g1,g2,g3,g4⟩:=box2 hX6
     obtain ⟨T,hT⟩:∃ T:ByteArray,(⟨(Lib.trimB C.data.toList 48).toArray⟩:ByteArray)=T:=⟨_,rfl⟩
     have hTl:T.data.toList=Lib.trimB C.data.toList 48:=by rw [<- hT]
     rw [hT]
     clear hT
     by_cases hm0:m=0
     ·have hTe:T.toList.isEmpty=true:=by rw [Lib.toList_data,hTl,HTZ.out.2 hm0];rfl
      have HE:=Hd (HRD.out.trans (by rw [HT2.out,if_pos hm0]):Qag s.data.toList=(0,0,10))
      clear hTl hm0
      go_wp2
      exact bodyPost_ret (v:=.tuple #[.agg #[.int .i64 0,.int .i64 0],.int .i64 10]) (by simp [results,Tryz.results79,go_sem,g0,g1]) rfl (RetD.of (r:=(0,0,10)) ⟨rfl,by go_grown⟩ HE.out.symm)
     have hTe:T.toList.isEmpty=false:=by
      rw [Lib.toList_data,hTl]
      cases h:Lib.trimB C.data.toList 48 with
      | nil=>exact absurd (HTZ.out.1 h) hm0
      | cons x l=>rfl
     clear hTl
     by_cases hmm:m<=1000000000000000
     ·have HE:=Hd (HRD.out.trans (by rw [HT2.out,if_neg hm0,if_pos hmm]):Qag s.data.toList=((-(m:Int)),(b.size:Int),0))
      have hmm':m<=1000000000000000:=hmm
      go_wp2_with fail
      refine (HOD.out _).mono ?_
      rintro e w7 ⟨rfl,rfl⟩
      rw [if_pos hmm,decide_eq_true hmm]
      go_wp2
      exact bodyPost_ret (v:=.tuple #[.agg #[.int .i64 (-(m:Int)),.int .i64 (b.size:Int)],.int .i64 0]) (by simp [results,Tryz.results79,go_sem,g0,g1]) rfl (RetD.of (r:=((-(m:Int)),(b.size:Int),0)) ⟨rfl,by go_grown⟩ HE.out.symm)
     ·have HE:=Hd (HRD.out.trans (by rw [HT2.out,if_neg hm0,if_neg hmm]):Qag s.data.toList=(0,0,1))
      go_wp2_with fail
      refine (HOD.out _).mono ?_
      rintro e w7 ⟨rfl,rfl⟩
      rw [if_neg hmm,decide_eq_false hmm]
      go_wp2
      exact bodyPost_ret (v:=.tuple #[.agg #[.int .i64 0,.int .i64 0],.int .i64 1]) (by simp [results,Tryz.results79,go_sem,g0,g1]) rfl (RetD.of (r:=(0,0,1)) ⟨rfl,by go_grown⟩ HE.out.symm)
    | false=>
     go_wp2_with fail
     have HT2:=Hd (readR_f (nb:=(b.size:Int)) HM.out)
     by_cases hmm:m<=1000000000000000
     ·have HE:=Hd (HRD.out.trans (by rw [HT2.out,if_pos hmm]):Qag s.data.toList=((m:Int),(b.size:Int),0))
      refine (HOD.out _).mono ?_
      rintro e w7 ⟨rfl,rfl⟩
      rw [if_pos hmm,decide_eq_true hmm]
      go_wp2
      exact bodyPost_ret (v:=.tuple #[.agg #[.int .i64 (m:Int),.int .i64 (b.size:Int)],.int .i64 0]) (by simp [results,Tryz.results79,go_sem,g0,g1]) rfl (RetD.of (r:=((m:Int),(b.size:Int),0)) ⟨rfl,by go_grown⟩ HE.out.symm)
     ·have HE:=Hd (HRD.out.trans (by rw [HT2.out,if_neg hmm]):Qag s.data.toList=(0,0,1))
      refine (HOD.out _).mono ?_
      rintro e w7 ⟨rfl,rfl⟩
      rw [if_neg hmm,decide_eq_false hmm]
      go_wp2
      exact bodyPost_ret (v:=.tuple #[.agg #[.int .i64 0,.int .i64 0],.int .i64 1]) (by simp [results,Tryz.results79,go_sem,g0,g1]) rfl (RetD.of (r:=(0,0,1)) ⟨rfl,by go_grown⟩ HE.out.symm)
end Go.Proofs.YtaiabjiehpcaoaaGreatDoor
namespace Go.Proofs.YtaiabjiehpcaoaaGreatDoor
open Go.RowKit
section
variable {P:Program} {ops:Array Oper} {Q:Exit->Act->World->Prop} {md:Region.Mode} {T:World->Prop} {k:Nat}
def Till (P:Program) (md:Region.Mode) (ops:Array Oper) (Q:Exit->Act->World->Prop) (T:World->Prop) (k:Nat):Nat->Array Bool->Act->World->Prop
 | 0,ls,a,w=>Region.ready md ops ls=[]/\Q .normal a w
 | n+1,ls,a,w=>(Region.ready md ops ls=[]->Q .normal a w) /\
   ∀ i∈Region.ready md ops ls,wpOp P ops Q i (fun a' w'=>((ls.setIfInBounds i true).getD k true=false->T w')/\Till P md ops Q T k n (ls.setIfInBounds i true) a' w') a w
theorem Till.any:∀ (n:Nat) (ls:Array Bool) (a:Act) (w:World),Till P md ops Q T k n ls a w->wpAny P md ops Q n ls a w
 | 0,_,_,_,h=>h
 | n+1,_,_,_,h=>⟨h.1,fun i hi=>wpOp_mono (fun a' w' h'=>Till.any n _ a' w' h'.2) (h.2 i hi)⟩
def Closed (md:Region.Mode) (ops:Array Oper) (ls:Array Bool):Prop :=
 ∀ (j:Nat) (oj:Oper),ops[j]?=some oj->ls.getD j false=true->∀ e∈oj.after,Region.binds md e=true->ls.getD e.on false=true
def closedB (md:Region.Mode) (ops:Array Oper) (ls:Array Bool):Bool :=
 (List.range ops.size).all fun j=>!(ls.getD j false)||match ops[j]? with
  | some oj=>oj.after.all fun e=>!(Region.binds md e)||ls.getD e.on false
  | none=>true
theorem closed_of {ls:Array Bool} (h:closedB md ops ls=true):Closed md ops ls:=by
 intro j oj ho hl e he hb
 unfold closedB at h
 rw [List.all_eq_true] at h
 have hj:j<ops.size:=by
  rcases Nat.lt_or_ge j ops.size with h | h
  ·exact h
  ·rw [Array.getElem?_eq_none h] at ho;cases ho
 have h1:=h j (List.mem_range.2 hj)
 rw [hl,ho] at h1
 simp only [Bool.not_true,Bool.false_or] at h1
 have h2:=Array.all_eq_true_iff_forall_mem.1 h1 e he
 rw [hb] at h2
 simpa using h2
theorem Closed.set {ls:Array Bool} (h:Closed md ops ls) {j:Nat} (hj:j∈Region.ready md ops ls):Closed md ops (ls.setIfInBounds j true):=by
 intro m om ho hl e he hb
 by_cases hm:j=m
 ·subst hm
  obtain ⟨_,o',ho',hall⟩:=mem_ready.1 hj
  rw [ho] at ho'
  injection ho' with ho'
  subst ho'
  exact getD_set_true (hall e he hb)
 ·rw [getD_set_ne false hm] at hl
  exact getD_set_true (h m om ho hl e he hb)
def waitsBy (md:Region.Mode) (ops:Array Oper):Nat->List Nat->Nat->Bool
 | i,[],k=>Region.waitsFor md ops k i
 | i,j :: l,k=>Region.waitsFor md ops j i&&waitsBy md ops j l k
theorem Closed.back {ls:Array Bool} (h:Closed md ops ls):∀ (l:List Nat) (i:Nat),waitsBy md ops i l k=true->k∈Region.ready md ops ls->ls.getD i false=true
 | [],i,hw,hk=>by
  obtain ⟨oj,ho,e,he,hb,hon⟩:=Region.waitsFor_spec hw
  obtain ⟨_,o',ho',hall⟩:=mem_ready.1 hk
  rw [ho] at ho'
  injection ho' with ho'
  subst ho'
  exact hon ▸ hall e he hb
 | j :: l,i,hw,hk=>by
  unfold waitsBy at hw
  rw [Bool.and_eq_true] at hw
  obtain ⟨oj,ho,e,he,hb,hon⟩:=Region.waitsFor_spec hw.1
  exact hon ▸ h j oj ho (h.back l j hw.2 hk) e he hb
theorem not_listed {i:Nat} {ls:Array Bool} (hi:i∈Region.ready md ops ls) (h1:ls.getD i false=true):False:=by
 have h0:=(mem_ready.1 hi).1
 rcases Nat.lt_or_ge i ls.size with h | h
 ·simp [h] at h0 h1
  rw [h0] at h1
  cases h1
 ·simp [Array.getElem?_eq_none h] at h1
theorem Till.first {i:Nat} {oi:Oper} {v:Value} (hi:ops[i]?=some oi) (hsel:∀ (j:Nat) (o:Oper) cs b,ops[j]?=some o->o.op≠.select cs b)
  (hQ:∀ c a w,Q (.panic c) (a.put oi.dst v) w->Q (.panic c) a w) {l:List Nat} (hk:waitsBy md ops i l k=true) (hki:k≠i) :
  ∀ (n:Nat) (ls:Array Bool) (a:Act) (w:World),
   (∀ j oj,ops[j]?=some oj->j≠i->ls.getD j true=false->(∀ e∈oj.after,Region.binds md e=true->e.on≠i)->oi.apart ops oj=true) ->
   i∈Region.ready md ops ls->Closed md ops ls->ls.getD k true=false->YieldsIf P ops T oi v a->T w ->
   Till P md ops Q T k n (ls.setIfInBounds i true) (a.put oi.dst v) w->Till P md ops Q T k (n+1) ls a w:=by
 intro n
 induction n with
 | zero=>
  intro ls a w _ hr _ _ hy hT H
  refine ⟨fun h=>(by rw [h] at hr;cases hr),fun j hj=>?_⟩
  by_cases hji:j=i
  ·subst hji
   exact hy.wpOp hi hT ⟨fun _=>hT,H⟩
  ·have h:=ready_mono hj hji
   rw [H.1] at h
   cases h
 | succ n ih=>
  intro ls a w hfree hr hcl hkl hy hT H
  refine ⟨fun h=>(by rw [h] at hr;cases hr),fun j hj=>?_⟩
  by_cases hji:j=i
  ·subst hji
   exact hy.wpOp hi hT ⟨fun _=>hT,H⟩
  ·have hjk:j≠k:=fun e=>not_listed hr (hcl.back l i hk (e ▸ hj))
   obtain ⟨hun,oj,ho,hall⟩:=mem_ready.1 hj
   have hno:∀ e∈oj.after,Region.binds md e=true->e.on≠i:=fun e he hb hon=>
    not_listed hr (hon ▸ hall e he hb)
   have h2:=wpOp_putIf ho (hfree j oj ho hji hun hno) (fun cs b=>hsel i oi cs b hi) (fun cs b=>hsel j oj cs b ho) hQ hy (H.2 j (ready_mono hj hji))
   refine wpOp_mono (fun a' w' h3=>?_) h2
   obtain ⟨hy',hT',hrest⟩:=h3
   have hTw:T w':=hT' (by rw [getD_set_ne true hjk,getD_set_ne true (Ne.symm hki)];exact hkl)
   refine ⟨fun _=>hTw,ih _ a' w' ?_ (ready_mono hr (Ne.symm hji)) (hcl.set hj) (by rw [getD_set_ne true hjk];exact hkl) hy' hTw ?_⟩
   ·intro m om hm hmi hmu hmn
    refine hfree m om hm hmi ?_ hmn
    by_cases hjm:j=m
    ·subst hjm;exact hun
    ·rwa [getD_set_ne true hjm] at hmu
   ·rw [Array.setIfInBounds_comm _ _ hji]
    exact hrest
theorem Till.take {i:Nat} {oi:Oper} {v:Value} {n:Nat} {ls:Array Bool} {a:Act} {w:World} (hi:ops[i]?=some oi)
  (hs:Region.noSelect ops=true) (hf:Region.free md ops ls i=true) (hr:(Region.ready md ops ls).contains i=true) (l:List Nat) (hk:waitsBy md ops i l k=true) (hki:k≠i) (hcl:closedB md ops ls=true) (hkl:ls.getD k true=false)
  (hQ:∀ c a w,Q (.panic c) (a.put oi.dst v) w->Q (.panic c) a w) (hT:T w) (hy:YieldsIf P ops T oi v a)
  (h:Till P md ops Q T k n (ls.setIfInBounds i true) (a.put oi.dst v) w):Till P md ops Q T k (n+1) ls a w :=
 Till.first hi (Region.noSelect_spec hs) hQ hk hki n ls a w (Region.free_spec hi hf) (by simpa using hr) (closed_of hcl) hkl hy hT h
theorem Till.a:type_of% @List.setIfInBounds_toArray:=@List.setIfInBounds_toArray
theorem Till.b:type_of% @List.set_cons_zero:=@List.set_cons_zero
theorem Till.c:type_of% @List.set_cons_succ:=@List.set_cons_succ
theorem Till.tk {i:Nat} {oi:Oper} {v:Value} {n:Nat} {ls:Array Bool} {a:Act} {w:World} (hi:ops[i]?=some oi) (l:List Nat) (hT:T w) (hy:YieldsIf P ops T oi v a)
  (h:Till P md ops Q T k n (ls.setIfInBounds i true) (a.put oi.dst v) w) (hs:Region.noSelect ops=true:=by kernel_rfl) (hf:Region.free md ops ls i=true:=by kernel_rfl) (hr:(Region.ready md ops ls).contains i=true:=by kernel_rfl) (hk:waitsBy md ops i l k=true:=by kernel_rfl) (hki:k≠i:=by decide) (hcl:closedB md ops ls=true:=by kernel_rfl) (hkl:ls.getD k true=false:=by kernel_rfl)
  (hQ:∀ c a w,Q (.panic c) (a.put oi.dst v) w->Q (.panic c) a w:=by exact fun _ _ _ h=>h):Till P md ops Q T k (n+1) ls a w :=
 Till.take hi hs hf hr l hk hki hcl hkl hQ hT hy h
theorem Till.step {i:Nat} {o:Oper} {n:Nat} {ls:Array Bool} {a:Act} {w:World} (hr:Region.ready md ops ls=[i]) (ho:ops[i]?=some o)
  (h:∀ K':Act->World->Prop,Hid (∀ a w,((ls.setIfInBounds i true).getD k true=false->T w)->Till P md ops Q T k n (ls.setIfInBounds i true) a w->K' a w) ->
   if Region.wanted o (yielded ops a.tmps)=true then Oper.wp P o a w K' Q else K' (a.put o.dst undef) w):Till P md ops Q T k (n+1) ls a w :=
 ⟨fun h0=>(by rw [hr] at h0;cases h0),fun j hj=>by
  rw [hr] at hj
  obtain rfl:=List.mem_singleton.1 hj
  exact wpOp_step ho fun K' hK=>h K' fun a w h1 h2=>hK a w ⟨h1,h2⟩⟩
theorem Till.done {ls:Array Bool} {a:Act} {w:World} (hr:Region.ready md ops ls=[]) (h:Q .normal a w):∀ n,Till P md ops Q T k n ls a w
 | 0=>⟨hr,h⟩
 | _+1=>⟨fun _=>h,by rw [hr];intro i hi;cases hi⟩
theorem Qaq {id:Nat} {a:Act} {w:World} (k:Nat) (T:World->Prop) (hm:P.follows .mixedOrders=true)
  (h:Till P .any ops Q T k ops.size (Array.replicate ops.size false) a w.drew):(Code.region id ops true).wp P Q a w :=
 wp_region_any hm (Till.any _ _ _ _ h)
end
end Go.Proofs.YtaiabjiehpcaoaaGreatDoor
