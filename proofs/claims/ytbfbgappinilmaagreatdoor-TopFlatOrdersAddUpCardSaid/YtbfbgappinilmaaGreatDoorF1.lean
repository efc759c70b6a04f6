/- The walks of read and ReadText. The walk of ReadText, and awake. Units in memory, and the walks of package amount: IsName, unitAt, unitFault. -/
import Derived.Test.YtbfbgappinilmaaGreatDoorA5
import Derived.Deep.RegionWith
import Derived.Test.YtbfbgappinilmaaGreatDoorU2
import Derived.Test.YtbfbgappinilmaaGreatDoorShelf
import Derived.WalkLawsBesides
import Derived.Test.YtbfbgappinilmaaGreatDoorMem
-- merged: A6 A7 U3 RW F1
namespace Go.Proofs.YtbfbgappinilmaaGreatDoor
open Go.RowKit Limb
def numL (l:List UInt8):Nat:=l.foldl (fun a c=>a*10+(c.toNat-48)) 0
theorem numL_step {l:List UInt8} {j:Nat} (h:j<l.length):numL (l.take (j+1))=numL (l.take j)*10+(l[j].toNat-48):=by
 unfold numL;rw [List.take_succ_eq_append_getElem h,List.foldl_append];rfl
theorem numL_lt {l:List UInt8} (h:inB l 48 57=true):∀ j,j<=l.length->numL (l.take j)<10 ^ j:=by
 intro j
 induction j with
 | zero=>intro _;simp [numL]
 | succ j ih=>
  intro hj
  rw [numL_step (by omega),Nat.pow_succ]
  have h1:=ih (by omega)
  have h2:=List.all_eq_true.1 h l[j] (List.getElem_mem _)
  have h3:=of_decide_eq_true h2
  omega
def readR (neg:Bool) (l:List UInt8) (nb:Int):Int×Int×Int :=
 if neg then (if numL l=0 then (0,0,10) else made (-(numL l:Int)) nb) else made (numL l:Int) nb
set_option maxHeartbeats 8000000 in
set_option maxRecDepth 100000 in
theorem read_c (neg:Bool) (a b:ByteArray) (w:World) (hd:inB (a.data.toList++b.data.toList) 48 57=true) (hl:a.size+b.size<=40) :
  Calls Tryz.prog 66 #[.bool neg,.string a,.string b] w (RetD (readR neg (a.data.toList++b.data.toList) b.size) w):=by
 obtain ⟨s,hs⟩:∃ s:ByteArray,s=a++b:=⟨_,rfl⟩
 have hsd:s.data.toList=a.data.toList++b.data.toList:=by rw [hs];simp
 have hsz:s.size=a.size+b.size:=by rw [hs];simp
 rw [<- hsd] at hd ⊢
 have hab:a++b=s:=hs.symm
 clear hs hsd
 have hz:s.size<=40:=by omega
 clear hsz
 have HD:=Lib.hid hd;clear hd
 go_enter Tryz.func66,Tryz.ntmps66
 go_wp2_with fail
 refine (of_c 0 _ (by omega) (by omega)).mono ?_
 rintro e w2 ⟨s2,A2,n2,c2,rfl,hv2,hb2⟩
 have hR2:=heap_below (heap_new w _ rfl) hb2
 have hbel2:=below_then hb2 (w:=w) (B:=w.heap.size) (by go_grown) (by simp only [World.size_alloc];omega)
 have hz2:=hbel2.size
 have hlt2:=lt_heap hR2
 clear hb2
 go_wp2_with fail
 go_loopw [15] (fun i wr=>∃ (j:Nat) (t:Bool) (A:Option Addr) (k c:Nat),j<=s.size/\i=.int .i64 j/\wr.heap[w2.heap.size]?=some (.cells #[.bool t,.slice A k c] 73 (0,0))/\wr.heap[w.heap.size]?=some (.cells #[.int .i64 0,.int .i64 0] 31 (0,0)) /\
   Big .u32 127 B32 wr t A k c ((numL (s.data.toList.take j):Nat):Int)/\Below w.heap.size w wr) (fun i _=>s.size-(intOf i).toNat)
 case atStart=>exact ⟨0,s2,A2,n2,c2,Nat.zero_le _,rfl,heap_new _ _ rfl,heap_old hR2 _,by exact hv2.alloc _,hbel2.alloc hz2 _⟩
 case round=>
  obtain ⟨j,t,A,k,c,hj,rfl,hO,hR,hbig,hbel⟩:=hrel
  have hzr:=hbel.size
  obtain ⟨o0,o1,of0,of1,oz⟩:=box2 hO
  have hnl:=numL_lt HD.out j (by simpa using hj)
  have hn40:numL (s.data.toList.take j)<10 ^ 40:=Nat.lt_of_lt_of_le hnl (Nat.pow_le_pow_right (by omega) (by omega))
  have hsm:Small ((numL (s.data.toList.take j):Nat):Int):=by
   have h4:(10:Nat) ^ 40=10000000000000000000000000000000000000000:=by decide
   exact small_of_le (by omega) (by omega)
  have hsm2:Small (((numL (s.data.toList.take j):Nat):Int)*10):=by
   unfold Small
   have h4:(10:Nat) ^ 41<10 ^ 200:=by decide
   have h5:(10:Nat) ^ 41=10 ^ 40*10:=Nat.pow_succ ..
   omega
  clear hnl hn40
  rcases Nat.lt_or_ge j s.size with hjn | hjn
  ·have hb:=inB_at HD.out j hjn
   have hi1:(0:Int)<=(j:Int):=by omega
   have hi2:(j:Int)<(s.size:Int):=by omega
   have hd1:(48:Int)<=(s[j].toNat:Int):=by omega
   have hd2:(s[j].toNat:Int)<=57:=by omega
   have hdig:IntKind.i64.wrap (IntKind.u8.wrap ((s[j].toNat:Int)-48))=((s[j].toNat-48:Nat):Int):=by rw [IntWalk.u8_in _ (by omega),IntWalk.i64_in _ (by omega)];omega
   have HG:=Lib.hid hdig;clear hdig hb
   have hcond:¬ 9223372036854775807<a.size+b.size:=by omega
   go_wp2_with fail
   go_region_with
    (first
     | (go_at_call_of 27 (Value.int .i64 10);refine (of_c 10 _ (by omega) (by omega)).mono ?_;rintro e w4 ⟨s4,A4,n4,c4,rfl,hv4,hb4⟩;(have hO4:=heap_below (w:=wr.drew) hO hb4);(have hR4:=heap_below (w:=wr.drew) hR hb4);(have hbel4:=below_then hb4 hbel.drew hzr);obtain ⟨r10,r11,-,-,-⟩:=box2 hO4)
     | (go_at_call 96;refine (times_c _ (by exact Big.below (w:=wr.drew) hbig hb4) hv4 hsm (small_of_le (by omega) (by omega))).mono ?_;rintro e w5 ⟨s5,A5,n5,c5,rfl,hv5,hb5⟩;(have hO5:=heap_below hO4 hb5);(have hR5:=heap_below hR4 hb5);(have hbel5:=below_then hb5 hbel4 hbel4.size))
     | (go_at_call 27;rw [HG.out];refine (of_c _ _ (by omega) (by omega)).mono ?_;rintro e w6 ⟨s6,A6,n6,c6,rfl,hv6,hb6⟩;(have hO6:=heap_below hO5 hb6);(have hR6:=heap_below hR5 hb6);(have hbel6:=below_then hb6 hbel5 hbel5.size))
     | (go_at_call 54;refine (plus_c _ (hv5.below hb6) hv6 hsm2 (small_of_le (by omega) (by omega))).mono ?_;rintro e w7 ⟨s7,A7,n7,c7,rfl,hv7,hb7⟩;(have hO7:=heap_below hO6 hb7);(have hR7:=heap_below hR6 hb7);(have hbel7:=below_then hb7 hbel6 hbel6.size);obtain ⟨g0,g1,g2,g3,g4⟩:=box2 hO7))
   all_goals
    have hstep:((numL (s.data.toList.take j):Nat):Int)*10+((s[j].toNat-48:Nat):Int)=((numL (s.data.toList.take (j+1)):Nat):Int):=by
     rw [numL_step (l:=s.data.toList) (by simpa using hjn),data_get s j hjn];omega
    rw [hstep] at hv7
    clear hstep
    have hN:=hv7.box2 hO7 (by decide) (.bool s7) (.slice A7 n7 c7)
    have hO8:=heap_set (heap_set hO7 0 (.bool s7)) 1 (.slice A7 n7 c7)
    have hR8:=heap_far (heap_far hR7 (p:=⟨w2.heap.size,0,none⟩) (by dsimp only;omega) (.bool s7)) (p:=⟨w2.heap.size,1,none⟩) (by dsimp only;omega) (.slice A7 n7 c7)
    have hb':=(hbel7.setCell (p:=⟨w2.heap.size,0,none⟩) hz2 (.bool s7)).setCell (p:=⟨w2.heap.size,1,none⟩) hz2 (.slice A7 n7 c7)
    generalize (w7.setCell ⟨w2.heap.size,0,none⟩ (.bool s7)).setCell ⟨w2.heap.size,1,none⟩ (.slice A7 n7 c7)=w8 at hN hO8 hR8 hb' ⊢
    clear hv7 hO7 hR7 hb7 hbel7 g0 g1 g2 g3 g4 hv6 hv5 hv4 hO6 hO5 hO4 hR6 hR5 hR4 hb6 hb5 hb4 hbel6 hbel5 hbel4
    go_wp2
    go_roundw
    case rel=>exact ⟨j+1,s7,A7,n7,c7,by omega,by go_num,hO8,hR8,hN,hb'⟩
    case measure=>simp [intOf];omega
  ·obtain rfl:j=s.size:=by omega
   rw [show s.data.toList.take s.size=s.data.toList from List.take_of_length_le (by simp)] at hbig
   obtain ⟨g0,g1,g2,g3,g4⟩:=box2 hR
   cases neg with
   | false=>
    go_wp2_with fail
    refine (mk_c _ (b.size:Int) hbig).mono ?_
    rintro e w3 ⟨rfl,hb3⟩
    have hR3:=heap_below hR hb3
    obtain ⟨g0,g1,g2,g3,g4⟩:=box2 hR3
    have hbel3:=below_then hb3 hbel hzr
    rw [show made ((numL s.data.toList:Nat):Int) (b.size:Int)=readR false s.data.toList (b.size:Int) from rfl]
    generalize readR false s.data.toList (b.size:Int)=R at *
    obtain ⟨R1,R2,R3⟩:=R
    go_wp2
    refine bodyPost_ret (v:=.tuple #[.agg #[.int .i64 R1,.int .i64 R2],.int .i64 R3]) (by simp [results,Tryz.results66,go_sem,g0,g1]) rfl ⟨rfl,?_⟩
    go_grown
   | true=>
    by_cases hz0:numL s.data.toList=0
    ·have e:readR true s.data.toList (b.size:Int)=(0,0,10):=by unfold readR;rw [if_pos rfl,if_pos hz0]
     have HE:=Lib.hid e
     clear e
     have hsg:((numL s.data.toList:Nat):Int).sign=0:=by rw [hz0];rfl
     have HS:=Lib.hid hsg;clear hsg hz0
     go_wp2_with fail
     refine (sign_c _ hbig).mono ?_
     rintro e w3 ⟨rfl,hb3⟩
     rw [HS.out]
     have hR3:=heap_below hR hb3
     obtain ⟨g0,g1,g2,g3,g4⟩:=box2 hR3
     have hbel3:=below_then hb3 hbel hzr
     go_wp2
     refine bodyPost_ret (v:=.tuple #[.agg #[.int .i64 0,.int .i64 0],.int .i64 10]) (by simp [results,Tryz.results66,go_sem,g0,g1]) rfl ⟨by rw [HE.out],?_⟩
     go_grown
    ·have e:readR true s.data.toList (b.size:Int)=made (-((numL s.data.toList:Nat):Int)) (b.size:Int):=by unfold readR;rw [if_pos rfl,if_neg hz0]
     have HE:=Lib.hid e
     clear e
     have hsg:((numL s.data.toList:Nat):Int).sign=1:=Int.sign_eq_one_of_pos (by omega)
     have HS:=Lib.hid hsg;clear hsg hz0
     go_wp2_with fail
     refine (sign_c _ hbig).mono ?_
     rintro e w3 ⟨rfl,hb3⟩
     rw [HS.out]
     have hR3:=heap_below hR hb3
     have hO3:=heap_below hO hb3
     have hbel3:=below_then hb3 hbel hzr
     have hbig3:=hbig.below hb3
     obtain ⟨g0,g1,g2,g3,g4⟩:=box2 hR3
     obtain ⟨o0,o1,of0,of1,oz⟩:=box2 hO3
     go_wp2_with fail
     refine (minus_c _ hbig3).mono ?_
     rintro e w4 ⟨s4,A4,n4,c4,rfl,hv4,hb4⟩
     have hR4:=heap_below hR3 hb4
     have hO4:=heap_below hO3 hb4
     have hbel4:=below_then hb4 hbel3 hbel3.size
     obtain ⟨g0,g1,g2,g3,g4⟩:=box2 hR4
     obtain ⟨o0,o1,of0,of1,oz⟩:=box2 hO4
     have hN:=hv4.box2 hO4 (by decide) (.bool s4) (.slice A4 n4 c4)
     have hR8:=heap_far (heap_far hR4 (p:=⟨w2.heap.size,0,none⟩) (by dsimp only;omega) (.bool s4)) (p:=⟨w2.heap.size,1,none⟩) (by dsimp only;omega) (.slice A4 n4 c4)
     have hb':=(hbel4.setCell (p:=⟨w2.heap.size,0,none⟩) hz2 (.bool s4)).setCell (p:=⟨w2.heap.size,1,none⟩) hz2 (.slice A4 n4 c4)
     go_wp2_with fail
     refine (mk_c _ (b.size:Int) hN).mono ?_
     rintro e w5 ⟨rfl,hb5⟩
     have hR5:=heap_below hR8 hb5
     obtain ⟨g0,g1,g2,g3,g4⟩:=box2 hR5
     have hbel5:=below_then hb5 hb' hb'.size
     rw [<- HE.out]
     clear HE
     generalize readR true s.data.toList (b.size:Int)=R at *
     obtain ⟨R1,R2,R3⟩:=R
     go_wp2
     refine bodyPost_ret (v:=.tuple #[.agg #[.int .i64 R1,.int .i64 R2],.int .i64 R3]) (by simp [results,Tryz.results66,go_sem,g0,g1]) rfl ⟨rfl,?_⟩
     go_grown
def readText (l:List UInt8):Int×Int×Int :=
 let neg:=l.head? == some 45
 let rest:=if neg then l.tail else l
 let c:=cutL rest 46
 if decide (40<l.length)||!wholeB c.1||(c.2.2&&(!digB c.2.1||decide (9<c.2.1.length))) then (0,0,10) else readR neg (c.1++c.2.1) c.2.1.length
theorem cutL_len (l:List UInt8) (c:UInt8):(cutL l c).1.length+(cutL l c).2.1.length<=l.length/\((cutL l c).2.2=false->(cutL l c).2.1=[]):=by
 rcases cutL_index l c with ⟨_,h⟩|⟨o,ho,_,h⟩
 ·rw [h];simp
 ·rw [h];simp;omega
theorem inB_append (a b:List UInt8) (x y:Nat):inB (a++b) x y=(inB a x y&&inB b x y):=by unfold inB;rw [List.all_append]
set_option maxHeartbeats 4000000 in
set_option maxRecDepth 100000 in
theorem readtext_c (s:ByteArray) (w:World) (hs:s.size<=9223372036854775807) :
  Calls Tryz.prog 24 #[.string s] w (RetD (readText s.data.toList) w):=by
 have hsl:s.data.toList.length=s.size:=by simp
 go_enter Tryz.func24,Tryz.ntmps24
 go_wp2_with fail
 refine (cutp_c s 45 _ hs).mono ?_
 rintro e w1 ⟨rfl,t,rfl,ht⟩
 have htl:t.size<=s.size:=by
  have h1:t.data.toList.length=t.size:=by simp
  rw [<- h1,ht,<- hsl]
  split
  ·simp
  ·exact Nat.le_refl _
 have HT:=Lib.hid ht;clear ht
 go_wp2_with fail
 refine (cut_c t 46 _ (by omega)).mono ?_
 rintro e w2 ⟨⟨n,rfl⟩,a,b,rfl,ha,hb⟩
 have hlen:=cutL_len t.data.toList 46
 have htl2:t.data.toList.length=t.size:=by simp
 rw [<- ha,<- hb,htl2] at hlen
 have hal:a.data.toList.length=a.size:=by simp
 have hbl:b.data.toList.length=b.size:=by simp
 rw [hal,hbl] at hlen
 have hlen1:=hlen.1
 have HN:=Lib.hid hlen.2
 have HA:=Lib.hid ha;have HB:=Lib.hid hb
 clear ha hb hlen htl2 hal hbl hsl
 have hfin:readText s.data.toList=if decide (40<s.size)||!wholeB a.data.toList||((cutL t.data.toList 46).2.2&&(!digB b.data.toList||decide (9<b.size))) then (0,0,10) else readR (hasB s 45) (a.data.toList++b.data.toList) b.size:=by
  unfold readText
  simp only
  have h2:(if (s.data.toList.head? == some 45)=true then s.data.toList.tail else s.data.toList)=t.data.toList:=HT.out.symm
  rw [h2,<- HA.out,<- HB.out]
  have h3:s.data.toList.length=s.size:=by simp
  have h4:b.data.toList.length=b.size:=by simp
  rw [h3,h4]
  rfl
 have HF:=Lib.hid hfin;clear hfin
 by_cases h1:40<s.size
 ·have h1':(40:Int)<(s.size:Int):=by omega
  go_wp2_with (first | (go_at_call 64;refine (iswhole_c a _ (by omega)).mono ?_;rintro e w1 ⟨rfl,rfl⟩;rw [HW.out]) | (go_at_call 65;refine (isdig_c b _ (by omega)).mono ?_;rintro e w1 ⟨rfl,rfl⟩;rw [HG.out]))
  refine bodyPost_ret (v:=.tuple #[.agg #[.int .i64 0,.int .i64 0],.int .i64 10]) (by simp [results,Tryz.results24,go_sem]) rfl ⟨by rw [HF.out];simp [h1],?_⟩
  go_grown
  exact below_drewN ((Below.refl _ _).alloc (Nat.le_refl _) _) _
 have h1':¬ (40:Int)<(s.size:Int):=by omega
 by_cases hw:wholeB a.data.toList=false
 ·have HW:=Lib.hid hw;clear hw
  go_wp2_with (first | (go_at_call 64;refine (iswhole_c a _ (by omega)).mono ?_;rintro e w1 ⟨rfl,rfl⟩;rw [HW.out]) | (go_at_call 65;refine (isdig_c b _ (by omega)).mono ?_;rintro e w1 ⟨rfl,rfl⟩;rw [HG.out]))
  refine bodyPost_ret (v:=.tuple #[.agg #[.int .i64 0,.int .i64 0],.int .i64 10]) (by simp [results,Tryz.results24,go_sem]) rfl ⟨by rw [HF.out];simp [h1,HW.out],?_⟩
  go_grown
  exact below_drewN ((Below.refl _ _).alloc (Nat.le_refl _) _) _
 have hw:wholeB a.data.toList=true:=by simpa using hw
 have hda:digB a.data.toList=true:=by unfold wholeB at hw;cases h:digB a.data.toList with | true=>rfl | false=>rw [h] at hw;cases hw
 have hia:inB a.data.toList 48 57=true:=by unfold digB at hda;cases h:inB a.data.toList 48 57 with | true=>rfl | false=>rw [h] at hda;simp at hda
 have HW:=Lib.hid hw;have HI:=Lib.hid hia;clear hw hda hia
 by_cases hf:(cutL t.data.toList 46).2.2=false
 ·have hb0:=HN.out hf
  have hbz:b.size=0:=by
   have:b.data.toList.length=b.size:=by simp
   rw [<- this,hb0];rfl
  have HB0:=Lib.hid hb0;have HBZ:=Lib.hid hbz;have HFF:=Lib.hid hf;clear hb0 hbz
  have e:readText s.data.toList=readR (hasB s 45) (a.data.toList++b.data.toList) b.size:=by rw [HF.out];simp [h1,HW.out,HFF.out]
  have HE:=Lib.hid e;clear e
  go_wp2_with (first | (go_at_call 64;refine (iswhole_c a _ (by omega)).mono ?_;rintro e w1 ⟨rfl,rfl⟩;rw [HW.out]) | (go_at_call 65;refine (isdig_c b _ (by omega)).mono ?_;rintro e w1 ⟨rfl,rfl⟩;rw [HG.out]))
  refine (read_c (hasB s 45) a b _ (by rw [HB0.out,List.append_nil];exact HI.out) (by omega)).mono ?_
  rintro e w3 ⟨rfl,hb3⟩
  have hR3:w3.heap[w.heap.size]?=some (.cells #[.int .i64 0,.int .i64 0] 31 (0,0)):=heap_below (by exact heap_new w _ rfl) hb3
  obtain ⟨g0,g1,g2,g3,g4⟩:=box2 hR3
  rw [<- HE.out]
  clear HE
  generalize readText s.data.toList=R at *
  obtain ⟨R1,R2,R3⟩:=R
  go_wp2
  refine bodyPost_ret (v:=.tuple #[.agg #[.int .i64 R1,.int .i64 R2],.int .i64 R3]) (by simp [results,Tryz.results24,go_sem,g0,g1]) rfl ⟨rfl,?_⟩
  go_grown
  exact below_then hb3 (below_drewN (by go_grown) _) (by simp)
 have hf:(cutL t.data.toList 46).2.2=true:=by simpa using hf
 have HFF:=Lib.hid hf
 by_cases hg:digB b.data.toList=false
 ·have HG:=Lib.hid hg;clear hg
  go_wp2_with (first | (go_at_call 64;refine (iswhole_c a _ (by omega)).mono ?_;rintro e w1 ⟨rfl,rfl⟩;rw [HW.out]) | (go_at_call 65;refine (isdig_c b _ (by omega)).mono ?_;rintro e w1 ⟨rfl,rfl⟩;rw [HG.out]))
  refine bodyPost_ret (v:=.tuple #[.agg #[.int .i64 0,.int .i64 0],.int .i64 10]) (by simp [results,Tryz.results24,go_sem]) rfl ⟨by rw [HF.out];simp [h1,HW.out,HFF.out,HG.out],?_⟩
  go_grown
  exact below_drewN ((Below.refl _ _).alloc (Nat.le_refl _) _) _
 have hg:digB b.data.toList=true:=by simpa using hg
 have hib:inB b.data.toList 48 57=true:=by unfold digB at hg;cases h:inB b.data.toList 48 57 with | true=>rfl | false=>rw [h] at hg;simp at hg
 have HG:=Lib.hid hg;have HJ:=Lib.hid hib;clear hg hib
 by_cases h9:9<b.size
 ·have h9':(9:Int)<(b.size:Int):=by omega
  go_wp2_with (first | (go_at_call 64;refine (iswhole_c a _ (by omega)).mono ?_;rintro e w1 ⟨rfl,rfl⟩;rw [HW.out]) | (go_at_call 65;refine (isdig_c b _ (by omega)).mono ?_;rintro e w1 ⟨rfl,rfl⟩;rw [HG.out]))
  refine bodyPost_ret (v:=.tuple #[.agg #[.int .i64 0,.int .i64 0],.int .i64 10]) (by simp [results,Tryz.results24,go_sem]) rfl ⟨by rw [HF.out];simp [h1,HW.out,HFF.out,HG.out,h9],?_⟩
  go_grown
  exact below_drewN ((Below.refl _ _).alloc (Nat.le_refl _) _) _
 ·have h9':¬ (9:Int)<(b.size:Int):=by omega
  have e:readText s.data.toList=readR (hasB s 45) (a.data.toList++b.data.toList) b.size:=by rw [HF.out];simp [h1,HW.out,HFF.out,HG.out,h9]
  have HE:=Lib.hid e;clear e
  go_wp2_with (first | (go_at_call 64;refine (iswhole_c a _ (by omega)).mono ?_;rintro e w1 ⟨rfl,rfl⟩;rw [HW.out]) | (go_at_call 65;refine (isdig_c b _ (by omega)).mono ?_;rintro e w1 ⟨rfl,rfl⟩;rw [HG.out]))
  refine (read_c (hasB s 45) a b _ (by rw [inB_append,HI.out,HJ.out];rfl) (by omega)).mono ?_
  rintro e w3 ⟨rfl,hb3⟩
  have hR3:w3.heap[w.heap.size]?=some (.cells #[.int .i64 0,.int .i64 0] 31 (0,0)):=heap_below (by exact heap_new w _ rfl) hb3
  obtain ⟨g0,g1,g2,g3,g4⟩:=box2 hR3
  rw [<- HE.out]
  clear HE
  generalize readText s.data.toList=R at *
  obtain ⟨R1,R2,R3⟩:=R
  go_wp2
  refine bodyPost_ret (v:=.tuple #[.agg #[.int .i64 R1,.int .i64 R2],.int .i64 R3]) (by simp [results,Tryz.results24,go_sem,g0,g1]) rfl ⟨rfl,?_⟩
  go_grown
  exact below_then hb3 (below_drewN (by go_grown) _) (by simp)
end Go.Proofs.YtbfbgappinilmaaGreatDoor
namespace Go.Proofs.YtbfbgappinilmaaGreatDoor
open Go.RowKit Limb
set_option linter.unusedVariables false
set_option linter.unusedSimpArgs false
def nameSet:ByteArray:=⟨#[97,98,99,100,101,102,103,104,105,106,107,108,109,110,111,112,113,114,115,116,117,118,119,120,121,122,48,49,50,51,52,53,54,55,56,57,45]⟩
theorem nameSet_fin:∀ i:Fin 256,nameSet.data.toList.contains (UInt8.ofNat i.val)=nameC (UInt8.ofNat i.val):=by decide +kernel
theorem nameSet_c (c:UInt8):nameSet.data.toList.contains c=nameC c:=by
 have:=nameSet_fin ⟨c.toNat,c.toNat_lt⟩
 simp only [UInt8.ofNat_toNat] at this
 exact this
theorem dropW_nil {α:Type} (p:α->Bool):∀ l:List α,l.dropWhile p=[]↔∀ x∈l,p x=true
 | []=>by simp
 | a :: l=>by
  rw [List.dropWhile_cons]
  cases h:p a with
  | true=>simp [h,dropW_nil p l]
  | false=>simp [h]
theorem trimS_nil (l cs:List UInt8):(Lib.trimS l cs).isEmpty=l.all (cs.contains ·):=by
 have e:Lib.trimS l cs=(l.reverse.dropWhile (cs.contains ·)).reverse.dropWhile (cs.contains ·):=rfl
 rw [e]
 cases h:l.reverse.dropWhile (cs.contains ·) with
 | nil=>
  rw [dropW_nil] at h
  have:l.all (cs.contains ·)=true:=List.all_eq_true.2 fun x hx=>h x (by simpa using hx)
  rw [this];rfl
 | cons a m=>
  have h1:cs.contains a=false:=by
   have:=List.head?_dropWhile_not (cs.contains ·) l.reverse
   rw [h] at this
   simpa using this
  have h2:a∈l:=by
   have:a∈l.reverse.dropWhile (cs.contains ·):=by rw [h];simp
   have:=(List.dropWhile_sublist (cs.contains ·)).subset this
   simpa using this
  have h3:l.all (cs.contains ·)=false:=by
   rw [Bool.eq_false_iff]
   intro h4
   have:=List.all_eq_true.1 h4 a h2
   rw [h1] at this;cases this
  rw [h3]
  rw [Bool.eq_false_iff]
  intro h4
  rw [List.isEmpty_iff,dropW_nil] at h4
  have:=h4 a (by simp)
  rw [h1] at this;cases this
theorem trim_name (l:List UInt8):(Lib.trimS l nameSet.data.toList).isEmpty=l.all nameC:=by
 rw [trimS_nil]
 congr 1
 funext c
 exact nameSet_c c
theorem head_at {s:ByteArray} (h:0<s.size):s.data.toList.headD 0=s[0]:=by
 have:=head_get h
 cases hl:s.data.toList with
 | nil=>rw [hl] at this;cases this
 | cons a m=>rw [hl] at this;injection this
def RetB (b:Bool) (w:World) (e:Ending) (w':World):Prop:=e=.returned (.bool b)/\Below w.heap.size w w'
set_option maxHeartbeats 1000000 in
set_option maxRecDepth 100000 in
theorem isname_c (s:ByteArray) (w:World) (hs:s.size<=9223372036854775807) :
  Calls Tryz.prog 20 #[.string s] w (RetB (nameB s.data.toList) w):=by
 have hlen:s.data.toList.length=s.size:=by simp
 by_cases h1:1<=s.size/\s.size<=40
 ·obtain ⟨h1,h2⟩:=h1
  have hh:=head_at (s:=s) (by omega)
  have en:nameB s.data.toList=(lowB s[0]&&s.data.toList.all nameC):=by
   unfold nameB;rw [hlen,hh,decide_eq_true ⟨h1,h2⟩,Bool.true_and]
  by_cases h3:97<=s[0].toNat/\s[0].toNat<=122
  ·have en2:nameB s.data.toList=(Lib.trimS s.data.toList nameSet.data.toList).isEmpty:=by
    rw [en,trim_name];unfold lowB;rw [decide_eq_true h3,Bool.true_and]
   rw [en2]
   obtain ⟨h3,h4⟩:=h3
   have hcon:=Tryz.strings_Trim_laid s nameSet w hs (by decide) (ascii_of_all (by decide))
   obtain ⟨r,hr⟩:∃ r:ByteArray,(⟨(Lib.trimS s.data.toList nameSet.data.toList).toArray⟩:ByteArray)=r:=⟨_,rfl⟩
   have er:(Lib.trimS s.data.toList nameSet.data.toList).isEmpty=r.toList.isEmpty:=by rw [<- hr,Lib.toList_data]
   rw [hr] at hcon
   unfold nameSet at hcon
   rw [er]
   clear hr er en en2 hh hlen
   have h3':¬ (s[0].toNat:Int)<97:=by omega
   have h4':¬ (122:Int)<(s[0].toNat:Int):=by omega
   cases hb:r.toList.isEmpty with
   | true=>
    go_enter Tryz.func20,Tryz.ntmps20
    go_wp2_with (go_at_call 60;refine hcon.mono ?_;rintro e w1 ⟨rfl,hb1⟩)
    go_ret
    exact ⟨rfl,hb1⟩
   | false=>
    go_enter Tryz.func20,Tryz.ntmps20
    go_wp2_with (go_at_call 60;refine hcon.mono ?_;rintro e w1 ⟨rfl,hb1⟩)
    go_ret
    exact ⟨rfl,hb1⟩
  ·have en2:nameB s.data.toList=false:=by rw [en];unfold lowB;rw [decide_eq_false h3];rfl
   rw [en2]
   clear en en2 hh hlen
   by_cases h4:s[0].toNat<97
   ·have h4':(s[0].toNat:Int)<97:=by omega
    clear h3
    go_enter Tryz.func20,Tryz.ntmps20
    go_wp2
    go_ret
    exact ⟨rfl,Below.refl _ _⟩
   ·have h4':¬ (s[0].toNat:Int)<97:=by omega
    have h5':(122:Int)<(s[0].toNat:Int):=by omega
    clear h3 h4
    go_enter Tryz.func20,Tryz.ntmps20
    go_wp2
    go_ret
    exact ⟨rfl,Below.refl _ _⟩
 ·have en:nameB s.data.toList=false:=by unfold nameB;rw [hlen,decide_eq_false h1];rfl
  rw [en]
  clear en hlen
  by_cases h2:s.size<1
  ·clear h1
   go_enter Tryz.func20,Tryz.ntmps20
   go_wp2
   go_ret
   exact ⟨rfl,Below.refl _ _⟩
  ·have h3:40<s.size:=by omega
   clear h1
   go_enter Tryz.func20,Tryz.ntmps20
   go_wp2
   go_ret
   exact ⟨rfl,Below.refl _ _⟩
def Rws (w:World) (A:Option Addr) (k n:Nat) (f:Nat->Nat->Value):Prop :=
 0<n->∃ b off,A=some ⟨b,off,none⟩/\b<w.heap.size/\∀ j,j<n->∀ i,i<k->w.cell? ⟨b,off+j*k+i,none⟩=some (f j i)
theorem Rws.below {w w':World} {A:Option Addr} {k n:Nat} {f:Nat->Nat->Value} (h:Rws w A k n f) (hb:Below w.heap.size w w'):Rws w' A k n f:=fun hn=>by
 obtain ⟨b,off,e,hl,hc⟩:=h hn
 exact ⟨b,off,e,Nat.lt_of_lt_of_le hl hb.size,fun j hj i hi=>(hb.cell (p:=⟨b,off+j*k+i,none⟩) hl).trans (hc j hj i hi)⟩
theorem Rws.get {w:World} {A:Option Addr} {k n:Nat} {f:Nat->Nat->Value} (h:Rws w A k n f) {j:Nat} (hj:j<n):∃ b off,A=some ⟨b,off,none⟩/\b<w.heap.size/\∀ i,i<k->w.cell? ⟨b,off+j*k+i,none⟩=some (f j i):=by
 obtain ⟨b,off,e,hl,hc⟩:=h (by omega)
 exact ⟨b,off,e,hl,hc j hj⟩
end Go.Proofs.YtbfbgappinilmaaGreatDoor
namespace Go.Proofs.YtbfbgappinilmaaGreatDoor
open Go.RowKit Limb Nmb
set_option linter.unusedVariables false
set_option linter.unusedSimpArgs false
def colV (cs:List Col) (j i:Nat):Value :=
 match i with
 | 0=>.string (cA cs j).name
 | 1=>.int .i64 (cA cs j).kind
 | 2=>.int .i64 (cA cs j).width
 | 3=>.int .i64 (cA cs j).places
 | 4=>.int .i64 (cA cs j).form
 | 5=>.bool (cA cs j).right
 | 6=>.int .u8 (cA cs j).fill
 | _=>.bool (cA cs j).need
def colG (c:Col):Value:=.agg #[.string c.name,.int .i64 c.kind,.int .i64 c.width,.int .i64 c.places,.int .i64 c.form,.bool c.right,.int .u8 c.fill,.bool c.need]
def Cols (w:World) (A:Option Addr) (cs:List Col):Prop:=((∀ c∈cs,c.name.size<=9223372036854775807)/\cs.length<=9223372036854775807)/\Rws w A 8 cs.length (colV cs)
theorem Cols.below {w w':World} {A:Option Addr} {cs:List Col} (h:Cols w A cs) (hb:Below w.heap.size w w'):Cols w' A cs:=⟨h.1,h.2.below hb⟩
def kindV (ks:List RKd) (FA:Nat->Option Addr) (FC:Nat->Nat) (j i:Nat):Value :=
 match i with
 | 0=>.string (kA ks j).tag
 | 1=>.slice (FA j) (kA ks j).fields.length (FC j)
 | 2=>.int .i64 (kA ks j).most
 | _=>.string (kA ks j).under
def kindG (k:RKd) (A:Option Addr) (C:Nat):Value:=.agg #[.string k.tag,.slice A k.fields.length C,.int .i64 k.most,.string k.under]
def Kinds (w:World) (A:Option Addr) (ks:List RKd) (FA:Nat->Option Addr) (FC:Nat->Nat):Prop :=
 ((∀ k∈ks,k.tag.size<=9223372036854775807/\k.under.size<=9223372036854775807)/\ks.length<=9223372036854775807)/\Rws w A 4 ks.length (kindV ks FA FC)/\∀ j,j<ks.length->Cols w (FA j) (kA ks j).fields/\(kA ks j).fields.length<=FC j
theorem Kinds.below {w w':World} {A:Option Addr} {ks:List RKd} {FA:Nat->Option Addr} {FC:Nat->Nat} (h:Kinds w A ks FA FC) (hb:Below w.heap.size w w'):Kinds w' A ks FA FC :=
 ⟨h.1,h.2.1.below hb,fun j hj=>⟨(h.2.2 j hj).1.below hb,(h.2.2 j hj).2⟩⟩
set_option maxHeartbeats 1000000 in
set_option maxRecDepth 100000 in
theorem ixc_c (N:Nat) (cap:Value) (q:Col->Bool) (A:Option Addr) (c:Nat) (cs:List Col) (w:World) (ho:Cols w A cs) (hr:∀ args w,(Sem.run Tryz.prog (callFunc N args) w)=.ok (.enter N args) w)
  (hq:∀ j,j<cs.length->∀ wr,Below w.heap.size w wr->Calls Tryz.prog N #[colG (cA cs j),cap] wr fun e w'=>e=.returned (.bool (q (cA cs j)))/\Below wr.heap.size wr w') :
  Calls Tryz.prog 81 #[.slice A cs.length c,.func (.func N) #[] #[cap]] w
   fun e w'=>e=.returned (.int .i64 (ixF q cs))/\Below w.heap.size w w':=by
 have HO:=Lib.hid ho;have HQ:=Lib.hid hq;have HR:=Lib.hid hr
 obtain ⟨n,hnn⟩:∃ n,cs.length=n:=⟨_,rfl⟩
 have hn:=ho.1.2
 have HN:=Lib.hid hnn
 rw [hnn] at hn ⊢
 clear ho hr hq hnn
 go_enter Tryz.func81,Tryz.ntmps81
 go_wp2
 go_loopw [8] (fun i wr=>∃ k:Nat,k<=n/\i=.int .i64 k/\Below w.heap.size w wr/\Hid (∀ j,j<k->q (cA cs j)=false)) (fun i _=>n-(intOf i).toNat)
 case atStart=>exact ⟨0,Nat.zero_le _,rfl,Below.refl _ _,Lib.hid (fun j h=>absurd h (Nat.not_lt_zero _))⟩
 case round=>
  obtain ⟨k,hk,rfl,hb,HK⟩:=hrel
  rcases Nat.lt_or_ge k n with hlt | hge
  ·have hltj:k<cs.length:=by rw [HN.out];exact hlt
   obtain ⟨b,off,rfl,hbw,hc⟩:=(HO.out.below hb).2.get hltj
   have c0:wr.cell? ⟨b,off+k*8,none⟩=some (.string (cA cs k).name):=hc 0 (by decide)
   have c1:wr.cell? ⟨b,off+k*8+1,none⟩=some (.int .i64 (cA cs k).kind):=hc 1 (by decide)
   have c2:wr.cell? ⟨b,off+k*8+2,none⟩=some (.int .i64 (cA cs k).width):=hc 2 (by decide)
   have c3:wr.cell? ⟨b,off+k*8+3,none⟩=some (.int .i64 (cA cs k).places):=hc 3 (by decide)
   have c4:wr.cell? ⟨b,off+k*8+4,none⟩=some (.int .i64 (cA cs k).form):=hc 4 (by decide)
   have c5:wr.cell? ⟨b,off+k*8+5,none⟩=some (.bool (cA cs k).right):=hc 5 (by decide)
   have c6:wr.cell? ⟨b,off+k*8+6,none⟩=some (.int .u8 (cA cs k).fill):=hc 6 (by decide)
   have c7:wr.cell? ⟨b,off+k*8+7,none⟩=some (.bool (cA cs k).need):=hc 7 (by decide)
   have HC:=Lib.hid (HQ.out k hltj wr hb)
   obtain ⟨x,hx⟩:∃ x,cA cs k=x:=⟨_,rfl⟩
   have HX:=Lib.hid hx
   rw [hx] at c0 c1 c2 c3 c4 c5 c6 c7 HC
   unfold colG at HC
   clear hc hx
   cases hot:q x with
   | true=>
    rw [hot] at HC
    have HT:=Lib.hid (show ixF q cs=(k:Int) from ixF_hit hltj (by rw [cA_get hltj,HX.out];exact hot) (fun j hj hjk=>by rw [cA_get hj];exact HK.out j hjk))
    clear hot hltj
    go_wp2_with fail
    rw [HR.out]
    refine HC.out.mono ?_
    rintro e w2 ⟨rfl,hb2⟩
    have hB2:=below_then hb2 hb hb.size
    go_wp2
    go_ret
    exact ⟨congrArg (fun i=>Ending.returned (Value.int .i64 i)) HT.out.symm,hB2⟩
   | false=>
    rw [hot] at HC
    have HK2:=Lib.hid (show ∀ j,j<k+1->q (cA cs j)=false from fun j hj=>by
     rcases Nat.lt_or_ge j k with h | h
     ·exact HK.out j h
     ·obtain rfl:j=k:=by omega
      rw [HX.out];exact hot)
    clear hot hltj
    go_wp2_with fail
    rw [HR.out]
    refine HC.out.mono ?_
    rintro e w2 ⟨rfl,hb2⟩
    have hB2:=below_then hb2 hb hb.size
    go_wp2
    go_roundw
    case rel=>exact ⟨k+1,by omega,by go_num,hB2,HK2⟩
    case measure=>simp [intOf];omega
  ·obtain rfl:k=n:=by omega
   have HT:=Lib.hid (show ixF q cs=-1 from ixF_no (fun j hj=>by rw [cA_get hj];exact HK.out j (by rw [<- HN.out];exact hj)))
   go_wp2
   go_ret
   exact ⟨congrArg (fun i=>Ending.returned (Value.int .i64 i)) HT.out.symm,hb⟩
set_option maxHeartbeats 1000000 in
set_option maxRecDepth 100000 in
theorem ixk_c (N:Nat) (cap:Value) (q:RKd->Bool) (A:Option Addr) (c n:Nat) (ks:List RKd) (FA:Nat->Option Addr) (FC:Nat->Nat) (w:World) (hnk:n<=ks.length) (ho:Kinds w A ks FA FC) (hr:∀ args w,(Sem.run Tryz.prog (callFunc N args) w)=.ok (.enter N args) w)
  (hq:∀ j,j<n->∀ wr,Below w.heap.size w wr->Calls Tryz.prog N #[kindG (kA ks j) (FA j) (FC j),cap] wr fun e w'=>e=.returned (.bool (q (kA ks j)))/\Below wr.heap.size wr w') :
  Calls Tryz.prog 78 #[.slice A n c,.func (.func N) #[] #[cap]] w
   fun e w'=>e=.returned (.int .i64 (ixF q (ks.take n)))/\Below w.heap.size w w':=by
 have HO:=Lib.hid ho;have HQ:=Lib.hid hq;have HR:=Lib.hid hr
 have hn:n<=9223372036854775807:=by have:=ho.1.2;omega
 clear ho hr hq
 go_enter Tryz.func78,Tryz.ntmps78
 go_wp2
 go_loopw [8] (fun i wr=>∃ k:Nat,k<=n/\i=.int .i64 k/\Below w.heap.size w wr/\Hid (∀ j,j<k->q (kA ks j)=false)) (fun i _=>n-(intOf i).toNat)
 case atStart=>exact ⟨0,Nat.zero_le _,rfl,Below.refl _ _,Lib.hid (fun j h=>absurd h (Nat.not_lt_zero _))⟩
 case round=>
  obtain ⟨k,hk,rfl,hb,HK⟩:=hrel
  rcases Nat.lt_or_ge k n with hlt | hge
  ·have hltj:k<ks.length:=by omega
   obtain ⟨b,off,rfl,hbw,hc⟩:=(HO.out.below hb).2.1.get hltj
   have c0:wr.cell? ⟨b,off+k*4,none⟩=some (.string (kA ks k).tag):=hc 0 (by decide)
   have c1:wr.cell? ⟨b,off+k*4+1,none⟩=some (.slice (FA k) (kA ks k).fields.length (FC k)):=hc 1 (by decide)
   have c2:wr.cell? ⟨b,off+k*4+2,none⟩=some (.int .i64 (kA ks k).most):=hc 2 (by decide)
   have c3:wr.cell? ⟨b,off+k*4+3,none⟩=some (.string (kA ks k).under):=hc 3 (by decide)
   have HC:=Lib.hid (HQ.out k hlt wr hb)
   obtain ⟨x,hx⟩:∃ x,kA ks k=x:=⟨_,rfl⟩
   have HX:=Lib.hid hx
   rw [hx] at c0 c1 c2 c3 HC
   unfold kindG at HC
   generalize FA k=B at c1 HC
   generalize FC k=D at c1 HC
   clear hc hx
   cases hot:q x with
   | true=>
    rw [hot] at HC
    have HT:=Lib.hid (show ixF q (ks.take n)=(k:Int) from ixF_hit (by rw [List.length_take];omega) (by rw [List.getElem_take,kA_get hltj,HX.out];exact hot) (fun j hj hjk=>by rw [List.getElem_take,kA_get];exact HK.out j hjk))
    clear hot hltj
    go_wp2_with fail
    rw [HR.out]
    refine HC.out.mono ?_
    rintro e w2 ⟨rfl,hb2⟩
    have hB2:=below_then hb2 hb hb.size
    go_wp2
    go_ret
    exact ⟨congrArg (fun i=>Ending.returned (Value.int .i64 i)) HT.out.symm,hB2⟩
   | false=>
    rw [hot] at HC
    have HK2:=Lib.hid (show ∀ j,j<k+1->q (kA ks j)=false from fun j hj=>by
     rcases Nat.lt_or_ge j k with h | h
     ·exact HK.out j h
     ·obtain rfl:j=k:=by omega
      rw [HX.out];exact hot)
    clear hot hltj
    go_wp2_with fail
    rw [HR.out]
    refine HC.out.mono ?_
    rintro e w2 ⟨rfl,hb2⟩
    have hB2:=below_then hb2 hb hb.size
    go_wp2
    go_roundw
    case rel=>exact ⟨k+1,by omega,by go_num,hB2,HK2⟩
    case measure=>simp [intOf];omega
  ·obtain rfl:k=n:=by omega
   have HT:=Lib.hid (show ixF q (ks.take k)=-1 from ixF_no (fun j hj=>by rw [List.length_take] at hj;rw [List.getElem_take,kA_get];exact HK.out j (by omega)))
   go_wp2
   go_ret
   exact ⟨congrArg (fun i=>Ending.returned (Value.int .i64 i)) HT.out.symm,hb⟩
end Go.Proofs.YtbfbgappinilmaaGreatDoor
