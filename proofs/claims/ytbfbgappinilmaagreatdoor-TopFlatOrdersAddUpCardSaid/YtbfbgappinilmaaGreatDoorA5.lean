/- The walks of package amount: Value, Made, Compare, Sum. The walk of package amount: Sum. The walk of awake: ReadText at one text. -/
import Derived.Test.YtbfbgappinilmaaGreatDoorA1
import Derived.Deep.RegionWith
import Derived.Lib.Strings
import Derived.Lib.IndexBytes
import Derived.Lib.Bytealg
import Derived.Lib.IndexLaws
-- merged: A2 A3 A4 A5
namespace Go.Proofs.YtbfbgappinilmaaGreatDoor
open Go.RowKit Limb
theorem value_c (u p:Int) (w:World) (h:decB u p=true) :
  Calls Tryz.prog 57 #[.agg #[.int .i64 u,.int .i64 p]] w (Makes .u32 127 B32 w (scaled u p 9)):=by
 have hp:=decB_out h
 go_enter Tryz.func57,Tryz.ntmps57
 go_wp2_with fail
 refine (scaled_c u p 9 _ h (by omega) (by omega)).mono ?_
 rintro e w1 ⟨s1,A1,n1,c1,rfl,hv,hb⟩
 have hB:=heap_below (heap_new (w.alloc _) _ rfl) hb
 simp only [World.size_alloc] at hB
 obtain ⟨g0,g1,g2,g3,g4⟩:=box2 hB
 go_wp2
 refine bodyPost_ret (v:=.agg #[.bool s1,.slice A1 n1 c1]) (by simp [results,Tryz.results57,go_sem,g0,g1]) rfl ⟨s1,A1,n1,c1,rfl,hv.box2 hB (by decide) _ _,?_⟩
 go_grown
 exact below_then hb (by go_grown) (by simp only [World.size_alloc];omega)
theorem made_fit (z p:Int) (h:z.natAbs<=1000000000000000):made z p=(z,p,0)/\fitV z 1000000000000000=z/\fitB z 1000000000000000=true:=by
 unfold made fitV fitB;simp [h]
theorem made_not (z p:Int) (h:¬ z.natAbs<=1000000000000000):made z p=(0,0,1)/\fitV z 1000000000000000=0/\fitB z 1000000000000000=false:=by
 unfold made fitV fitB;simp [h]
set_option maxHeartbeats 1000000 in
theorem mk_c (w:World) {s:Bool} {A:Option Addr} {n c:Nat} {z:Int} (p:Int) (h:Big .u32 127 B32 w s A n c z) :
  Calls Tryz.prog 56 #[.agg #[.bool s,.slice A n c],.int .i64 p] w (RetD (made z p) w):=by
 by_cases hz:z.natAbs<=1000000000000000
 ·obtain ⟨e1,e2,e3⟩:=made_fit z p hz
  rw [e1]
  have E2:=Lib.hid e2;have E3:=Lib.hid e3;clear e1 e2 e3
  go_enter Tryz.func56,Tryz.ntmps56
  go_wp2_with fail
  refine (int_c _ 1000000000000000 ((h.alloc _).alloc _) (by omega)).mono ?_
  rintro e w1 ⟨rfl,hb⟩
  rw [E2.out,E3.out]
  have hB:=heap_below (heap_new (w.alloc _) _ rfl) hb
  simp only [World.size_alloc] at hB
  obtain ⟨g0,g1,g2,g3,g4⟩:=box2 hB
  go_wp2
  refine bodyPost_ret (v:=.tuple #[.agg #[.int .i64 z,.int .i64 p],.int .i64 0]) (by simp [results,Tryz.results56,go_sem,g0,g1]) rfl ⟨rfl,?_⟩
  go_grown
  exact below_then hb (by go_grown) (by simp only [World.size_alloc];omega)
 ·obtain ⟨e1,e2,e3⟩:=made_not z p hz
  rw [e1]
  have E2:=Lib.hid e2;have E3:=Lib.hid e3;clear e1 e2 e3
  go_enter Tryz.func56,Tryz.ntmps56
  go_wp2_with fail
  refine (int_c _ 1000000000000000 ((h.alloc _).alloc _) (by omega)).mono ?_
  rintro e w1 ⟨rfl,hb⟩
  rw [E2.out,E3.out]
  have hB:=heap_below (heap_new (w.alloc _) _ rfl) hb
  simp only [World.size_alloc] at hB
  obtain ⟨g0,g1,g2,g3,g4⟩:=box2 hB
  go_wp2
  refine bodyPost_ret (v:=.tuple #[.agg #[.int .i64 0,.int .i64 0],.int .i64 1]) (by simp [results,Tryz.results56,go_sem,g0,g1]) rfl ⟨rfl,?_⟩
  go_grown
  exact below_then hb (by go_grown) (by simp only [World.size_alloc];omega)
def RetIF (n f:Int) (w:World) (e:Ending) (w':World):Prop:=e=.returned (.tuple #[.int .i64 n,.int .i64 f])/\Below w.heap.size w w'
set_option maxHeartbeats 2000000 in
set_option maxRecDepth 100000 in
theorem cmp_ok (u p v q:Int) (w:World) (ha:decB u p=true) (hb:decB v q=true) :
  Calls Tryz.prog 16 #[.agg #[.int .i64 u,.int .i64 p],.agg #[.int .i64 v,.int .i64 q]] w (RetIF (scaled u p 9-scaled v q 9).sign 0 w):=by
 have h1:=decB_out ha
 have h2:=decB_out hb
 have hall:allB [(u,p),(v,q)]=true:=by rw [allB_two,ha,hb];rfl
 have HA:=Lib.hid ha;have HB:=Lib.hid hb;have HALL:=Lib.hid hall;clear ha hb hall
 go_enter Tryz.func16,Tryz.ntmps16
 go_wp2_with fail
 refine (chks_ok [(u,p),(v,q)] _ 2 2 _ (decs_two _ _ (by simp) (by omega) (by omega) (by omega) (by omega)) (by omega) HALL.out).mono ?_
 rintro e w3 ⟨rfl,hb3⟩
 have hB1:=heap_below (heap_old (heap_old (heap_new w (.cells #[.int .i64 u,.int .i64 p] 31) rfl) _) _) hb3
 have hB2:=heap_below (heap_old (heap_new (w.alloc _) (.cells #[.int .i64 v,.int .i64 q] 31) rfl) _) hb3
 simp only [World.size_alloc] at hB2
 have hbel:=below_then hb3 (B:=w.heap.size) (w:=w) (by go_grown) (by simp only [World.size_alloc];omega)
 clear hb3
 have hz3:=hbel.size
 obtain ⟨c10,c11,-,-,z1⟩:=box2 hB1
 obtain ⟨c20,c21,-,-,z2⟩:=box2 hB2
 go_wp2_with fail
 go_region_held3 (fun w'=>w'.cell? ⟨w.heap.size,0,none⟩=some (.int .i64 u)/\w'.cell? ⟨w.heap.size,1,none⟩=some (.int .i64 p)/\w'.cell? ⟨w.heap.size+1,0,none⟩=some (.int .i64 v)/\w'.cell? ⟨w.heap.size+1,1,none⟩=some (.int .i64 q))
  (first | (go_keep;done) | (refine ⟨?_,?_,?_,?_⟩<;>assumption))
  (first
   | (go_at_call_of 57 (Value.agg #[.int .i64 u,.int .i64 p]);refine (value_c u p _ HA.out).mono ?_;rintro e w4 ⟨s4,A4,n4,c4,rfl,hv4,hb4⟩;(have hC1:=heap_below (w:=w3.drew) hB1 hb4);(have hC2:=heap_below (w:=w3.drew) hB2 hb4);(have hbel4:=below_then hb4 hbel.drew hz3);obtain ⟨r10,r11,-,-,-⟩:=box2 hC1;obtain ⟨r20,r21,-,-,-⟩:=box2 hC2)
   | (go_at_call_of 57 (Value.agg #[.int .i64 v,.int .i64 q]);refine (value_c v q _ HB.out).mono ?_;rintro e w5 ⟨s5,A5,n5,c5,rfl,hv5,hb5⟩;(have hE1:=heap_below hC1 hb5);(have hE2:=heap_below hC2 hb5);(have hbel5:=below_then hb5 hbel4 hbel4.size);obtain ⟨t10,t11,-,-,-⟩:=box2 hE1;obtain ⟨t20,t21,-,-,-⟩:=box2 hE2)
   | (go_at_call 58;refine (compareI_c _ (hv4.below hb5) hv5 (scaled_small HA.out (by omega)) (scaled_small HB.out (by omega))).mono ?_;rintro e w6 ⟨rfl,hb6⟩;(have hF1:=heap_below hE1 hb6);(have hF2:=heap_below hE2 hb6);(have hbel6:=below_then hb6 hbel5 hbel5.size);obtain ⟨u10,u11,-,-,-⟩:=box2 hF1;obtain ⟨u20,u21,-,-,-⟩:=box2 hF2))
 go_wp2
 go_ret2
 exact ⟨rfl,hbel6⟩
theorem sumR_ok {ds:List (Int×Int)} (h:¬ 1000<ds.length) (h2:allB ds=true):sumR ds=made (sumZ ds (maxP ds).toNat) (maxP ds):=by unfold sumR;rw [if_neg h,h2];rfl
set_option maxHeartbeats 4000000 in
set_option maxRecDepth 100000 in
theorem sum_ok (ds:List (Int×Int)) (A:Option Addr) (n c:Nat) (w:World) (hd:Decs w A n ds) (h:¬ 1000<n) (hok:allB ds=true) :
  Calls Tryz.prog 15 #[.slice A n c] w (RetD (sumR ds) w):=by
 rw [sumR_ok (by rw [hd.1];exact h) hok]
 have HL:=Lib.hid hd.1
 have HB:=Lib.hid hok;clear hok
 go_enter Tryz.func15,Tryz.ntmps15
 go_wp2_with fail
 refine (chks_ok ds A n c _ (hd.alloc _) (by omega) HB.out).mono ?_
 rintro e w1 ⟨rfl,hb1⟩
 have hR:=heap_below (heap_new w _ rfl) hb1
 have hbw:=below_then hb1 (B:=w.heap.size) (w:=w) (by go_grown) (by simp only [World.size_alloc];omega)
 clear hb1
 go_wp2_with fail
 go_loopw [5,23] (fun q i wr=>∃ j:Nat,j<=n/\i=.int .i64 j/\q=.int .i64 (maxP (ds.take j))/\Below w.heap.size w wr/\wr.heap[w.heap.size]?=some (.cells #[.int .i64 0,.int .i64 0] 31 (0,0))) (fun _ i _=>n-(intOf i).toNat)
 case atStart=>exact ⟨0,Nat.zero_le _,rfl,rfl,hbw,hR⟩
 case round=>
  obtain ⟨j,hj,rfl,rfl,hbel,hR⟩:=hrel
  have hz:=hbel.size
  have hmp:=maxP_bound HB.out j (by rw [HL.out];exact hj)
  rcases Nat.lt_or_ge j n with hjn | hjn
  ·obtain ⟨b,off,rfl,hb,hc⟩:=hd.2.2 (by omega)
   have hx:=(hbel.cell (p:=⟨b,off+j*2,none⟩) hb).trans (hc j hjn).1
   have hy:=(hbel.cell (p:=⟨b,off+j*2+1,none⟩) hb).trans (hc j hjn).2
   clear hc
   go_wp2
   go_roundw
   case rel=>exact ⟨j+1,by omega,by go_num,congrArg _ (by rw [maxP_step (by rw [HL.out];exact hjn)];split<;>omega),hbel.alloc hz _,heap_old hR _⟩
   case measure=>simp [intOf];omega
  ·obtain rfl:j=n:=by omega
   rw [show ds.take j=ds from List.take_of_length_le (by rw [HL.out];exact Nat.le_refl _)] at *
   go_wp2_with fail
   obtain ⟨q,hq⟩:∃ q:Nat,maxP ds=(q:Int):=⟨(maxP ds).toNat,by omega⟩
   have hge:∀ k,k<j->dP ds k<=(q:Int):=fun k hk=>by
    have:=maxP_ge (ds:=ds) j k hk (by rw [HL.out];exact Nat.le_refl _)
    rw [show ds.take j=ds from List.take_of_length_le (by rw [HL.out];exact Nat.le_refl _),hq] at this
    exact this
   rw [hq] at hmp ⊢
   have HQ:=Lib.hid hq;have HG:=Lib.hid hge
   clear hq hge
   refine (of_c 0 _ (by omega) (by omega)).mono ?_
   rintro e w2 ⟨s2,A2,n2,c2,rfl,hv2,hb2⟩
   have hR2:=heap_below hR hb2
   have hbel2:=below_then hb2 hbel hz
   have hz2:=hbel2.size
   have hlt2:=lt_heap hR2
   clear hR hb2 hbel hz
   go_wp2_with fail
   go_loopw [35] (fun i wr=>∃ (k:Nat) (s:Bool) (B:Option Addr) (m d:Nat),k<=j/\i=.int .i64 k/\wr.heap[w2.heap.size]?=some (.cells #[.bool s,.slice B m d] 73 (0,0))/\wr.heap[w.heap.size]?=some (.cells #[.int .i64 0,.int .i64 0] 31 (0,0)) /\
    Big .u32 127 B32 wr s B m d (sumZ (ds.take k) q)/\Below w.heap.size w wr) (fun i _=>j-(intOf i).toNat)
   case atStart=>exact ⟨0,s2,A2,n2,c2,Nat.zero_le _,rfl,heap_new _ _ rfl,heap_old hR2 _,by exact hv2.alloc _,hbel2.alloc hz2 _⟩
   case round=>
    obtain ⟨k,s,B,m,d,hk,rfl,hO,hR,hbig,hbel⟩:=hrel
    have hz:=hbel.size
    have hlt:=lt_heap hO
    rcases Nat.lt_or_ge k j with hkj | hkj
    ·obtain ⟨b,off,rfl,hb,hc⟩:=hd.2.2 (by omega)
     have hx:=(hbel.cell (p:=⟨b,off+k*2,none⟩) hb).trans (hc k hkj).1
     have hy:=(hbel.cell (p:=⟨b,off+k*2+1,none⟩) hb).trans (hc k hkj).2
     clear hc
     have hdk:=allB_at HB.out (j:=k) (by rw [HL.out];exact hkj)
     have hpk:=HG.out k hkj
     have hsm:Small (sumZ (ds.take k) q):=by
      have h1:=sumZ_bound HB.out (q:=q) (by omega) k (by rw [HL.out];omega)
      exact small_of_le (by omega) (by omega)
     go_wp2_with fail
     have hN:=heap_new wr (.cells #[.int .i64 (dU ds k),.int .i64 (dP ds k)] 31) rfl
     have hO:=heap_old hO (.cells #[.int .i64 (dU ds k),.int .i64 (dP ds k)] 31)
     have hR:=heap_old hR (.cells #[.int .i64 (dU ds k),.int .i64 (dP ds k)] 31)
     have hbig:=hbig.alloc (.cells #[.int .i64 (dU ds k),.int .i64 (dP ds k)] 31)
     have hbel:=hbel.alloc hz (.cells #[.int .i64 (dU ds k),.int .i64 (dP ds k)] 31)
     generalize hgen:wr.alloc (.cells #[.int .i64 (dU ds k),.int .i64 (dP ds k)] 31)=w3 at hN hO hR hbig hbel ⊢
     have hz3:=hbel.size
     obtain ⟨o0,o1,of0,of1,oz⟩:=box2 hO
     obtain ⟨d0,d1,-,-,dz⟩:=box2 hN
     clear hgen hx hy
     go_region_with
      (first
       | (go_at_call 55;refine (scaled_c (dU ds k) (dP ds k) q _ hdk hpk (by omega)).mono ?_;rintro e w4 ⟨s4,A4,n4,c4,rfl,hv4,hb4⟩;(have hO4:=heap_below (w:=w3.drew) hO hb4);(have hR4:=heap_below (w:=w3.drew) hR hb4);(have hbel4:=below_then hb4 hbel.drew hz3);obtain ⟨r10,r11,-,-,-⟩:=box2 hO4)
       | (go_at_call 54;refine (plus_c _ (by exact Big.below (w:=w3.drew) hbig hb4) hv4 hsm (scaled_small hdk (by omega))).mono ?_;rintro e w5 ⟨s5,A5,n5,c5,rfl,hv5,hb5⟩;(have hO5:=heap_below hO4 hb5);(have hR5:=heap_below hR4 hb5);(have hbel5:=below_then hb5 hbel4 hbel4.size);obtain ⟨g0,g1,g2,g3,g4⟩:=box2 hO5))
     all_goals
      rw [<- sumZ_step (by rw [HL.out];exact hkj)] at hv5
      have hN:=hv5.box2 hO5 (by decide) (.bool s5) (.slice A5 n5 c5)
      have hO6:=heap_set (heap_set hO5 0 (.bool s5)) 1 (.slice A5 n5 c5)
      have hR6:=heap_far (heap_far hR5 (p:=⟨w2.heap.size,0,none⟩) (by dsimp only;omega) (.bool s5)) (p:=⟨w2.heap.size,1,none⟩) (by dsimp only;omega) (.slice A5 n5 c5)
      have hb':=(hbel5.setCell (p:=⟨w2.heap.size,0,none⟩) hz2 (.bool s5)).setCell (p:=⟨w2.heap.size,1,none⟩) hz2 (.slice A5 n5 c5)
      generalize (w5.setCell ⟨w2.heap.size,0,none⟩ (.bool s5)).setCell ⟨w2.heap.size,1,none⟩ (.slice A5 n5 c5)=w6 at hN hO6 hR6 hb' ⊢
      clear hv5 hO5 hR5 hb5 hb4 hO4 hR4 g0 g1 g2 g3 g4
      go_wp2
      go_roundw
      case rel=>exact ⟨k+1,s5,A5,n5,c5,by omega,by go_num,hO6,hR6,hN,hb'⟩
      case measure=>simp [intOf];omega
    ·obtain rfl:k=j:=by omega
     rw [show ds.take k=ds from List.take_of_length_le (by rw [HL.out];exact Nat.le_refl _)] at hbig
     obtain ⟨o0,o1,of0,of1,oz⟩:=box2 hO
     go_wp2_with fail
     refine (mk_c _ (q:Int) hbig).mono ?_
     rintro e w3 ⟨rfl,hb3⟩
     have hR3:=heap_below hR hb3
     obtain ⟨g0,g1,g2,g3,g4⟩:=box2 hR3
     have hbel3:=below_then hb3 hbel hz
     rw [show made (sumZ ds q) (q:Int)=made (sumZ ds (maxP ds).toNat) (maxP ds) by rw [HQ.out,Int.toNat_natCast]]
     generalize made (sumZ ds (maxP ds).toNat) (maxP ds)=R at *
     obtain ⟨R1,R2,R3⟩:=R
     go_wp2
     refine bodyPost_ret (v:=.tuple #[.agg #[.int .i64 R1,.int .i64 R2],.int .i64 R3]) (by simp [results,Tryz.results15,go_sem,g0,g1]) rfl ⟨rfl,?_⟩
     go_grown
def hasB (s:ByteArray) (c:UInt8):Bool:=s.data.toList.head? == some c
theorem hasB_ext {s:ByteArray} {c:UInt8} (h:0<s.size):((s.extract 0 1).toList==[c])=hasB s c:=by
 rw [Lib.extract_toList]
 unfold hasB
 have hl:0<s.data.toList.length:=by simpa using h
 cases hd:s.data.toList with
 | nil=>rw [hd] at hl;simp at hl
 | cons x xs=>simp
theorem hasB_empty {s:ByteArray} {c:UInt8} (h:s.size=0):hasB s c=false:=by
 unfold hasB
 have hl:s.data.toList=[]:=List.length_eq_zero_iff.1 (by simpa using h)
 rw [hl];rfl
set_option maxRecDepth 100000 in
theorem hasp_yes (s:ByteArray) (c:UInt8) (w:World) (h:hasB s c=true) (hs:s.size<=9223372036854775807) :
  Calls Tryz.prog 143 #[.string s,.string ⟨#[c]⟩] w fun e w'=>w=w'/\e=.returned (.bool true):=by
 have h0:0<s.size:=by
  rcases Nat.eq_zero_or_pos s.size with h1 | h1
  ·rw [hasB_empty h1] at h;cases h
  ·exact h1
 have he:=hasB_ext (c:=c) h0
 rw [h] at he
 clear h
 have h1:1<=s.size:=h0
 go_enter Tryz.func143,Tryz.ntmps143
 go_wp2
 go_ret
 exact ⟨rfl,by simp⟩
set_option maxRecDepth 100000 in
theorem hasp_no (s:ByteArray) (c:UInt8) (w:World) (h:hasB s c=false) (hs:s.size<=9223372036854775807) :
  Calls Tryz.prog 143 #[.string s,.string ⟨#[c]⟩] w fun e w'=>w=w'/\e=.returned (.bool false):=by
 rcases Nat.eq_zero_or_pos s.size with h0 | h0
 ·clear h
  go_enter Tryz.func143,Tryz.ntmps143
  go_wp2
  go_ret
  exact ⟨rfl,by simp⟩
 ·have he:=hasB_ext (c:=c) h0
  rw [h] at he
  clear h
  have h1:1<=s.size:=h0
  go_enter Tryz.func143,Tryz.ntmps143
  go_wp2
  go_ret
  exact ⟨rfl,by simp⟩
def CutP (s:ByteArray) (c:UInt8) (w:World) (e:Ending) (w':World):Prop :=
 w=w'/\∃ t:ByteArray,e=.returned (.tuple #[.string t,.bool (hasB s c)])/\t.data.toList=(if hasB s c then s.data.toList.tail else s.data.toList)
set_option maxRecDepth 100000 in
theorem lcutp_c (s:ByteArray) (c:UInt8) (w:World) (hs:s.size<=9223372036854775807) :
  Calls Tryz.prog 110 #[.string s,.string ⟨#[c]⟩] w (CutP s c w):=by
 by_cases h:hasB s c=true
 ·have h0:0<s.size:=by
   rcases Nat.eq_zero_or_pos s.size with h1 | h1
   ·rw [hasB_empty h1] at h;cases h
   ·exact h1
  have h1:1<=s.size:=h0
  have H:=Lib.hid h;clear h
  go_enter Tryz.func110,Tryz.ntmps110
  go_wp2_with (go_at_call 143;refine (hasp_yes s c _ H.out hs).mono ?_;rintro e w1 ⟨rfl,rfl⟩)
  go_ret2
  refine ⟨rfl,s.extract 1 s.size,?_,?_⟩
  ·rw [H.out];simp
  ·rw [H.out,Lib.extract_to_end];simp
 ·have h:hasB s c=false:=by simpa using h
  have H:=Lib.hid h;clear h
  go_enter Tryz.func110,Tryz.ntmps110
  go_wp2_with (go_at_call 143;refine (hasp_no s c _ H.out hs).mono ?_;rintro e w1 ⟨rfl,rfl⟩)
  go_ret2
  refine ⟨rfl,s,?_,?_⟩
  ·rw [H.out];simp
  ·rw [H.out];simp
set_option maxRecDepth 100000 in
theorem cutp_c (s:ByteArray) (c:UInt8) (w:World) (hs:s.size<=9223372036854775807) :
  Calls Tryz.prog 63 #[.string s,.string ⟨#[c]⟩] w (CutP s c w):=by
 go_enter Tryz.func63,Tryz.ntmps63
 go_wp2_with fail
 refine (lcutp_c s c _ hs).mono ?_
 rintro e w1 ⟨rfl,t,rfl,ht⟩
 have HT:=Lib.hid ht;clear ht
 go_wp2
 go_ret2
 exact ⟨rfl,t,by simp,HT.out⟩
def inB (l:List UInt8) (lo hi:Nat):Bool:=l.all fun c=>decide (lo<=c.toNat/\c.toNat<=hi)
theorem data_get (s:ByteArray) (j:Nat) (h:j<s.size):s.data.toList[j]'(by simpa using h)=s[j]:=rfl
theorem inB_at {s:ByteArray} {lo hi:Nat} (h:inB s.data.toList lo hi=true) (j:Nat) (hj:j<s.size):lo<=s[j].toNat/\s[j].toNat<=hi:=by
 have:=List.all_eq_true.1 h _ (List.getElem_mem (l:=s.data.toList) (n:=j) (by simpa using hj))
 rw [data_get s j hj] at this
 exact of_decide_eq_true this
theorem inB_bad {l:List UInt8} {lo hi:Nat} (h:inB l lo hi=false):∃ j,∃ hj:j<l.length,¬ (lo<=l[j].toNat/\l[j].toNat<=hi)/\∀ i,∀ hi':i<j,lo<=(l[i]'(by omega)).toNat/\(l[i]'(by omega)).toNat<=hi:=by
 induction l with
 | nil=>simp [inB] at h
 | cons c l ih=>
  by_cases hc:lo<=c.toNat/\c.toNat<=hi
  ·have h2:inB l lo hi=false:=by
    unfold inB at h ⊢
    rw [List.all_cons,decide_eq_true hc] at h
    simpa using h
   obtain ⟨j,hj,h3,h4⟩:=ih h2
   refine ⟨j+1,by simpa using hj,by simpa using h3,fun i hi'=>?_⟩
   cases i with
   | zero=>simpa using hc
   | succ i=>simpa using h4 i (by omega)
  ·exact ⟨0,by simp,by simpa using hc,fun i hi'=>by omega⟩
set_option maxHeartbeats 400000 in
set_option maxRecDepth 100000 in
theorem inb_yes (s:ByteArray) (lo hi:Nat) (w:World) (h:inB s.data.toList lo hi=true) (hs:s.size<=9223372036854775807) :
  Calls Tryz.prog 111 #[.string s,.int .u8 (lo:Int),.int .u8 (hi:Int)] w fun e w'=>w=w'/\e=.returned (.bool true):=by
 go_enter Tryz.func111,Tryz.ntmps111
 go_wp2
 go_loop [10] (fun i=>∃ j:Nat,j<=s.size/\i=.int .i64 j) (fun i=>s.size-(intOf i).toNat)
 case atStart=>exact ⟨0,Nat.zero_le _,rfl⟩
 case round=>
  obtain ⟨j,hj,rfl⟩:=hrel
  rcases Nat.lt_or_ge j s.size with hjn | hjn
  ·have hb:=inB_at h j hjn
   have h1:(lo:Int)<=(s[j].toNat:Int):=by omega
   have h2:(s[j].toNat:Int)<=(hi:Int):=by omega
   clear hb
   go_wp2
   go_round
   case rel=>exact ⟨j+1,by omega,by go_num⟩
   case measure=>simp [intOf];omega
  ·go_wp2
   go_ret
   exact ⟨rfl,rfl⟩
set_option maxHeartbeats 400000 in
set_option maxRecDepth 100000 in
theorem inb_no (s:ByteArray) (lo hi:Nat) (w:World) (h:inB s.data.toList lo hi=false) (hs:s.size<=9223372036854775807) :
  Calls Tryz.prog 111 #[.string s,.int .u8 (lo:Int),.int .u8 (hi:Int)] w fun e w'=>w=w'/\e=.returned (.bool false):=by
 obtain ⟨m,hm,hbad,hgood⟩:=inB_bad h
 have hm':m<s.size:=by simpa using hm
 clear h
 go_enter Tryz.func111,Tryz.ntmps111
 go_wp2
 go_loop [10] (fun i=>∃ j:Nat,j<=m/\i=.int .i64 j) (fun i=>s.size-(intOf i).toNat)
 case atStart=>exact ⟨0,Nat.zero_le _,rfl⟩
 case round=>
  obtain ⟨j,hj,rfl⟩:=hrel
  have hjn:j<s.size:=by omega
  rcases Nat.lt_or_ge j m with hjm | hjm
  ·have hb:=hgood j hjm
   rw [data_get s j hjn] at hb
   have h1:(lo:Int)<=(s[j].toNat:Int):=by omega
   have h2:(s[j].toNat:Int)<=(hi:Int):=by omega
   clear hb hbad hgood
   go_wp2
   go_round
   case rel=>exact ⟨j+1,by omega,by go_num⟩
   case measure=>simp [intOf];omega
  ·obtain rfl:j=m:=by omega
   have hb:=hbad
   rw [data_get s j hjn] at hb
   clear hbad hgood
   by_cases h1:(s[j].toNat:Int)<(lo:Int)
   ·clear hb
    go_wp2
    go_ret
    exact ⟨rfl,rfl⟩
   ·have h2:(hi:Int)<(s[j].toNat:Int):=by omega
    clear hb
    go_wp2
    go_ret
    exact ⟨rfl,rfl⟩
def digB (l:List UInt8):Bool:=!l.isEmpty&&inB l 48 57
theorem isdig_c (s:ByteArray) (w:World) (hs:s.size<=9223372036854775807) :
  Calls Tryz.prog 65 #[.string s] w fun e w'=>w=w'/\e=.returned (.bool (digB s.data.toList)):=by
 by_cases h0:s.data.toList.isEmpty=true
 ·have e:digB s.data.toList=false:=by unfold digB;rw [h0];rfl
  rw [e];clear e
  have hn:s.toList.isEmpty=true:=by rw [Lib.toList_data];exact h0
  clear h0
  go_enter Tryz.func65,Tryz.ntmps65
  go_wp2
  go_ret
  exact ⟨rfl,by simp⟩
 ·have h0:s.data.toList.isEmpty=false:=by simpa using h0
  have hn:s.toList.isEmpty=false:=by rw [Lib.toList_data];exact h0
  by_cases hb:inB s.data.toList 48 57=true
  ·have e:digB s.data.toList=true:=by unfold digB;rw [h0,hb];rfl
   rw [e]
   have HB:=Lib.hid hb;clear e hb h0
   go_enter Tryz.func65,Tryz.ntmps65
   go_wp2_with (go_at_call 111;refine (inb_yes s 48 57 _ HB.out hs).mono ?_;rintro e w1 ⟨rfl,rfl⟩)
   go_ret
   exact ⟨rfl,by simp⟩
  ·have hb:inB s.data.toList 48 57=false:=by simpa using hb
   have e:digB s.data.toList=false:=by unfold digB;rw [h0,hb];rfl
   rw [e]
   have HB:=Lib.hid hb;clear e hb h0
   go_enter Tryz.func65,Tryz.ntmps65
   go_wp2_with (go_at_call 111;refine (inb_no s 48 57 _ HB.out hs).mono ?_;rintro e w1 ⟨rfl,rfl⟩)
   go_ret
   exact ⟨rfl,by simp⟩
def cutL:List UInt8->UInt8->List UInt8×List UInt8×Bool
 | [],_=>([],[],false)
 | x :: l,c=>if x==c then ([],l,true) else (x :: (cutL l c).1,(cutL l c).2.1,(cutL l c).2.2)
theorem cutL_index (l:List UInt8) (c:UInt8):(Lib.indexByte l c=-1/\cutL l c=(l,[],false))∨∃ o:Nat,o<l.length/\Lib.indexByte l c=o/\cutL l c=(l.take o,l.drop (o+1),true):=by
 induction l with
 | nil=>exact .inl ⟨rfl,rfl⟩
 | cons x l ih=>
  unfold Lib.indexByte cutL
  by_cases h:(x==c)=true
  ·rw [if_pos h,if_pos h]
   exact .inr ⟨0,by simp,rfl,by simp⟩
  ·rw [if_neg h,if_neg h]
   rcases ih with ⟨h1,h2⟩|⟨o,ho,h1,h2⟩
   ·rw [h1,h2]
    exact .inl ⟨rfl,rfl⟩
   ·rw [h1,h2]
    refine .inr ⟨o+1,by simpa using ho,?_,by simp⟩
    rw [if_neg (by simp)]
    simp
theorem ixb (s:ByteArray) (c:UInt8) (w:World):(callFunc 177 #[.string s,.int .u8 (c.toNat:Int)]).run Tryz.prog w=.ok (.value (.int .i64 (Lib.indexByte s.data.toList c))) w:=by
 rw [run_callFunc_extern Tryz.func177 (by kernel_rfl) (by kernel_rfl) (by kernel_rfl) (e:=Extern.BytealgIndexByte.indexByte) (by kernel_rfl),Lib.run_indexByteString]
 simp [Result.andThen]
set_option maxRecDepth 100000 in
theorem index1_c (s:ByteArray) (c:UInt8) (w:World):Calls Tryz.prog 129 #[.string s,.string ⟨#[c]⟩] w fun e w'=>w=w'/\e=.returned (.int .i64 (Lib.indexByte s.data.toList c)):=by
 have h94:=ixb s c
 have e46:(⟨#[c]⟩:ByteArray)[0]'(by show 0<1;decide)=c:=rfl
 by_cases hq:([c]==s.toList)=true
 ·have e:Lib.indexByte s.data.toList c=0:=by
   have:s.data.toList=[c]:=by rw [<- Lib.toList_data];exact (beq_iff_eq.1 hq).symm
   rw [this];simp [Lib.indexByte]
  have E:=Lib.hid e;clear e
  go_enter Tryz.func129,Tryz.ntmps129
  go_wp2
  all_goals
   go_ret
   exact ⟨rfl,by rw [E.out];simp⟩
 ·have hq:([c]==s.toList)=false:=by simpa using hq
  go_enter Tryz.func129,Tryz.ntmps129
  go_wp2
  go_ret
  exact ⟨rfl,by simp⟩
def Cut1 (s:ByteArray) (c:UInt8) (w:World) (e:Ending) (w':World):Prop :=
 (∃ n,w'=w.drewN n)/\∃ t u:ByteArray,e=.returned (.tuple #[.string t,.string u,.bool (cutL s.data.toList c).2.2])/\t.data.toList=(cutL s.data.toList c).1/\u.data.toList=(cutL s.data.toList c).2.1
set_option maxHeartbeats 1000000 in
set_option maxRecDepth 100000 in
theorem lcut_c (s:ByteArray) (c:UInt8) (w:World) (hs:s.size<=9223372036854775807):Calls Tryz.prog 88 #[.string s,.string ⟨#[c]⟩] w (Cut1 s c w):=by
 rcases cutL_index s.data.toList c with ⟨h1,h2⟩|⟨o,ho,h1,h2⟩
 ·have H1:=Lib.hid h1;have H2:=Lib.hid h2;clear h1 h2
  go_enter Tryz.func88,Tryz.ntmps88
  go_wp2_with (go_at_call 129;refine (index1_c s c _).mono ?_;rintro e w1 ⟨rfl,rfl⟩;rw [H1.out])
  go_ret3
  refine ⟨⟨0,rfl⟩,s,⟨#[]⟩,?_,?_,?_⟩
  ·rw [H2.out];simp
  ·rw [H2.out]
  ·rw [H2.out]
 ·have ho':o<s.size:=by simpa using ho
  have H1:=Lib.hid h1;have H2:=Lib.hid h2;clear h1 h2
  have i1:(0:Int)<=(o:Int):=by omega
  have i2:(o:Int)+1<=(s.size:Int):=by omega
  have i3:(o:Int)<=(s.size:Int):=by omega
  have e1:IntKind.i64.wrap ((o:Int)+1)=(o:Int)+1:=IntWalk.i64_in _ (by omega)
  have e2:(0:Int)<=(o:Int)+1:=by omega
  have e3:((o:Int)+1).toNat=o+1:=by omega
  have E1:=Lib.hid e1;have E2:=Lib.hid e2;have E3:=Lib.hid e3;clear e1 e2 e3
  go_enter Tryz.func88,Tryz.ntmps88
  go_wp2_with (go_at_call 129;refine (index1_c s c _).mono ?_;rintro e w1 ⟨rfl,rfl⟩;rw [H1.out])
  have e1:=E1.out;have e2:=E2.out;have e3:=E3.out
  go_quiet (fail)
  clear e1 e2 e3
  go_wp2
  go_ret3
  refine ⟨⟨_,rfl⟩,s.extract 0 o,s.extract (o+1) s.size,?_,?_,?_⟩
  ·rw [H2.out];simp
  ·rw [H2.out,Lib.extract_data];simp
  ·rw [H2.out,Lib.extract_to_end]
set_option maxRecDepth 100000 in
theorem cut_c (s:ByteArray) (c:UInt8) (w:World) (hs:s.size<=9223372036854775807):Calls Tryz.prog 46 #[.string s,.string ⟨#[c]⟩] w (Cut1 s c w):=by
 go_enter Tryz.func46,Tryz.ntmps46
 go_wp2_with fail
 refine (lcut_c s c _ hs).mono ?_
 rintro e w1 ⟨⟨n,rfl⟩,t,u,rfl,ht,hu⟩
 have HT:=Lib.hid ht;have HU:=Lib.hid hu;clear ht hu
 go_wp2
 go_ret3
 exact ⟨⟨_,rfl⟩,t,u,by simp,HT.out,HU.out⟩
def wholeB (l:List UInt8):Bool:=digB l&&(l.length==1||!(l.head? == some 48))
theorem head_get {s:ByteArray} (h:0<s.size):s.data.toList.head?=some s[0]:=by
 rw [List.head?_eq_getElem?,List.getElem?_eq_getElem (by simpa using h)]
 rfl
theorem dig_size {s:ByteArray} (h:digB s.data.toList=true):0<s.size:=by
 unfold digB at h
 rcases Nat.eq_zero_or_pos s.size with h0 | h0
 ·have hl:s.data.toList=[]:=List.length_eq_zero_iff.1 (by simpa using h0)
  rw [hl] at h;simp at h
 ·exact h0
set_option maxRecDepth 100000 in
theorem iswhole_c (s:ByteArray) (w:World) (hs:s.size<=9223372036854775807) :
  Calls Tryz.prog 64 #[.string s] w fun e w'=>w=w'/\e=.returned (.bool (wholeB s.data.toList)):=by
 by_cases hd:digB s.data.toList=true
 ·have h0:=dig_size hd
  have hlen:s.data.toList.length=s.size:=by simp
  have hw:wholeB s.data.toList=(s.size==1||!(s[0]==48)):=by
   unfold wholeB;rw [hd,head_get h0,hlen];simp
  rw [hw]
  have HD:=Lib.hid hd;clear hw hd hlen
  by_cases h1:s.size=1
  ·have h1':((s.size:Int)==1)=true:=by simp;omega
   have e1:(s.size==1||!(s[0]==48))=true:=by simp [h1]
   rw [e1]
   clear h1 e1
   go_enter Tryz.func64,Tryz.ntmps64
   go_wp2_with (go_at_call 65;refine (isdig_c s _ hs).mono ?_;rintro e w1 ⟨rfl,rfl⟩;rw [HD.out])
   go_ret
   exact ⟨rfl,by simp⟩
  ·have h1':((s.size:Int)==1)=false:=by simp;omega
   have e1:(s.size==1||!(s[0]==48))=((s[0].toNat:Int) !=48):=by
    have e2:s[0]=48↔s[0].toNat=48:=⟨fun h=>by rw [h];rfl,fun h=>UInt8.toNat_inj.1 (by rw [h];rfl)⟩
    have e3:(s[0]==48)=(s[0].toNat==48):=by rw [Bool.eq_iff_iff];simpa using e2
    rw [e3,Bool.eq_iff_iff]
    simp [h1]
    omega
   rw [e1]
   clear h1 e1
   go_enter Tryz.func64,Tryz.ntmps64
   go_wp2_with (go_at_call 65;refine (isdig_c s _ hs).mono ?_;rintro e w1 ⟨rfl,rfl⟩;rw [HD.out])
   go_ret
   exact ⟨rfl,by simp⟩
 ·have hd:digB s.data.toList=false:=by simpa using hd
  have hw:wholeB s.data.toList=false:=by unfold wholeB;rw [hd];rfl
  rw [hw]
  have HD:=Lib.hid hd;clear hw hd
  go_enter Tryz.func64,Tryz.ntmps64
  go_wp2_with (go_at_call 65;refine (isdig_c s _ hs).mono ?_;rintro e w1 ⟨rfl,rfl⟩;rw [HD.out])
  go_ret
  exact ⟨rfl,by simp⟩
end Go.Proofs.YtbfbgappinilmaaGreatDoor
