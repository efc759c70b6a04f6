
/- The walk of the program's Fewest. (Printed by genY5.py.) -/
import Derived.Test.YtbfbgappinilmaaGreatDoorY3
import Derived.Test.YtbfbgappinilmaaGreatDoorA5
namespace Go.Proofs.YtbfbgappinilmaaGreatDoor
open Go.RowKit Limb Nmb Work
set_option linter.unusedVariables false
set_option linter.unusedSimpArgs false
def fewF (z:Int):Nat->Int×Int×Int
 | 0=>made z 0
 | p+1=>if z%10=0 then fewF (z/10) p else made z ((p+1:Nat):Int)
theorem few_step {z:Int} {p:Nat} (h:z%10=0):fewF z (p+1)=fewF (z/10) p:=if_pos h
theorem few_stop {z:Int} {p:Nat} (h:¬ z%10=0):fewF z (p+1)=made z ((p+1:Nat):Int):=if_neg h
theorem mod_abs (z:Int):((z.natAbs%10:Nat):Int)=0↔z%10=0:=by omega
theorem div_abs {z:Int} (h:z%10=0):(z<0 -> -((z.natAbs/10:Nat):Int)=z/10)/\(¬ z<0->((z.natAbs/10:Nat):Int)=z/10):=by omega
theorem sgn_nat (n:Nat):((n:Int).sign=0↔n=0):=by rw [Int.sign_eq_zero_iff_zero];omega
set_option maxHeartbeats 4000000 in
set_option maxRecDepth 100000 in
theorem fewest_c (w:World) {s:Bool} {A:Option Addr} {n c:Nat} {z:Int} (p:Nat) (hp:p<=9) (h:Big .u32 127 B32 w s A n c z) (hz : -10000000000000000000000000000000000000000<=z/\z<=10000000000000000000000000000000000000000) :
  Calls Tryz.prog 80 #[.agg #[.bool s,.slice A n c],.int .i64 (p:Int)] w (RetD (fewF z p) w):=by
 obtain ⟨R,hR⟩:∃ x,fewF z p=x:=⟨_,rfl⟩
 have HR:=Lib.hid hR
 rw [hR]
 have HZ:=Lib.hid hz
 have HG:=Lib.hid h
 clear hR h hz
 have hN0:=heap_old (heap_new w (.cells #[.bool s,.slice A n c] 73) rfl) (.cells #[.int .i64 0,.int .i64 0] 31)
 have hR0:=heap_new (w.alloc (.cells #[.bool s,.slice A n c] 73)) (.cells #[.int .i64 0,.int .i64 0] 31) (g:=w.heap.size+1) (by simp)
 have hB0:Below w.heap.size w ((w.alloc (.cells #[.bool s,.slice A n c] 73)).alloc (.cells #[.int .i64 0,.int .i64 0] 31)):=by go_grown
 go_enter Tryz.func80,Tryz.ntmps80
 obtain ⟨N,hN⟩:∃ N,w.heap.size=N:=⟨_,rfl⟩
 go_wp2_with fail
 refine (of_c 10 _ (by decide) (by decide)).mono ?_
 rintro _ w2 ⟨s1,A1,n1,c1,rfl,hten,hb2⟩
 have HN2:=Lib.hid (heap_old (heap_below hN0 hb2) (.cells #[.bool s1,.slice A1 n1 c1] 73))
 have HR2:=Lib.hid (heap_old (heap_below hR0 hb2) (.cells #[.bool s1,.slice A1 n1 c1] 73))
 have HT2:=Lib.hid (heap_new w2 (.cells #[.bool s1,.slice A1 n1 c1] 73) rfl)
 have hB2:=below_then hb2 hB0 hB0.size
 have HB2:Hid (Below w.heap.size w (w2.alloc (.cells #[.bool s1,.slice A1 n1 c1] 73))):=Lib.hid (hB2.alloc hB2.size _)
 have HG2:=Lib.hid ((HG.out.below hB2).alloc (.cells #[.bool s1,.slice A1 n1 c1] 73))
 have HTB:=Lib.hid (hten.alloc (.cells #[.bool s1,.slice A1 n1 c1] 73))
 have hNT:w.heap.size+1<w2.heap.size:=lt_heap (heap_below hR0 hb2)
 clear hN0 hR0 hB0 hten hb2 hB2
 go_upto_region 2 with fail
 obtain ⟨TT,hTT⟩:∃ x,w2.heap.size=x:=⟨_,rfl⟩
 rw [hTT] at HT2 hNT
 try rw [hTT]
 rw [hN] at HN2 HR2 hNT
 try rw [hN]
 generalize w2.alloc (.cells #[.bool s1,.slice A1 n1 c1] 73)=w3 at HN2 HR2 HT2 HB2 HG2 HTB ⊢
 have hwN:w.heap.size<=N:=by omega
 have hBN:Hid (Below N w w3):=Lib.hid (by rw [<- hN];exact HB2.out)
 have HNN:=Lib.hid hN
 clear hTT HB2 hN
 go_loopw [1] (fun pl wr=>∃ (k:Nat) (v:Int) (s:Bool) (A:Option Addr) (n c:Nat),k<=9/\pl=.int .i64 (k:Int)/\Hid (fewF v k=R)/\Hid (Big .u32 127 B32 wr s A n c v)/\Hid (-10000000000000000000000000000000000000000<=v/\v<=10000000000000000000000000000000000000000)/\Hid (wr.heap[N]?=some (.cells #[.bool s,.slice A n c] 73 (0,0)))/\Hid (wr.heap[N+1]?=some (.cells #[.int .i64 0,.int .i64 0] 31 (0,0)))/\Hid (wr.heap[TT]?=some (.cells #[.bool s1,.slice A1 n1 c1] 73 (0,0)))/\Hid (Big .u32 127 B32 wr s1 A1 n1 c1 10)/\Hid (Below N w wr)) (fun pl _=>(intOf pl).toNat)
 case atStart=>exact ⟨p,z,s,A,n,c,hp,rfl,HR,HG2,HZ,HN2,HR2,HT2,HTB,hBN⟩
 case round=>
  clear HN2 HR2 HT2 HG2 HTB hBN HG HR HZ
  obtain ⟨k,v,s,A,n,c,hk,rfl,HR,HG,HZ,HN,HRZ,HT,HTB,HB⟩:=hrel
  have hzr:N<=wr.heap.size:=Nat.le_of_lt (lt_heap HN.out)
  have hsm:Small v:=small_of_le (by have:=HZ.out;omega) (by have:=HZ.out;omega)
  have HS:=Lib.hid hsm
  have HST:=Lib.hid (small_of_le (z:=10) (by decide) (by decide))
  clear hsm
  obtain ⟨a0,a1,a2,a3,a5⟩:=box2 HN.out
  obtain ⟨t0,t1,-,-,t5⟩:=box2 HT.out
  rcases k with _ | k
  ·have HE:=Lib.hid (show made v 0=R from HR.out)
   obtain ⟨z0,z1,z2,z3,z5⟩:=box2 HRZ.out
   go_wp2_with fail
   refine (mk_c _ 0 HG.out).mono ?_
   rw [HE.out]
   rintro _ w4 ⟨rfl,hb4⟩
   have hR4:=heap_below HRZ.out hb4
   have hB4:=below_then hb4 HB.out hzr
   clear a0 a1 a2 a3 a5 t0 t1 t5 z0 z1 z2 z3 z5
   obtain ⟨z0,z1,z2,z3,z5⟩:=box2 hR4
   go_wp2
   have hz9:((w4.setCell ⟨N+1,0,none⟩ (.int .i64 R.1)).setCell ⟨N+1,1,none⟩ (.int .i64 R.2.1)).heap[N+1]?=some (.cells #[.int .i64 R.1,.int .i64 R.2.1] 31 (0,0)):=heap_set (heap_set hR4 0 _) 1 _
   obtain ⟨r0,r1,-,-,-⟩:=box2 hz9
   refine bodyPost_ret (v:=.tuple #[.agg #[.int .i64 R.1,.int .i64 R.2.1],.int .i64 R.2.2]) (by simp [results,Tryz.results80,go_sem,r0,r1]) rfl ⟨rfl,?_⟩
   rw [<- HNN.out] at hB4 ⊢
   exact (hB4.setCell (p:=⟨w.heap.size+1,0,none⟩) (by show w.heap.size<=w.heap.size+1;omega) _).setCell (p:=⟨w.heap.size+1,1,none⟩) (by show w.heap.size<=w.heap.size+1;omega) _
  ·go_wp2_with fail
   refine (by_c _ HG.out HTB.out HS.out HST.out (by decide)).mono ?_
   rintro _ w4 ⟨s4,A4,n4,c4,s5,A5,n5,c5,rfl,hq,hr,hb4⟩
   have hz4:=hb4.size
   have h5:=Lib.hid (show Below wr.heap.size wr ((w4.alloc (.cells #[.bool s4,.slice A4 n4 c4] 73)).alloc (.cells #[.bool s5,.slice A5 n5 c5] 73)) from (hb4.alloc hz4 _).alloc (by simp;omega) _)
   have HN5:=Lib.hid (heap_below HN.out h5.out);have HR5:=Lib.hid (heap_below HRZ.out h5.out);have HT5:=Lib.hid (heap_below HT.out h5.out)
   have HTB5:=Lib.hid (HTB.out.below h5.out);have HG5:=Lib.hid (HG.out.below h5.out)
   have HB5:=Lib.hid (below_then h5.out HB.out hzr)
   have HQ5:=Lib.hid (heap_old (heap_new w4 (.cells #[.bool s4,.slice A4 n4 c4] 73) rfl) (.cells #[.bool s5,.slice A5 n5 c5] 73))
   have HX5:=Lib.hid (heap_new (w4.alloc (.cells #[.bool s4,.slice A4 n4 c4] 73)) (.cells #[.bool s5,.slice A5 n5 c5] 73) (g:=w4.heap.size+1) (by simp))
   have hq5:=Lib.hid ((hq.alloc (.cells #[.bool s4,.slice A4 n4 c4] 73)).alloc (.cells #[.bool s5,.slice A5 n5 c5] 73))
   have hr5:=Lib.hid ((hr.alloc (.cells #[.bool s4,.slice A4 n4 c4] 73)).alloc (.cells #[.bool s5,.slice A5 n5 c5] 73))
   have hqN:TT<w4.heap.size:=Nat.lt_of_lt_of_le t5 hb4.size
   clear a0 a1 a2 a3 a5 t0 t1 t5 hq hr hb4
   go_upto_region 4 with fail
   obtain ⟨QQ,hQQ⟩:∃ x,w4.heap.size=x:=⟨_,rfl⟩
   rw [hQQ] at HQ5 HX5 hqN
   try rw [hQQ]
   generalize (w4.alloc (.cells #[.bool s4,.slice A4 n4 c4] 73)).alloc (.cells #[.bool s5,.slice A5 n5 c5] 73)=w5 at h5 HN5 HR5 HT5 HTB5 HG5 HB5 HQ5 HX5 hq5 hr5 ⊢
   clear hQQ h5
   obtain ⟨x0,x1,-,-,x5⟩:=box2 HX5.out
   have h10:(10:Int).natAbs=10:=rfl
   have hq6:=hq5.out;have hr6:=hr5.out
   rw [h10] at hq6 hr6
   go_wp2_with fail
   refine (sign_c _ hr6).mono ?_
   rintro _ w6 ⟨rfl,hb6⟩
   have HN6:=Lib.hid (heap_below HN5.out hb6);have HR6:=Lib.hid (heap_below HR5.out hb6);have HT6:=Lib.hid (heap_below HT5.out hb6)
   have HTB6:=Lib.hid (HTB5.out.below hb6);have HG6:=Lib.hid (HG5.out.below hb6);have HQ6:=Lib.hid (heap_below HQ5.out hb6)
   have HB6:=Lib.hid (below_then hb6 HB5.out (Nat.le_of_lt (lt_heap HN5.out)))
   have hQB:=Lib.hid (hq6.below hb6)
   have hzr6:N<=w6.heap.size:=Nat.le_of_lt (lt_heap HN6.out)
   clear HN5 HR5 HT5 HTB5 HG5 HB5 HQ5 HX5 hq5 hr5 hq6 hr6 x0 x1 x5 hb6 h10
   obtain ⟨a0,a1,a2,a3,a5⟩:=box2 HN6.out
   by_cases hm:v%10=0
   case neg=>
    have HE:=Lib.hid (show made v ((k+1:Nat):Int)=R by rw [<- HR.out,few_stop hm])
    have hsg:((v.natAbs%10:Nat):Int).sign≠0:=fun e=>hm ((mod_abs v).1 (by rw [(sgn_nat _).1 e];rfl))
    obtain ⟨sg,hsge⟩:∃ x,((v.natAbs%10:Nat):Int).sign=x:=⟨_,rfl⟩
    rw [hsge] at hsg ⊢
    have hsgb:(sg !=0)=true:=by simpa using hsg
    clear hm hsg hsge
    go_wp2_with fail
    refine (mk_c _ ((k+1:Nat):Int) HG6.out).mono ?_
    rw [HE.out]
    rintro _ w9 ⟨rfl,hb9⟩
    have hR9:=heap_below HR6.out hb9
    have hB9:=below_then hb9 HB6.out (by omega)
    obtain ⟨z0,z1,z2,z3,z5⟩:=box2 hR9
    go_wp2
    have hz9:((w9.setCell ⟨N+1,0,none⟩ (.int .i64 R.1)).setCell ⟨N+1,1,none⟩ (.int .i64 R.2.1)).heap[N+1]?=some (.cells #[.int .i64 R.1,.int .i64 R.2.1] 31 (0,0)):=heap_set (heap_set hR9 0 _) 1 _
    obtain ⟨r0,r1,-,-,-⟩:=box2 hz9
    refine bodyPost_ret (v:=.tuple #[.agg #[.int .i64 R.1,.int .i64 R.2.1],.int .i64 R.2.2]) (by simp [results,Tryz.results80,go_sem,r0,r1]) rfl ⟨rfl,?_⟩
    rw [<- HNN.out] at hB9 ⊢
    exact (hB9.setCell (p:=⟨w.heap.size+1,0,none⟩) (by show w.heap.size<=w.heap.size+1;omega) _).setCell (p:=⟨w.heap.size+1,1,none⟩) (by show w.heap.size<=w.heap.size+1;omega) _
   have hsg:((v.natAbs%10:Nat):Int).sign=0:=by rw [(mod_abs v).2 hm];rfl
   rw [hsg]
   obtain ⟨hd1,hd2⟩:=div_abs hm
   have HF:=Lib.hid (show fewF (v/10) k=R by rw [<- HR.out,few_step hm])
   have HZ2:=Lib.hid (show -10000000000000000000000000000000000000000<=v/10/\v/10<=10000000000000000000000000000000000000000 by have:=HZ.out;omega)
   obtain ⟨q0,q1,q2,q3,q5⟩:=box2 HQ6.out
   go_wp2_with fail
   refine (sign_c _ HG6.out).mono ?_
   rintro _ w7 ⟨rfl,hb7⟩
   have HN7:=Lib.hid (heap_below HN6.out hb7);have HR7:=Lib.hid (heap_below HR6.out hb7);have HT7:=Lib.hid (heap_below HT6.out hb7)
   have HTB7:=Lib.hid (HTB6.out.below hb7);have HQ7:=Lib.hid (heap_below HQ6.out hb7)
   have HB7:=Lib.hid (below_then hb7 HB6.out hzr6)
   have hQB7:=Lib.hid (hQB.out.below hb7)
   clear HN6 HR6 HT6 HTB6 HG6 HB6 HQ6 hQB hb7 a0 a1 a2 a3 a5 q0 q1 q2 q3 q5 hsg hzr6
   have hzr7:N<=w7.heap.size:=Nat.le_of_lt (lt_heap HN7.out)
   obtain ⟨q0,q1,q2,q3,q5⟩:=box2 HQ7.out
   obtain ⟨a0,a1,a2,a3,a5⟩:=box2 HN7.out
   by_cases hv:v<0
   ·have hsv:v.sign<0:=by rw [Int.sign_eq_neg_one_of_neg hv];decide
    have hd:=hd1 hv
    generalize v.sign=sv at hsv
    clear hv hd1 hd2 hm
    go_wp2_with fail
    refine (minus_c _ hQB7.out).mono ?_
    rw [hd]
    rintro _ w8 ⟨s8,A8,n8,c8,rfl,hv8,hb8⟩
    have HQ8:=Lib.hid (heap_below HQ7.out hb8)
    have HN8:=Lib.hid (heap_below HN7.out hb8);have HR8:=Lib.hid (heap_below HR7.out hb8);have HT8:=Lib.hid (heap_below HT7.out hb8)
    have HTB8:=Lib.hid (HTB7.out.below hb8)
    have HB8:=Lib.hid (below_then hb8 HB7.out hzr7)
    have HV8:=Lib.hid hv8
    clear HN7 HR7 HT7 HTB7 HB7 HQ7 hQB7 hb8 hv8 q0 q1 q2 q3 q5 a0 a1 a2 a3 a5 hd
    obtain ⟨q0,q1,q2,q3,q5⟩:=box2 HQ8.out
    obtain ⟨a0,a1,a2,a3,a5⟩:=box2 HN8.out
    have hQN:QQ≠N:=by omega
    have HN9:=Lib.hid (show ((w8.setCell ⟨QQ,0,none⟩ (.bool s8)).setCell ⟨QQ,1,none⟩ (.slice A8 n8 c8)).heap[N]?=some (.cells #[.bool s,.slice A n c] 73 (0,0)) from heap_far (heap_far HN8.out (p:=⟨QQ,0,none⟩) (Ne.symm hQN) _) (p:=⟨QQ,1,none⟩) (Ne.symm hQN) _)
    have HR9:=Lib.hid (show ((w8.setCell ⟨QQ,0,none⟩ (.bool s8)).setCell ⟨QQ,1,none⟩ (.slice A8 n8 c8)).heap[N+1]?=some (.cells #[.int .i64 0,.int .i64 0] 31 (0,0)) from heap_far (heap_far HR8.out (p:=⟨QQ,0,none⟩) (by show N+1≠QQ;omega) _) (p:=⟨QQ,1,none⟩) (by show N+1≠QQ;omega) _)
    have HT9:=Lib.hid (show ((w8.setCell ⟨QQ,0,none⟩ (.bool s8)).setCell ⟨QQ,1,none⟩ (.slice A8 n8 c8)).heap[TT]?=some (.cells #[.bool s1,.slice A1 n1 c1] 73 (0,0)) from heap_far (heap_far HT8.out (p:=⟨QQ,0,none⟩) (by show TT≠QQ;omega) _) (p:=⟨QQ,1,none⟩) (by show TT≠QQ;omega) _)
    have HTB9:=Lib.hid (HTB8.out.box2 HQ8.out (by decide) (.bool s8) (.slice A8 n8 c8))
    have HV9:=Lib.hid (HV8.out.box2 HQ8.out (by decide) (.bool s8) (.slice A8 n8 c8))
    have HB9:=Lib.hid ((HB8.out.setCell (p:=⟨QQ,0,none⟩) (by show N<=QQ;omega) (.bool s8)).setCell (p:=⟨QQ,1,none⟩) (by show N<=QQ;omega) (.slice A8 n8 c8))
    clear HN8 HR8 HT8 HTB8 HV8 HB8
    go_wp2_with fail
    go_roundw
    case rel=>
     refine ⟨k,v/10,s8,A8,n8,c8,by omega,by go_num,HF,Lib.hid (HV9.out.box2 HN9.out (by decide) _ _),HZ2,Lib.hid (heap_set (heap_set HN9.out 0 _) 1 _),?_,?_,Lib.hid (HTB9.out.box2 HN9.out (by decide) _ _),Lib.hid ((HB9.out.setCell (p:=⟨N,0,none⟩) (Nat.le_refl _) _).setCell (p:=⟨N,1,none⟩) (Nat.le_refl _) _)⟩
     ·exact Lib.hid (heap_far (heap_far HR9.out (p:=⟨N,0,none⟩) (by show N+1≠N;omega) _) (p:=⟨N,1,none⟩) (by show N+1≠N;omega) _)
     ·exact Lib.hid (heap_far (heap_far HT9.out (p:=⟨N,0,none⟩) (by show TT≠N;omega) _) (p:=⟨N,1,none⟩) (by show TT≠N;omega) _)
    case measure=>simp [intOf]
   ·have hsv:¬ v.sign<0:=by rcases Int.lt_or_eq_of_le (Int.not_lt.1 hv) with h | h;rw [Int.sign_eq_one_of_pos h];decide;rw [<- h];decide
    have hd:=hd2 (by omega)
    have HQB:=Lib.hid (hd ▸ hQB7.out)
    generalize v.sign=sv at hsv
    clear hv hd1 hd2 hm hQB7 hd
    have HW:=Lib.hid (show ((w7.setCell ⟨N,0,none⟩ (.bool s4)).setCell ⟨N,1,none⟩ (.slice A4 n4 c4)).heap[N]?=some (.cells #[.bool s4,.slice A4 n4 c4] 73 (0,0)) from heap_set (heap_set HN7.out 0 _) 1 _)
    go_wp2_with fail
    go_roundw
    case rel=>
     refine ⟨k,v/10,s4,A4,n4,c4,by omega,by go_num,HF,Lib.hid (HQB.out.box2 HN7.out (by decide) _ _),HZ2,HW,?_,?_,Lib.hid (HTB7.out.box2 HN7.out (by decide) _ _),Lib.hid ((HB7.out.setCell (p:=⟨N,0,none⟩) (Nat.le_refl _) _).setCell (p:=⟨N,1,none⟩) (Nat.le_refl _) _)⟩
     ·exact Lib.hid (heap_far (heap_far HR7.out (p:=⟨N,0,none⟩) (by show N+1≠N;omega) _) (p:=⟨N,1,none⟩) (by show N+1≠N;omega) _)
     ·exact Lib.hid (heap_far (heap_far HT7.out (p:=⟨N,0,none⟩) (by show TT≠N;omega) _) (p:=⟨N,1,none⟩) (by show TT≠N;omega) _)
    case measure=>simp [intOf]
end Go.Proofs.YtbfbgappinilmaaGreatDoor
