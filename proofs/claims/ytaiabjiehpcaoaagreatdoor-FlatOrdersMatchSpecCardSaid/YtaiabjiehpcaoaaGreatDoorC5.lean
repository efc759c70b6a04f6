/- The walk of the program's Fewest. (Printed by genY5.py.) The walks of the program's sumOf and SumOf. (Printed by genY6.py.) The walk of the program's SumOf. -/
import Derived.Test.YtaiabjiehpcaoaaGreatDoorY4
import Derived.Test.YtaiabjiehpcaoaaGreatDoorA7
import Derived.Test.YtaiabjiehpcaoaaGreatDoorRH
import Derived.Test.YtaiabjiehpcaoaaGreatDoorT16
import Derived.Test.YtaiabjiehpcaoaaGreatDoorV2
import Derived.Test.YtaiabjiehpcaoaaGreatDoorZC
import Derived.Test.YtaiabjiehpcaoaaGreatDoorY1
-- merged: Y5 Y6 Y7 YQ I1 C0 C1 C2 C5
set_option maxHeartbeats 8000000
set_option maxRecDepth 100000
namespace Go.Proofs.YtaiabjiehpcaoaaGreatDoor
open Go.RowKit Limb Nmb Work
set_option linter.unusedVariables false
set_option linter.unusedSimpArgs false
def fewF (z:Int):Nat->Int×Int×Int
 | 0=>made z 0
 | p+1=>if z%10=0 then fewF (z/10) p else made z ((p+1:Nat):Int)
theorem few_step {z:Int} {p:Nat} (h:z%10=0):fewF z (p+1)=fewF (z/10) p:=if_pos h
theorem few_stop {z:Int} {p:Nat} (h:¬ z%10=0):fewF z (p+1)=made z ((p+1:Nat):Int):=if_neg h
theorem mod_abs (z:Int):((z.natAbs%10:Nat):Int)=0↔z%10=0:=by omega
theorem div_abs {z:Int} (h:z%10=0):(z<0 -> -((z.natAbs/10:Nat):Int)=z/10)/\(¬ z<0->((z.natAbs/10:Nat):Int)=z/10):=by omega
theorem sgn_nat (n:Nat):((n:Int).sign=0↔n=0):=by rw [Int.sign_eq_zero_iff_zero];omega
theorem fewest_c (w:World) {s:Bool} {A:Option Addr} {n c:Nat} {z:Int} (p:Nat) (hp:p<=9) (h:Big .u32 152 B32 w s A n c z) (hz : -10000000000000000000000000000000000000000<=z/\z<=10000000000000000000000000000000000000000) :
  Calls Tryz.prog 76 #[.agg #[.bool s,.slice A n c],.int .i64 (p:Int)] w (RetD (fewF z p) w):=by
 obtain ⟨R,hR⟩:=ex_ (fewF z p)
 have HR:=Hd hR
 rw [hR]
 have HZ:=Hd hz
 have HG:=Hd h
 clear hR h hz
 have hN0:=Qad (Qac w (.cells #[.bool s,.slice A n c] 106) rfl) (.cells #[.int .i64 0,.int .i64 0] 70)
 have hR0:=Qac (w.alloc (.cells #[.bool s,.slice A n c] 106)) (.cells #[.int .i64 0,.int .i64 0] 70) (g:=w.heap.size+1) (by simp)
 have hB0:Below w.heap.size w ((w.alloc (.cells #[.bool s,.slice A n c] 106)).alloc (.cells #[.int .i64 0,.int .i64 0] 70)):=by go_grown
 go_enter Tryz.func76,Tryz.ntmps76
 obtain ⟨N,hN⟩:=ex_ (w.heap.size)
 go_wp2_with fail
 refine (of_c 10 _ (by decide) (by decide)).mono ?_
 rintro _ w2 ⟨s1,A1,n1,c1,rfl,hten,hb2⟩
 have HN2:=Hd (Qad (Qaa hN0 hb2) (.cells #[.bool s1,.slice A1 n1 c1] 106))
 have HR2:=Hd (Qad (Qaa hR0 hb2) (.cells #[.bool s1,.slice A1 n1 c1] 106))
 have HT2:=Hd (Qac w2 (.cells #[.bool s1,.slice A1 n1 c1] 106) rfl)
 have hB2:=Qab hb2 hB0 hB0.size
 have HB2:Hid (Below w.heap.size w (w2.alloc (.cells #[.bool s1,.slice A1 n1 c1] 106))):=Hd (hB2.alloc hB2.size _)
 have HG2:=Hd ((HG.out.below hB2).alloc (.cells #[.bool s1,.slice A1 n1 c1] 106))
 have HTB:=Hd (hten.alloc (.cells #[.bool s1,.slice A1 n1 c1] 106))
 have hNT:w.heap.size+1<w2.heap.size:=Qan (Qaa hR0 hb2)
 clear hN0 hR0 hB0 hten hb2 hB2
 go_upto_region 2 with fail
 obtain ⟨TT,hTT⟩:=ex_ (w2.heap.size)
 rw [hTT] at HT2 hNT
 try rw [hTT]
 rw [hN] at HN2 HR2 hNT
 try rw [hN]
 generalize w2.alloc (.cells #[.bool s1,.slice A1 n1 c1] 106)=w3 at HN2 HR2 HT2 HB2 HG2 HTB ⊢
 have hwN:w.heap.size<=N:=by omega
 have hBN:Hid (Below N w w3):=Hd (by rw [<- hN];exact HB2.out)
 have HNN:=Hd hN
 clear hTT HB2 hN
 go_loopw [1] (fun pl wr=>∃ (k:Nat) (v:Int) (s:Bool) (A:Option Addr) (n c:Nat),k<=9/\pl=.int .i64 (k:Int)/\Hid (fewF v k=R)/\Hid (Big .u32 152 B32 wr s A n c v)/\Hid (-10000000000000000000000000000000000000000<=v/\v<=10000000000000000000000000000000000000000)/\Hid (wr.heap[N]?=some (.cells #[.bool s,.slice A n c] 106 (0,0)))/\Hid (wr.heap[N+1]?=some (.cells #[.int .i64 0,.int .i64 0] 70 (0,0)))/\Hid (wr.heap[TT]?=some (.cells #[.bool s1,.slice A1 n1 c1] 106 (0,0)))/\Hid (Big .u32 152 B32 wr s1 A1 n1 c1 10)/\Hid (Below N w wr)) (fun pl _=>(intOf pl).toNat)
 case atStart=>exact ⟨p,z,s,A,n,c,hp,rfl,HR,HG2,HZ,HN2,HR2,HT2,HTB,hBN⟩
 case round=>
  clear HN2 HR2 HT2 HG2 HTB hBN HG HR HZ
  obtain ⟨k,v,s,A,n,c,hk,rfl,HR,HG,HZ,HN,HRZ,HT,HTB,HB⟩:=hrel
  have hzr:N<=wr.heap.size:=Nat.le_of_lt (Qan HN.out)
  have hsm:Small v:=Qay (by have:=HZ.out;omega) (by have:=HZ.out;omega)
  have HS:=Hd hsm
  have HST:=Hd (Qay (z:=10) (by decide) (by decide))
  clear hsm
  obtain ⟨a0,a1,a2,a3,a5⟩:=box2 HN.out
  obtain ⟨t0,t1,-,-,t5⟩:=box2 HT.out
  rcases k with _ | k
  ·have HE:=Hd (show made v 0=R from HR.out)
   obtain ⟨z0,z1,z2,z3,z5⟩:=box2 HRZ.out
   go_wp2_with fail
   refine (mk_c _ 0 HG.out).mono ?_
   rw [HE.out]
   rintro _ w4 ⟨rfl,hb4⟩
   have hR4:=Qaa HRZ.out hb4
   have hB4:=Qab hb4 HB.out hzr
   clear a0 a1 a2 a3 a5 t0 t1 t5 z0 z1 z2 z3 z5
   obtain ⟨z0,z1,z2,z3,z5⟩:=box2 hR4
   go_wp2
   have hz9:((w4.setCell ⟨N+1,0,none⟩ (.int .i64 R.1)).setCell ⟨N+1,1,none⟩ (.int .i64 R.2.1)).heap[N+1]?=some (.cells #[.int .i64 R.1,.int .i64 R.2.1] 70 (0,0)):=Qae (Qae hR4 0 _) 1 _
   obtain ⟨r0,r1,-,-,-⟩:=box2 hz9
   refine bodyPost_ret (v:=.tuple #[.agg #[.int .i64 R.1,.int .i64 R.2.1],.int .i64 R.2.2]) (by simp [results,Tryz.results76,go_sem,r0,r1]) rfl ⟨rfl,?_⟩
   rw [<- HNN.out] at hB4 ⊢
   exact (hB4.setCell (p:=⟨w.heap.size+1,0,none⟩) (by show w.heap.size<=w.heap.size+1;omega) _).setCell (p:=⟨w.heap.size+1,1,none⟩) (by show w.heap.size<=w.heap.size+1;omega) _
  ·go_wp2_with fail
   refine (by_c _ HG.out HTB.out HS.out HST.out (by decide)).mono ?_
   rintro _ w4 ⟨s4,A4,n4,c4,s5,A5,n5,c5,rfl,hq,hr,hb4⟩
   have hz4:=hb4.size
   have h5:=Hd (show Below wr.heap.size wr ((w4.alloc (.cells #[.bool s4,.slice A4 n4 c4] 106)).alloc (.cells #[.bool s5,.slice A5 n5 c5] 106)) from (hb4.alloc hz4 _).alloc (by simp;omega) _)
   have HN5:=Hd (Qaa HN.out h5.out);have HR5:=Hd (Qaa HRZ.out h5.out);have HT5:=Hd (Qaa HT.out h5.out)
   have HTB5:=Hd (HTB.out.below h5.out);have HG5:=Hd (HG.out.below h5.out)
   have HB5:=Hd (Qab h5.out HB.out hzr)
   have HQ5:=Hd (Qad (Qac w4 (.cells #[.bool s4,.slice A4 n4 c4] 106) rfl) (.cells #[.bool s5,.slice A5 n5 c5] 106))
   have HX5:=Hd (Qac (w4.alloc (.cells #[.bool s4,.slice A4 n4 c4] 106)) (.cells #[.bool s5,.slice A5 n5 c5] 106) (g:=w4.heap.size+1) (by simp))
   have hq5:=Hd ((hq.alloc (.cells #[.bool s4,.slice A4 n4 c4] 106)).alloc (.cells #[.bool s5,.slice A5 n5 c5] 106))
   have hr5:=Hd ((hr.alloc (.cells #[.bool s4,.slice A4 n4 c4] 106)).alloc (.cells #[.bool s5,.slice A5 n5 c5] 106))
   have hqN:TT<w4.heap.size:=Nat.lt_of_lt_of_le t5 hb4.size
   clear a0 a1 a2 a3 a5 t0 t1 t5 hq hr hb4
   go_upto_region 4 with fail
   obtain ⟨QQ,hQQ⟩:=ex_ (w4.heap.size)
   rw [hQQ] at HQ5 HX5 hqN
   try rw [hQQ]
   generalize (w4.alloc (.cells #[.bool s4,.slice A4 n4 c4] 106)).alloc (.cells #[.bool s5,.slice A5 n5 c5] 106)=w5 at h5 HN5 HR5 HT5 HTB5 HG5 HB5 HQ5 HX5 hq5 hr5 ⊢
   clear hQQ h5
   obtain ⟨x0,x1,-,-,x5⟩:=box2 HX5.out
   have h10:(10:Int).natAbs=10:=rfl
   have hq6:=hq5.out;have hr6:=hr5.out
   rw [h10] at hq6 hr6
   go_wp2_with fail
   refine (sign_c _ hr6).mono ?_
   rintro _ w6 ⟨rfl,hb6⟩
   have HN6:=Hd (Qaa HN5.out hb6);have HR6:=Hd (Qaa HR5.out hb6);have HT6:=Hd (Qaa HT5.out hb6)
   have HTB6:=Hd (HTB5.out.below hb6);have HG6:=Hd (HG5.out.below hb6);have HQ6:=Hd (Qaa HQ5.out hb6)
   have HB6:=Hd (Qab hb6 HB5.out (Nat.le_of_lt (Qan HN5.out)))
   have hQB:=Hd (hq6.below hb6)
   have hzr6:N<=w6.heap.size:=Nat.le_of_lt (Qan HN6.out)
   clear HN5 HR5 HT5 HTB5 HG5 HB5 HQ5 HX5 hq5 hr5 hq6 hr6 x0 x1 x5 hb6 h10
   obtain ⟨a0,a1,a2,a3,a5⟩:=box2 HN6.out
   by_cases hm:v%10=0
   case neg=>
    have HE:=Hd (show made v ((k+1:Nat):Int)=R by rw [<- HR.out,few_stop hm])
    have hsg:((v.natAbs%10:Nat):Int).sign≠0:=fun e=>hm ((mod_abs v).1 (by rw [(sgn_nat _).1 e];rfl))
    obtain ⟨sg,hsge⟩:=ex_ (((v.natAbs%10:Nat):Int).sign)
    rw [hsge] at hsg ⊢
    have hsgb:(sg !=0)=true:=by simpa using hsg
    clear hm hsg hsge
    go_wp2_with fail
    refine (mk_c _ ((k+1:Nat):Int) HG6.out).mono ?_
    rw [HE.out]
    rintro _ w9 ⟨rfl,hb9⟩
    have hR9:=Qaa HR6.out hb9
    have hB9:=Qab hb9 HB6.out (by omega)
    obtain ⟨z0,z1,z2,z3,z5⟩:=box2 hR9
    go_wp2
    have hz9:((w9.setCell ⟨N+1,0,none⟩ (.int .i64 R.1)).setCell ⟨N+1,1,none⟩ (.int .i64 R.2.1)).heap[N+1]?=some (.cells #[.int .i64 R.1,.int .i64 R.2.1] 70 (0,0)):=Qae (Qae hR9 0 _) 1 _
    obtain ⟨r0,r1,-,-,-⟩:=box2 hz9
    refine bodyPost_ret (v:=.tuple #[.agg #[.int .i64 R.1,.int .i64 R.2.1],.int .i64 R.2.2]) (by simp [results,Tryz.results76,go_sem,r0,r1]) rfl ⟨rfl,?_⟩
    rw [<- HNN.out] at hB9 ⊢
    exact (hB9.setCell (p:=⟨w.heap.size+1,0,none⟩) (by show w.heap.size<=w.heap.size+1;omega) _).setCell (p:=⟨w.heap.size+1,1,none⟩) (by show w.heap.size<=w.heap.size+1;omega) _
   have hsg:((v.natAbs%10:Nat):Int).sign=0:=by rw [(mod_abs v).2 hm];rfl
   rw [hsg]
   obtain ⟨hd1,hd2⟩:=div_abs hm
   have HF:=Hd (show fewF (v/10) k=R by rw [<- HR.out,few_step hm])
   have HZ2:=Hd (show -10000000000000000000000000000000000000000<=v/10/\v/10<=10000000000000000000000000000000000000000 by have:=HZ.out;omega)
   obtain ⟨q0,q1,q2,q3,q5⟩:=box2 HQ6.out
   go_wp2_with fail
   refine (sign_c _ HG6.out).mono ?_
   rintro _ w7 ⟨rfl,hb7⟩
   have HN7:=Hd (Qaa HN6.out hb7);have HR7:=Hd (Qaa HR6.out hb7);have HT7:=Hd (Qaa HT6.out hb7)
   have HTB7:=Hd (HTB6.out.below hb7);have HQ7:=Hd (Qaa HQ6.out hb7)
   have HB7:=Hd (Qab hb7 HB6.out hzr6)
   have hQB7:=Hd (hQB.out.below hb7)
   clear HN6 HR6 HT6 HTB6 HG6 HB6 HQ6 hQB hb7 a0 a1 a2 a3 a5 q0 q1 q2 q3 q5 hsg hzr6
   have hzr7:N<=w7.heap.size:=Nat.le_of_lt (Qan HN7.out)
   obtain ⟨q0,q1,q2,q3,q5⟩:=box2 HQ7.out
   obtain ⟨a0,a1,a2,a3,a5⟩:=box2 HN7.out
   by_cases hv:v<0
   ·have hsv:v.sign<0:=by rw [Int.sign_eq_neg_one_of_neg hv];decide
    have hd:=hd1 hv
    generalize v.sign=sv at hsv
    clear hv hd1 hd2 hm
    go_wp2_with fail
    refine (minus_c _ hQB7.out).mono ?_
    rw [hd]
    rintro _ w8 ⟨s8,A8,n8,c8,rfl,hv8,hb8⟩
    have HQ8:=Hd (Qaa HQ7.out hb8)
    have HN8:=Hd (Qaa HN7.out hb8);have HR8:=Hd (Qaa HR7.out hb8);have HT8:=Hd (Qaa HT7.out hb8)
    have HTB8:=Hd (HTB7.out.below hb8)
    have HB8:=Hd (Qab hb8 HB7.out hzr7)
    have HV8:=Hd hv8
    clear HN7 HR7 HT7 HTB7 HB7 HQ7 hQB7 hb8 hv8 q0 q1 q2 q3 q5 a0 a1 a2 a3 a5 hd
    obtain ⟨q0,q1,q2,q3,q5⟩:=box2 HQ8.out
    obtain ⟨a0,a1,a2,a3,a5⟩:=box2 HN8.out
    have hQN:QQ≠N:=by omega
    have HN9:=Hd (show ((w8.setCell ⟨QQ,0,none⟩ (.bool s8)).setCell ⟨QQ,1,none⟩ (.slice A8 n8 c8)).heap[N]?=some (.cells #[.bool s,.slice A n c] 106 (0,0)) from Qaf (Qaf HN8.out (p:=⟨QQ,0,none⟩) (Ne.symm hQN) _) (p:=⟨QQ,1,none⟩) (Ne.symm hQN) _)
    have HR9:=Hd (show ((w8.setCell ⟨QQ,0,none⟩ (.bool s8)).setCell ⟨QQ,1,none⟩ (.slice A8 n8 c8)).heap[N+1]?=some (.cells #[.int .i64 0,.int .i64 0] 70 (0,0)) from Qaf (Qaf HR8.out (p:=⟨QQ,0,none⟩) (by show N+1≠QQ;omega) _) (p:=⟨QQ,1,none⟩) (by show N+1≠QQ;omega) _)
    have HT9:=Hd (show ((w8.setCell ⟨QQ,0,none⟩ (.bool s8)).setCell ⟨QQ,1,none⟩ (.slice A8 n8 c8)).heap[TT]?=some (.cells #[.bool s1,.slice A1 n1 c1] 106 (0,0)) from Qaf (Qaf HT8.out (p:=⟨QQ,0,none⟩) (by show TT≠QQ;omega) _) (p:=⟨QQ,1,none⟩) (by show TT≠QQ;omega) _)
    have HTB9:=Hd (HTB8.out.box2 HQ8.out (by decide) (.bool s8) (.slice A8 n8 c8))
    have HV9:=Hd (HV8.out.box2 HQ8.out (by decide) (.bool s8) (.slice A8 n8 c8))
    have HB9:=Hd ((HB8.out.setCell (p:=⟨QQ,0,none⟩) (by show N<=QQ;omega) (.bool s8)).setCell (p:=⟨QQ,1,none⟩) (by show N<=QQ;omega) (.slice A8 n8 c8))
    clear HN8 HR8 HT8 HTB8 HV8 HB8
    go_wp2_with fail
    go_roundw
    case rel=>
     refine ⟨k,v/10,s8,A8,n8,c8,by omega,by go_num,HF,Hd (HV9.out.box2 HN9.out (by decide) _ _),HZ2,Hd (Qae (Qae HN9.out 0 _) 1 _),?_,?_,Hd (HTB9.out.box2 HN9.out (by decide) _ _),Hd ((HB9.out.setCell (p:=⟨N,0,none⟩) (Nat.le_refl _) _).setCell (p:=⟨N,1,none⟩) (Nat.le_refl _) _)⟩
     ·exact Hd (Qaf (Qaf HR9.out (p:=⟨N,0,none⟩) (by show N+1≠N;omega) _) (p:=⟨N,1,none⟩) (by show N+1≠N;omega) _)
     ·exact Hd (Qaf (Qaf HT9.out (p:=⟨N,0,none⟩) (by show TT≠N;omega) _) (p:=⟨N,1,none⟩) (by show TT≠N;omega) _)
    case measure=>simp [intOf]
   ·have hsv:¬ v.sign<0:=by rcases Int.lt_or_eq_of_le (Int.not_lt.1 hv) with h | h;rw [Int.sign_eq_one_of_pos h];decide;rw [<- h];decide
    have hd:=hd2 (by omega)
    have HQB:=Hd (hd ▸ hQB7.out)
    generalize v.sign=sv at hsv
    clear hv hd1 hd2 hm hQB7 hd
    have HW:=Hd (show ((w7.setCell ⟨N,0,none⟩ (.bool s4)).setCell ⟨N,1,none⟩ (.slice A4 n4 c4)).heap[N]?=some (.cells #[.bool s4,.slice A4 n4 c4] 106 (0,0)) from Qae (Qae HN7.out 0 _) 1 _)
    go_wp2_with fail
    go_roundw
    case rel=>
     refine ⟨k,v/10,s4,A4,n4,c4,by omega,by go_num,HF,Hd (HQB.out.box2 HN7.out (by decide) _ _),HZ2,HW,?_,?_,Hd (HTB7.out.box2 HN7.out (by decide) _ _),Hd ((HB7.out.setCell (p:=⟨N,0,none⟩) (Nat.le_refl _) _).setCell (p:=⟨N,1,none⟩) (Nat.le_refl _) _)⟩
     ·exact Hd (Qaf (Qaf HR7.out (p:=⟨N,0,none⟩) (by show N+1≠N;omega) _) (p:=⟨N,1,none⟩) (by show N+1≠N;omega) _)
     ·exact Hd (Qaf (Qaf HT7.out (p:=⟨N,0,none⟩) (by show TT≠N;omega) _) (p:=⟨N,1,none⟩) (by show TT≠N;omega) _)
    case measure=>simp [intOf]
theorem made_zero {z p:Int} (h:(made z p).2.2≠0):(made z p).1=0/\(made z p).2.1=0:=by
 by_cases hz:z.natAbs<=1000000000000000
 ·rw [show made z p=(z,p,0) from if_pos hz] at h;exact absurd rfl h
 ·rw [show made z p=(0,0,1) from if_neg hz];exact ⟨rfl,rfl⟩
theorem readR_zero {neg:Bool} {l:List UInt8} {nb:Int} (h:(Qa6 neg l nb).2.2≠0):(Qa6 neg l nb).1=0/\(Qa6 neg l nb).2.1=0:=by
 cases neg with
 | true=>
  by_cases h0:numL l=0
  ·have e:Qa6 true l nb=(0,0,10):=by simp [Qa6,h0]
   rw [e];exact ⟨rfl,rfl⟩
  ·have e:Qa6 true l nb=made (-(numL l:Int)) nb:=by simp [Qa6,h0]
   rw [e] at h ⊢;exact made_zero h
 | false=>
  have e:Qa6 false l nb=made (numL l:Int) nb:=by simp [Qa6]
  rw [e] at h ⊢;exact made_zero h
theorem Qbz (l:List UInt8):decB (Qag l).1 (Qag l).2.1=true:=by
 by_cases h:(Qag l).2.2=0
 ·exact readText_dec h
 ·have e:Qag l=(0,0,10)∨∃ neg m nb,Qag l=Qa6 neg m nb:=by
   unfold Qag
   simp only
   by_cases hb:(decide (40<l.length)||!Qbd (cutL (if (l.head? == some 45)=true then l.tail else l) 46).1||((cutL (if (l.head? == some 45)=true then l.tail else l) 46).2.2&&(!digB (cutL (if (l.head? == some 45)=true then l.tail else l) 46).2.1||decide (9<(cutL (if (l.head? == some 45)=true then l.tail else l) 46).2.1.length))))=true
   ·rw [if_pos hb];exact .inl rfl
   ·rw [if_neg hb];exact .inr ⟨_,_,_,rfl⟩
  rcases e with e | ⟨neg,m,nb,e⟩
  ·rw [e];decide
  ·rw [e] at h ⊢
   obtain ⟨h1,h2⟩:=readR_zero h
   rw [h1,h2]
   decide
def rowZ (f:Fmt) (tag name:ByteArray) (r:RowP):Int :=
 if (tag≠⟨#[]⟩/\r.tag≠tag)∨ixF (Qaj name) (katK f r.tag).fields<0∨wd r.vals (ixF (Qaj name) (katK f r.tag).fields).toNat=⟨#[]⟩ then 0
 else Qaz (Qag (wd r.vals (ixF (Qaj name) (katK f r.tag).fields).toNat).data.toList).1 (Qag (wd r.vals (ixF (Qaj name) (katK f r.tag).fields).toNat).data.toList).2.1 9
def Qa8 (f:Fmt) (tag name:ByteArray) (rs:List RowP):Nat->Int
 | 0=>0
 | j+1=>Qa8 f tag name rs j+rowZ f tag name (rA rs j)
theorem scl_bd {u p:Int} (h:decB u p=true) : -1000000000000000000000000<=Qaz u p 9/\Qaz u p 9<=1000000000000000000000000:=by
 have:=QaV h
 exact scaled_bound (by omega) (by omega)
theorem sumofX_c (f:Fmt) (A:Option Addr) (cp:Nat) (FA:Nat->Option Addr) (FC:Nat->Nat) (L:Option Addr) (LC:Nat) (rs:List RowP) (RA:Nat->Option Addr) (RC:Nat->Nat) (tag name:ByteArray) (w:World) (ho:Kinds w A f.kinds FA FC) (hl:RowsM w L rs RA RC) (hrk:∀ j,j<rs.length->RowK f (rA rs j)) (h2000:rs.length<=1000000000000000) :
  Calls Tryz.prog 41 #[fmtG f A cp,.slice L rs.length LC,.string tag,.string name] w (RetD (fewF (Qa8 f tag name rs rs.length) 9) w):=by
 have HKA:=Hd (fun t w h=>QbR f A cp FA FC t w h)
 have HCC:=Hd (fun t=>QaX f FA FC t)
 have HKI:=Hd ho;have HLM:=Hd hl;have HRK:=Hd hrk
 obtain ⟨R,hR⟩:=ex_ (fewF (Qa8 f tag name rs rs.length) 9)
 have HR:=Hd hR
 rw [hR]
 clear ho hl hrk hR
 obtain ⟨m,q,ks,hd,tl,ct,sm⟩:=f
 unfold fmtG at HKA ⊢
 simp only at HKA HCC HKI ⊢
 obtain ⟨n,hn⟩:=ex_ (ks.length)
 rw [hn] at HKA ⊢
 clear hn
 obtain ⟨nr,hnr⟩:=ex_ (rs.length)
 have HNR:=Hd hnr
 rw [hnr] at HR h2000 ⊢
 clear hnr
 have hF0:=Qad (Qac w (.cells #[.int .u8 m,.int .u8 q,.slice A n cp,.string hd,.string tl,.string ct,.string sm] 24) rfl) (.cells #[.int .i64 0,.int .i64 0] 70)
 have hZ0:=Qac (w.alloc (.cells #[.int .u8 m,.int .u8 q,.slice A n cp,.string hd,.string tl,.string ct,.string sm] 24)) (.cells #[.int .i64 0,.int .i64 0] 70) (g:=w.heap.size+1) (by simp)
 have hB0:Below w.heap.size w ((w.alloc (.cells #[.int .u8 m,.int .u8 q,.slice A n cp,.string hd,.string tl,.string ct,.string sm] 24)).alloc (.cells #[.int .i64 0,.int .i64 0] 70)):=by go_grown
 go_enter Tryz.func41,Tryz.ntmps41
 go_wp2_with fail
 refine (of_c 0 _ (by decide) (by decide)).mono ?_
 rintro _ w2 ⟨s1,A1,n1,c1,rfl,hz,hb2⟩
 have HF2:=Hd (Qad (Qaa hF0 hb2) (.cells #[.bool s1,.slice A1 n1 c1] 106))
 have HZ2:=Hd (Qad (Qaa hZ0 hb2) (.cells #[.bool s1,.slice A1 n1 c1] 106))
 have HS2:=Hd (Qac w2 (.cells #[.bool s1,.slice A1 n1 c1] 106) rfl)
 have hB2:=Qab hb2 hB0 hB0.size
 have HB2:Hid (Below w.heap.size w (w2.alloc (.cells #[.bool s1,.slice A1 n1 c1] 106))):=Hd (hB2.alloc hB2.size _)
 have HG2:=Hd (hz.alloc (.cells #[.bool s1,.slice A1 n1 c1] 106))
 have hNS:w.heap.size+1<w2.heap.size:=Qan (Qaa hZ0 hb2)
 clear hF0 hZ0 hB0 hz hb2 hB2
 go_upto_region 2 with fail
 obtain ⟨SB,hSB⟩:=ex_ (w2.heap.size)
 rw [hSB] at HS2 hNS
 try rw [hSB]
 generalize w2.alloc (.cells #[.bool s1,.slice A1 n1 c1] 106)=w3 at HF2 HZ2 HS2 HB2 HG2 ⊢
 clear hSB
 go_wp2_with fail
 go_loopw [21] (fun i wr=>∃ (j:Nat) (z:Int) (s:Bool) (SA:Option Addr) (sn sc:Nat),j<=nr/\i=.int .i64 j/\Hid (Qa8 ⟨m,q,ks,hd,tl,ct,sm⟩ tag name rs j=z)/\Hid (-(j:Int)*1000000000000000000000000<=z/\z<=(j:Int)*1000000000000000000000000)/\Hid (Big .u32 152 B32 wr s SA sn sc z)/\Hid (wr.heap[w.heap.size]?=some (.cells #[.int .u8 m,.int .u8 q,.slice A n cp,.string hd,.string tl,.string ct,.string sm] 24 (0,0)))/\Hid (wr.heap[w.heap.size+1]?=some (.cells #[.int .i64 0,.int .i64 0] 70 (0,0)))/\Hid (wr.heap[SB]?=some (.cells #[.bool s,.slice SA sn sc] 106 (0,0)))/\Hid (Below w.heap.size w wr)) (fun i _=>nr-(intOf i).toNat)
 case atStart=>exact ⟨0,0,s1,A1,n1,c1,Nat.zero_le _,rfl,Hd rfl,Hd (by omega),HG2,HF2,HZ2,HS2,HB2⟩
 case round=>
  clear HF2 HZ2 HS2 HB2 HG2
  obtain ⟨j,z,s,SA,sn,sc,hj,rfl,HZ0,HBD,HG,HF,HZ,HS,HB⟩:=hrel
  have hzr:=HB.out.size
  rcases Nat.lt_or_ge j nr with hlt | hge
  ·obtain ⟨b,off,rfl,hbw,c0,c1⟩:=(HLM.out.below HB.out).cells (j:=j) (by rw [HNR.out];exact hlt)
   have HRJ:=Hd ((HLM.out.below HB.out).each j (by rw [HNR.out];exact hlt))
   have HRO:=Hd (HRK.out j (by rw [HNR.out];exact hlt))
   have HSC:=Hd (show Qa8 ⟨m,q,ks,hd,tl,ct,sm⟩ tag name rs (j+1)=Qa8 ⟨m,q,ks,hd,tl,ct,sm⟩ tag name rs j+rowZ ⟨m,q,ks,hd,tl,ct,sm⟩ tag name (rA rs j) from rfl)
   obtain ⟨r,hr⟩:=ex_ (rA rs j)
   obtain ⟨RJ,hRJ⟩:=ex_ (RA j)
   obtain ⟨CJ,hCJ⟩:=ex_ (RC j)
   rw [hr,hRJ,hCJ] at HRJ
   rw [hr] at c0 HRO HSC
   rw [hr,hRJ,hCJ] at c1
   clear hr hRJ hCJ
   obtain ⟨rt,vs⟩:=r
   have HKJ:=Hd (fun w h=>HKA.out rt w h)
   have HCJ:=Hd (HCC.out rt)
   have hmany:=HRO.out.many
   have hkind:=HRO.out.kind
   simp only at hmany hkind c0 c1
   obtain ⟨nv,hnv⟩:=ex_ (vs.length)
   have HNV:=Hd hnv
   rw [hnv] at c1 hmany
   have HMN:=Hd hmany
   clear hmany
   have hnvc:nv<=CJ:=by rw [<- hnv];exact HRJ.out.len.1
   have hnvb:=HRJ.out.len.2
   clear hnv
   have hF5:=Qad HF.out (.cells #[.string rt,.slice RJ nv CJ] 49);have hZ5:=Qad HZ.out (.cells #[.string rt,.slice RJ nv CJ] 49);have hS5:=Qad HS.out (.cells #[.string rt,.slice RJ nv CJ] 49)
   have hR5:=Qac wr (.cells #[.string rt,.slice RJ nv CJ] 49) rfl
   have hb5:Below wr.heap.size wr (wr.alloc (.cells #[.string rt,.slice RJ nv CJ] 49)):=by go_grown
   have HG5:=Hd (HG.out.alloc (.cells #[.string rt,.slice RJ nv CJ] 49))
   go_upto_region 5 with fail
   obtain ⟨rn,hrn⟩:=ex_ (wr.heap.size)
   rw [hrn] at hR5
   try rw [hrn]
   have HB5:=Hd (Qab hb5 HB.out hzr)
   generalize wr.alloc (.cells #[.string rt,.slice RJ nv CJ] 49)=w5 at hF5 hZ5 hS5 hR5 hb5 HG5 HB5 ⊢
   have HF5:=Hd hF5;have HZ5:=Hd hZ5;have HS5:=Hd hS5;have HR5:=Hd hR5
   have HRJ5:=Hd (HRJ.out.below hb5)
   obtain ⟨⟨f0,f1,f2,f3,f4,f5,f6⟩,f7⟩:=Qai hF5
   obtain ⟨r0,r1,-,-,r2⟩:=box2 hR5
   clear c0 c1 hF5 hZ5 hS5 hR5 hrn hbw hb5 HG HF HZ HS HB HRJ
   go_wp2_with fail
   refine (HKJ.out _ (HKI.out.below HB5.out)).mono ?_
   rintro _ w6 ⟨rfl,hb6⟩
   rcases HCJ.out with ⟨h1,-,-,-⟩|⟨k,hk,h1,h2,h3,h4⟩
   ·omega
   have hdec:decide ((0:Int)<=(k:Int))=true:=decide_eq_true (by omega)
   rw [h1,h2,h3,h4,hdec]
   have hmany:=HMN.out
   rw [h2] at hmany
   have HCO:=Hd ((HKI.out).2.2 k hk)
   have HCA:=Hd (fun w h=>colat_c (kA ks k) (FA k) (FC k) name w h)
   have HIX:=Hd (QaT (Qaj name) (kA ks k).fields)
   have HRZ:=Hd (show rowZ ⟨m,q,ks,hd,tl,ct,sm⟩ tag name ⟨rt,vs⟩=if (tag≠⟨#[]⟩/\rt≠tag)∨ixF (Qaj name) (kA ks k).fields<0∨wd vs (ixF (Qaj name) (kA ks k).fields).toNat=⟨#[]⟩ then 0 else Qaz (Qag (wd vs (ixF (Qaj name) (kA ks k).fields).toNat).data.toList).1 (Qag (wd vs (ixF (Qaj name) (kA ks k).fields).toNat).data.toList).2.1 9 by unfold rowZ;simp only;rw [h2])
   obtain ⟨K,hK⟩:=ex_ (kA ks k)
   rw [hK] at HCO HCA HIX HRZ hmany ⊢
   clear h1 h2 h3 h4 hdec hK hk hkind
   obtain ⟨kt,fs,km,ku⟩:=K
   unfold QaO at HCA ⊢
   simp only at HCO HCA HIX HRZ hmany ⊢
   obtain ⟨KA,hKA⟩:=ex_ (FA k)
   obtain ⟨KC,hKC⟩:=ex_ (FC k)
   have hnf:fs.length=nv:=hmany.symm
   have HNF:=Hd hnf
   rw [hKA,hKC] at HCO HCA ⊢
   rw [hnf] at HCO HCA ⊢
   clear hKA hKC hmany hnf
   have HF7:=Hd (Qad (Qaa HF5.out hb6) (.cells #[.string kt,.slice KA nv KC,.int .i64 km,.string ku] 52));have HZ7:=Hd (Qad (Qaa HZ5.out hb6) (.cells #[.string kt,.slice KA nv KC,.int .i64 km,.string ku] 52));have HS7:=Hd (Qad (Qaa HS5.out hb6) (.cells #[.string kt,.slice KA nv KC,.int .i64 km,.string ku] 52))
   have HR7:=Hd (Qad (Qaa HR5.out hb6) (.cells #[.string kt,.slice KA nv KC,.int .i64 km,.string ku] 52))
   have HK7:=Hd (Qac w6 (.cells #[.string kt,.slice KA nv KC,.int .i64 km,.string ku] 52) rfl)
   have hb67:Below w5.heap.size w5 (w6.alloc (.cells #[.string kt,.slice KA nv KC,.int .i64 km,.string ku] 52)):=hb6.alloc hb6.size _
   have HG7:=Hd (HG5.out.below hb67)
   have HRJ7:=Hd (HRJ5.out.below hb67)
   have HB7:=Hd (Qab hb67 HB5.out HB5.out.size)
   clear f0 f1 f2 f3 f4 f5 f6 f7 r0 r1 r2 HF5 HZ5 HS5 HR5 HG5 HB5 HRJ5 hb6 hb67
   go_upto_region 6 with fail
   obtain ⟨k0,hk0⟩:=ex_ (w6.heap.size)
   rw [hk0] at HK7
   try rw [hk0]
   generalize w6.alloc (.cells #[.string kt,.slice KA nv KC,.int .i64 km,.string ku] 52)=w7 at HF7 HZ7 HS7 HR7 HK7 HG7 HRJ7 HB7 ⊢
   clear hk0
   obtain ⟨⟨y0,y1,y2,y3⟩,-,y4⟩:=Qaw HK7.out
   go_wp2_with fail
   refine (HCA.out _ (HCO.out.1.below HB7.out)).mono ?_
   rintro _ w8 ⟨rfl,hb8⟩
   have HF8:=Hd (Qaa HF7.out hb8);have HZ8:=Hd (Qaa HZ7.out hb8);have HS8:=Hd (Qaa HS7.out hb8);have HR8:=Hd (Qaa HR7.out hb8)
   have HG8:=Hd (HG7.out.below hb8);have HRJ8:=Hd (HRJ7.out.below hb8)
   have HB8:=Hd (Qab hb8 HB7.out HB7.out.size)
   clear y0 y1 y2 y3 y4 HF7 HZ7 HS7 HR7 HK7 HG7 HRJ7 HB7 hb8
   obtain ⟨r0,r1,-,-,r2⟩:=box2 HR8.out
   have hte:=Qah tag
   have hrt:=Qap rt tag
   by_cases hA:tag≠⟨#[]⟩/\rt≠tag
   ·have HZE:=Hd (show rowZ ⟨m,q,ks,hd,tl,ct,sm⟩ tag name ⟨rt,vs⟩=0 by rw [HRZ.out,if_pos (.inl hA)])
    rw [decide_eq_false hA.1] at hte
    rw [decide_eq_false hA.2] at hrt
    generalize ixF (Qaj name) fs=ii
    clear hA
    have HZN:=Hd (show Qa8 ⟨m,q,ks,hd,tl,ct,sm⟩ tag name rs (j+1)=z by rw [HSC.out,HZ0.out,HZE.out];exact Int.add_zero _)
    have HZB:=Hd (show -((j+1:Nat):Int)*1000000000000000000000000<=z/\z<=((j+1:Nat):Int)*1000000000000000000000000 by have:=HBD.out;omega)
    go_wp2
    go_roundw
    case rel=>exact ⟨j+1,z,s,SA,sn,sc,by omega,by go_num,HZN,HZB,HG8,HF8,HZ8,HS8,HB8⟩
    case measure=>simp [intOf];omega
   rcases HIX.out with ⟨h1,-⟩|⟨ic,hi,h1,-,-⟩
   ·have HZE:=Hd (show rowZ ⟨m,q,ks,hd,tl,ct,sm⟩ tag name ⟨rt,vs⟩=0 by rw [HRZ.out,if_pos (.inr (.inl (by rw [h1];decide)))])
    rw [h1]
    clear h1
    by_cases ht0:tag=⟨#[]⟩
    ·rw [decide_eq_true ht0] at hte
     clear hA ht0
     have HZN:=Hd (show Qa8 ⟨m,q,ks,hd,tl,ct,sm⟩ tag name rs (j+1)=z by rw [HSC.out,HZ0.out,HZE.out];exact Int.add_zero _)
     have HZB:=Hd (show -((j+1:Nat):Int)*1000000000000000000000000<=z/\z<=((j+1:Nat):Int)*1000000000000000000000000 by have:=HBD.out;omega)
     go_wp2
     go_roundw
     case rel=>exact ⟨j+1,z,s,SA,sn,sc,by omega,by go_num,HZN,HZB,HG8,HF8,HZ8,HS8,HB8⟩
     case measure=>simp [intOf];omega
    ·have ht1:rt=tag:=Classical.byContradiction fun k=>hA ⟨ht0,k⟩
     rw [decide_eq_false ht0] at hte
     rw [decide_eq_true ht1] at hrt
     clear hA ht0 ht1
     have HZN:=Hd (show Qa8 ⟨m,q,ks,hd,tl,ct,sm⟩ tag name rs (j+1)=z by rw [HSC.out,HZ0.out,HZE.out];exact Int.add_zero _)
     have HZB:=Hd (show -((j+1:Nat):Int)*1000000000000000000000000<=z/\z<=((j+1:Nat):Int)*1000000000000000000000000 by have:=HBD.out;omega)
     go_wp2
     go_roundw
     case rel=>exact ⟨j+1,z,s,SA,sn,sc,by omega,by go_num,HZN,HZB,HG8,HF8,HZ8,HS8,HB8⟩
     case measure=>simp [intOf];omega
   ·have hicv:ic<nv:=by rw [<- HNF.out];exact hi
    obtain ⟨b2,off2,rfl,hbw2,hcs⟩:=HRJ8.out.vals.cells (by show 0<vs.length;rw [HNV.out];omega)
    have s0:=hcs ic (by show ic<vs.length;rw [HNV.out];exact hicv)
    simp only at s0
    have hsz:=wd_size HRJ8.out.size ic
    simp only at hsz
    have HRZ2:=Hd (show rowZ ⟨m,q,ks,hd,tl,ct,sm⟩ tag name ⟨rt,vs⟩=if wd vs ic=⟨#[]⟩ then 0 else Qaz (Qag (wd vs ic).data.toList).1 (Qag (wd vs ic).data.toList).2.1 9 by
     rw [HRZ.out,h1,Int.toNat_natCast]
     by_cases h9:wd vs ic=⟨#[]⟩
     ·rw [if_pos h9,if_pos (.inr (.inr h9))]
     ·rw [if_neg h9,if_neg (by rintro (k | k | k);exact hA k;omega;exact h9 k)])
    obtain ⟨sv,hs⟩:=ex_ (wd vs ic)
    rw [hs] at s0 hsz HRZ2
    rw [h1]
    clear h1 hs hcs hi
    by_cases ht0:tag=⟨#[]⟩
    ·rw [decide_eq_true ht0] at hte
     clear hA ht0
     have hsv:=Qah sv
     by_cases h0:sv=⟨#[]⟩
     ·have HZE:=Hd (show rowZ ⟨m,q,ks,hd,tl,ct,sm⟩ tag name ⟨rt,vs⟩=0 by rw [HRZ2.out,if_pos h0])
      rw [decide_eq_true h0] at hsv
      clear h0
      have HZN:=Hd (show Qa8 ⟨m,q,ks,hd,tl,ct,sm⟩ tag name rs (j+1)=z by rw [HSC.out,HZ0.out,HZE.out];exact Int.add_zero _)
      have HZB:=Hd (show -((j+1:Nat):Int)*1000000000000000000000000<=z/\z<=((j+1:Nat):Int)*1000000000000000000000000 by have:=HBD.out;omega)
      go_wp2
      go_roundw
      case rel=>exact ⟨j+1,z,s,SA,sn,sc,by omega,by go_num,HZN,HZB,HG8,HF8,HZ8,HS8,HB8⟩
      case measure=>simp [intOf];omega
     rw [decide_eq_false h0] at hsv
     have HZE:=Hd (show rowZ ⟨m,q,ks,hd,tl,ct,sm⟩ tag name ⟨rt,vs⟩=Qaz (Qag sv.data.toList).1 (Qag sv.data.toList).2.1 9 by rw [HRZ2.out,if_neg h0])
     have hdc:=Qbz sv.data.toList
     have HRT:=Hd (fun w=>readtext_c sv w hsz)
     obtain ⟨⟨u,p,e⟩,hrd⟩:=ex_ (Qag sv.data.toList)
     rw [hrd] at HZE hdc HRT
     simp only at HZE hdc
     unfold RetD at HRT
     simp only at HRT
     have HDC:=Hd hdc
     have hbd:=scl_bd hdc
     have HSM:=Hd (show Small z from Qay (by have:=HBD.out;omega) (by have:=HBD.out;omega))
     have HSV:=Hd (show Small (Qaz u p 9) from Qay (by omega) (by omega))
     have HZN:=Hd (show Qa8 ⟨m,q,ks,hd,tl,ct,sm⟩ tag name rs (j+1)=z+Qaz u p 9 by rw [HSC.out,HZ0.out,HZE.out])
     have HZB:=Hd (show -((j+1:Nat):Int)*1000000000000000000000000<=z+Qaz u p 9/\z+Qaz u p 9<=((j+1:Nat):Int)*1000000000000000000000000 by have:=HBD.out;omega)
     clear h0 hrd hdc hbd
     go_wp2_with fail
     refine (HRT.out _).mono ?_
     rintro _ wc ⟨rfl,hbc⟩
     have HF9:=Hd (Qad (Qaa HF8.out hbc) (.cells #[.int .i64 u,.int .i64 p] 70));have HZ9:=Hd (Qad (Qaa HZ8.out hbc) (.cells #[.int .i64 u,.int .i64 p] 70));have HS9:=Hd (Qad (Qaa HS8.out hbc) (.cells #[.int .i64 u,.int .i64 p] 70))
     have HD9:=Hd (Qac wc (.cells #[.int .i64 u,.int .i64 p] 70) rfl)
     have hbc9:Below w8.heap.size w8 (wc.alloc (.cells #[.int .i64 u,.int .i64 p] 70)):=hbc.alloc hbc.size _
     have HG9:=Hd (HG8.out.below hbc9)
     have HB9:=Hd (Qab hbc9 HB8.out HB8.out.size)
     clear HF8 HZ8 HS8 HG8 HB8 r0 r1 r2 HR8 HRJ8 hbc hbc9 s0 hbw2
     go_upto_region 9 with fail
     obtain ⟨DB,hDB⟩:=ex_ (wc.heap.size)
     rw [hDB] at HD9
     try rw [hDB]
     generalize wc.alloc (.cells #[.int .i64 u,.int .i64 p] 70)=w8 at HF9 HZ9 HS9 HD9 HG9 HB9 ⊢
     clear hDB
     have HG8:=HG9
     have HSB:=Hd (show ∀ wx,Below w8.heap.size w8 wx->(fun w':World=>w'.cell? ⟨SB,0,none⟩=some (.bool s)/\w'.cell? ⟨SB,1,none⟩=some (.slice SA sn sc)/\w'.cell? ⟨DB,0,none⟩=some (.int .i64 u)/\w'.cell? ⟨DB,1,none⟩=some (.int .i64 p)) wx from fun wx h=>by
      obtain ⟨a0,a1,-,-,-⟩:=box2 (Qaa HS9.out h)
      obtain ⟨b0,b1,-,-,-⟩:=box2 (Qaa HD9.out h)
      exact ⟨a0,a1,b0,b1⟩)
     have hT:=HSB.out _ ((Below.refl _ _).drew)
     have hfz:w8.frozen? ⟨SB,0,none⟩=false/\w8.frozen? ⟨SB,1,none⟩=false:=⟨(box2 HS9.out).2.2.1,(box2 HS9.out).2.2.2.1⟩
     refine Qaq 4 (fun w':World=>w'.cell? ⟨SB,0,none⟩=some (.bool s)/\w'.cell? ⟨SB,1,none⟩=some (.slice SA sn sc)/\w'.cell? ⟨DB,0,none⟩=some (.int .i64 u)/\w'.cell? ⟨DB,1,none⟩=some (.int .i64 p)) (by kernel_rfl) ?_
     refine Till.tk (i:=0) (v:=?_) rfl [3] hT (Or.inl ⟨by rfl,?_⟩) ?_
     rotate_left
     ·(intro w' hw';obtain ⟨u1,u2,u3,u4⟩:=hw';go_simp;try with_reducible rfl)
     (try simp only [Act.put,Till.a,Till.b,Till.c])
     refine Till.tk (i:=1) (v:=?_) rfl [2,3] hT (Or.inl ⟨by rfl,?_⟩) ?_
     rotate_left
     ·(intro w' hw';obtain ⟨u1,u2,u3,u4⟩:=hw';go_simp;try with_reducible rfl)
     (try simp only [Act.put,Till.a,Till.b,Till.c])
     refine Till.step (i:=2) (by kernel_rfl) rfl ?_
     intro K hK
     go_simp
     (go_at_call 75;refine (value_c u p _ HDC.out).mono ?_;rintro _ wa ⟨sa,Aa,na,ca,rfl,hva,hba⟩;(have Ta:Below w8.heap.size w8 wa:=by exact ⟨hba.os,hba.tape,hba.output,hba.size,hba.block⟩))
     have hT:=HSB.out _ Ta
     refine hK.out _ _ (fun _=>hT) ?_
     clear hK K
     (try simp only [Act.put,Till.a,Till.b,Till.c])
     refine Till.step (i:=3) (by kernel_rfl) rfl ?_
     intro K hK
     go_simp
     (go_at_call 74;refine (plus_c _ (HG8.out.below Ta) hva HSM.out HSV.out).mono ?_;rintro _ wb ⟨sb,Ab,nb,cb,rfl,hvb,hbb⟩;(have Tb:Below w8.heap.size w8 wb:=Qab hbb Ta Ta.size))
     have hT:=HSB.out _ Tb
     refine hK.out _ _ (fun _=>hT) ?_
     clear hK K
     (try simp only [Act.put,Till.a,Till.b,Till.c])
     obtain ⟨-,-,fz0,fz1,-⟩:=box2 (Qaa HS9.out Tb)
     refine Till.step (i:=4) (by kernel_rfl) rfl ?_
     intro K hK
     go_simp
     refine hK.out _ _ (fun h=>absurd h (by decide)) ?_
     clear hK K
     (try simp only [Act.put,Till.a,Till.b,Till.c])
     refine Till.done (by kernel_rfl) ?_ _
     have HSb:=Hd (Qaa HS9.out Tb);have HFb:=Hd (Qaa HF9.out Tb);have HZb:=Hd (Qaa HZ9.out Tb)
     have HBb:=Hd (Qab Tb HB9.out HB9.out.size)
     have hNS1:w.heap.size≠SB/\w.heap.size+1≠SB/\w.heap.size<=SB:=by omega
     have HF10:=Hd (show ((wb.setCell ⟨SB,0,none⟩ (.bool sb)).setCell ⟨SB,1,none⟩ (.slice Ab nb cb)).heap[w.heap.size]?=_ from Qaf (Qaf HFb.out (p:=⟨SB,0,none⟩) hNS1.1 _) (p:=⟨SB,1,none⟩) hNS1.1 _)
     have HZ10:=Hd (show ((wb.setCell ⟨SB,0,none⟩ (.bool sb)).setCell ⟨SB,1,none⟩ (.slice Ab nb cb)).heap[w.heap.size+1]?=_ from Qaf (Qaf HZb.out (p:=⟨SB,0,none⟩) hNS1.2.1 _) (p:=⟨SB,1,none⟩) hNS1.2.1 _)
     have HS10:=Hd (show ((wb.setCell ⟨SB,0,none⟩ (.bool sb)).setCell ⟨SB,1,none⟩ (.slice Ab nb cb)).heap[SB]?=some (.cells #[.bool sb,.slice Ab nb cb] 106 (0,0)) from Qae (Qae HSb.out 0 _) 1 _)
     have HG10:=Hd (hvb.box2 HSb.out (by decide) (.bool sb) (.slice Ab nb cb))
     have HB10:=Hd ((HBb.out.setCell (p:=⟨SB,0,none⟩) hNS1.2.2 (.bool sb)).setCell (p:=⟨SB,1,none⟩) hNS1.2.2 (.slice Ab nb cb))
     go_wp2
     go_roundw
     case rel=>exact ⟨j+1,z+Qaz u p 9,sb,Ab,nb,cb,by omega,by go_num,HZN,HZB,HG10,HF10,HZ10,HS10,HB10⟩
     case measure=>simp [intOf];omega
    ·have ht1:rt=tag:=Classical.byContradiction fun k=>hA ⟨ht0,k⟩
     rw [decide_eq_false ht0] at hte
     rw [decide_eq_true ht1] at hrt
     clear hA ht0 ht1
     have hsv:=Qah sv
     by_cases h0:sv=⟨#[]⟩
     ·have HZE:=Hd (show rowZ ⟨m,q,ks,hd,tl,ct,sm⟩ tag name ⟨rt,vs⟩=0 by rw [HRZ2.out,if_pos h0])
      rw [decide_eq_true h0] at hsv
      clear h0
      have HZN:=Hd (show Qa8 ⟨m,q,ks,hd,tl,ct,sm⟩ tag name rs (j+1)=z by rw [HSC.out,HZ0.out,HZE.out];exact Int.add_zero _)
      have HZB:=Hd (show -((j+1:Nat):Int)*1000000000000000000000000<=z/\z<=((j+1:Nat):Int)*1000000000000000000000000 by have:=HBD.out;omega)
      go_wp2
      go_roundw
      case rel=>exact ⟨j+1,z,s,SA,sn,sc,by omega,by go_num,HZN,HZB,HG8,HF8,HZ8,HS8,HB8⟩
      case measure=>simp [intOf];omega
     rw [decide_eq_false h0] at hsv
     have HZE:=Hd (show rowZ ⟨m,q,ks,hd,tl,ct,sm⟩ tag name ⟨rt,vs⟩=Qaz (Qag sv.data.toList).1 (Qag sv.data.toList).2.1 9 by rw [HRZ2.out,if_neg h0])
     have hdc:=Qbz sv.data.toList
     have HRT:=Hd (fun w=>readtext_c sv w hsz)
     obtain ⟨⟨u,p,e⟩,hrd⟩:=ex_ (Qag sv.data.toList)
     rw [hrd] at HZE hdc HRT
     simp only at HZE hdc
     unfold RetD at HRT
     simp only at HRT
     have HDC:=Hd hdc
     have hbd:=scl_bd hdc
     have HSM:=Hd (show Small z from Qay (by have:=HBD.out;omega) (by have:=HBD.out;omega))
     have HSV:=Hd (show Small (Qaz u p 9) from Qay (by omega) (by omega))
     have HZN:=Hd (show Qa8 ⟨m,q,ks,hd,tl,ct,sm⟩ tag name rs (j+1)=z+Qaz u p 9 by rw [HSC.out,HZ0.out,HZE.out])
     have HZB:=Hd (show -((j+1:Nat):Int)*1000000000000000000000000<=z+Qaz u p 9/\z+Qaz u p 9<=((j+1:Nat):Int)*1000000000000000000000000 by have:=HBD.out;omega)
     clear h0 hrd hdc hbd
     go_wp2_with fail
     refine (HRT.out _).mono ?_
     rintro _ wc ⟨rfl,hbc⟩
     have HF9:=Hd (Qad (Qaa HF8.out hbc) (.cells #[.int .i64 u,.int .i64 p] 70));have HZ9:=Hd (Qad (Qaa HZ8.out hbc) (.cells #[.int .i64 u,.int .i64 p] 70));have HS9:=Hd (Qad (Qaa HS8.out hbc) (.cells #[.int .i64 u,.int .i64 p] 70))
     have HD9:=Hd (Qac wc (.cells #[.int .i64 u,.int .i64 p] 70) rfl)
     have hbc9:Below w8.heap.size w8 (wc.alloc (.cells #[.int .i64 u,.int .i64 p] 70)):=hbc.alloc hbc.size _
     have HG9:=Hd (HG8.out.below hbc9)
     have HB9:=Hd (Qab hbc9 HB8.out HB8.out.size)
     clear HF8 HZ8 HS8 HG8 HB8 r0 r1 r2 HR8 HRJ8 hbc hbc9 s0 hbw2
     go_upto_region 9 with fail
     obtain ⟨DB,hDB⟩:=ex_ (wc.heap.size)
     rw [hDB] at HD9
     try rw [hDB]
     generalize wc.alloc (.cells #[.int .i64 u,.int .i64 p] 70)=w8 at HF9 HZ9 HS9 HD9 HG9 HB9 ⊢
     clear hDB
     have HG8:=HG9
     have HSB:=Hd (show ∀ wx,Below w8.heap.size w8 wx->(fun w':World=>w'.cell? ⟨SB,0,none⟩=some (.bool s)/\w'.cell? ⟨SB,1,none⟩=some (.slice SA sn sc)/\w'.cell? ⟨DB,0,none⟩=some (.int .i64 u)/\w'.cell? ⟨DB,1,none⟩=some (.int .i64 p)) wx from fun wx h=>by
      obtain ⟨a0,a1,-,-,-⟩:=box2 (Qaa HS9.out h)
      obtain ⟨b0,b1,-,-,-⟩:=box2 (Qaa HD9.out h)
      exact ⟨a0,a1,b0,b1⟩)
     have hT:=HSB.out _ ((Below.refl _ _).drew)
     have hfz:w8.frozen? ⟨SB,0,none⟩=false/\w8.frozen? ⟨SB,1,none⟩=false:=⟨(box2 HS9.out).2.2.1,(box2 HS9.out).2.2.2.1⟩
     refine Qaq 4 (fun w':World=>w'.cell? ⟨SB,0,none⟩=some (.bool s)/\w'.cell? ⟨SB,1,none⟩=some (.slice SA sn sc)/\w'.cell? ⟨DB,0,none⟩=some (.int .i64 u)/\w'.cell? ⟨DB,1,none⟩=some (.int .i64 p)) (by kernel_rfl) ?_
     refine Till.tk (i:=0) (v:=?_) rfl [3] hT (Or.inl ⟨by rfl,?_⟩) ?_
     rotate_left
     ·(intro w' hw';obtain ⟨u1,u2,u3,u4⟩:=hw';go_simp;try with_reducible rfl)
     (try simp only [Act.put,Till.a,Till.b,Till.c])
     refine Till.tk (i:=1) (v:=?_) rfl [2,3] hT (Or.inl ⟨by rfl,?_⟩) ?_
     rotate_left
     ·(intro w' hw';obtain ⟨u1,u2,u3,u4⟩:=hw';go_simp;try with_reducible rfl)
     (try simp only [Act.put,Till.a,Till.b,Till.c])
     refine Till.step (i:=2) (by kernel_rfl) rfl ?_
     intro K hK
     go_simp
     (go_at_call 75;refine (value_c u p _ HDC.out).mono ?_;rintro _ wa ⟨sa,Aa,na,ca,rfl,hva,hba⟩;(have Ta:Below w8.heap.size w8 wa:=by exact ⟨hba.os,hba.tape,hba.output,hba.size,hba.block⟩))
     have hT:=HSB.out _ Ta
     refine hK.out _ _ (fun _=>hT) ?_
     clear hK K
     (try simp only [Act.put,Till.a,Till.b,Till.c])
     refine Till.step (i:=3) (by kernel_rfl) rfl ?_
     intro K hK
     go_simp
     (go_at_call 74;refine (plus_c _ (HG8.out.below Ta) hva HSM.out HSV.out).mono ?_;rintro _ wb ⟨sb,Ab,nb,cb,rfl,hvb,hbb⟩;(have Tb:Below w8.heap.size w8 wb:=Qab hbb Ta Ta.size))
     have hT:=HSB.out _ Tb
     refine hK.out _ _ (fun _=>hT) ?_
     clear hK K
     (try simp only [Act.put,Till.a,Till.b,Till.c])
     obtain ⟨-,-,fz0,fz1,-⟩:=box2 (Qaa HS9.out Tb)
     refine Till.step (i:=4) (by kernel_rfl) rfl ?_
     intro K hK
     go_simp
     refine hK.out _ _ (fun h=>absurd h (by decide)) ?_
     clear hK K
     (try simp only [Act.put,Till.a,Till.b,Till.c])
     refine Till.done (by kernel_rfl) ?_ _
     have HSb:=Hd (Qaa HS9.out Tb);have HFb:=Hd (Qaa HF9.out Tb);have HZb:=Hd (Qaa HZ9.out Tb)
     have HBb:=Hd (Qab Tb HB9.out HB9.out.size)
     have hNS1:w.heap.size≠SB/\w.heap.size+1≠SB/\w.heap.size<=SB:=by omega
     have HF10:=Hd (show ((wb.setCell ⟨SB,0,none⟩ (.bool sb)).setCell ⟨SB,1,none⟩ (.slice Ab nb cb)).heap[w.heap.size]?=_ from Qaf (Qaf HFb.out (p:=⟨SB,0,none⟩) hNS1.1 _) (p:=⟨SB,1,none⟩) hNS1.1 _)
     have HZ10:=Hd (show ((wb.setCell ⟨SB,0,none⟩ (.bool sb)).setCell ⟨SB,1,none⟩ (.slice Ab nb cb)).heap[w.heap.size+1]?=_ from Qaf (Qaf HZb.out (p:=⟨SB,0,none⟩) hNS1.2.1 _) (p:=⟨SB,1,none⟩) hNS1.2.1 _)
     have HS10:=Hd (show ((wb.setCell ⟨SB,0,none⟩ (.bool sb)).setCell ⟨SB,1,none⟩ (.slice Ab nb cb)).heap[SB]?=some (.cells #[.bool sb,.slice Ab nb cb] 106 (0,0)) from Qae (Qae HSb.out 0 _) 1 _)
     have HG10:=Hd (hvb.box2 HSb.out (by decide) (.bool sb) (.slice Ab nb cb))
     have HB10:=Hd ((HBb.out.setCell (p:=⟨SB,0,none⟩) hNS1.2.2 (.bool sb)).setCell (p:=⟨SB,1,none⟩) hNS1.2.2 (.slice Ab nb cb))
     go_wp2
     go_roundw
     case rel=>exact ⟨j+1,z+Qaz u p 9,sb,Ab,nb,cb,by omega,by go_num,HZN,HZB,HG10,HF10,HZ10,HS10,HB10⟩
     case measure=>simp [intOf];omega
  ·obtain rfl:j=nr:=by omega
   have HE:=Hd (show fewF z 9=R by rw [<- HZ0.out];exact HR.out)
   have HFE:=Hd (fewest_c wr 9 (by decide) HG.out (by have:=HBD.out;omega))
   rw [HE.out] at HFE
   obtain ⟨a0,a1,-,-,-⟩:=box2 HS.out
   go_wp2_with fail
   refine HFE.out.mono ?_
   rintro _ w9 ⟨rfl,hb9⟩
   have hR9:=Qaa HZ.out hb9
   have hB9:=Qab hb9 HB.out hzr
   obtain ⟨z0,z1,z2,z3,z5⟩:=box2 hR9
   go_wp2
   have hz9:((w9.setCell ⟨w.heap.size+1,0,none⟩ (.int .i64 R.1)).setCell ⟨w.heap.size+1,1,none⟩ (.int .i64 R.2.1)).heap[w.heap.size+1]?=some (.cells #[.int .i64 R.1,.int .i64 R.2.1] 70 (0,0)):=Qae (Qae hR9 0 _) 1 _
   obtain ⟨r0,r1,-,-,-⟩:=box2 hz9
   refine bodyPost_ret (v:=.tuple #[.agg #[.int .i64 R.1,.int .i64 R.2.1],.int .i64 R.2.2]) (by simp [results,Tryz.results41,go_sem,r0,r1]) rfl ⟨rfl,?_⟩
   exact (hB9.setCell (p:=⟨w.heap.size+1,0,none⟩) (by show w.heap.size<=w.heap.size+1;omega) _).setCell (p:=⟨w.heap.size+1,1,none⟩) (by show w.heap.size<=w.heap.size+1;omega) _
theorem sumof_c (f:Fmt) (A:Option Addr) (cp:Nat) (FA:Nat->Option Addr) (FC:Nat->Nat) (L:Option Addr) (LC:Nat) (rs:List RowP) (RA:Nat->Option Addr) (RC:Nat->Nat) (tag name:ByteArray) (w:World) (ho:Kinds w A f.kinds FA FC) (hl:RowsM w L rs RA RC) (hrk:∀ j,j<rs.length->RowK f (rA rs j)) (h2000:rs.length<=2000) :
  Calls Tryz.prog 41 #[fmtG f A cp,.slice L rs.length LC,.string tag,.string name] w (RetD (fewF (Qa8 f tag name rs rs.length) 9) w) :=
 sumofX_c f A cp FA FC L LC rs RA RC tag name w ho hl hrk (Nat.le_trans h2000 (by decide))
theorem told6_c (u p:Int) (w:World):Calls Tryz.prog 42 #[.agg #[.int .i64 u,.int .i64 p]] w fun e w'=>∃ s:ByteArray,e=.returned (.string s)/\s.data.toList=QbV u p/\Below w.heap.size w w':=by
 have HT:=Hd (fun w=>wtext_c u p w)
 have hD:=Qac w (.cells #[.int .i64 u,.int .i64 p] 70) rfl
 have HB:Hid (Below w.heap.size w (w.alloc (.cells #[.int .i64 u,.int .i64 p] 70))):=Hd (by go_grown)
 unfold RetST at HT
 go_enter Tryz.func42,Tryz.ntmps42
 obtain ⟨d0,d1,-,-,-⟩:=box2 hD
 go_wp2_with fail
 refine (HT.out _).mono ?_
 rintro _ w2 ⟨s,rfl,hs,hb2⟩
 have HS:=Hd hs
 have hB2:=Qab hb2 HB.out HB.out.size
 clear hs
 go_wp2
 go_ret
 exact ⟨s,rfl,HS.out,hB2⟩
theorem bs_of {s:ByteArray} {l:List UInt8} (h:s.data.toList=l):s=bs l:=by rw [<- h];exact (bs_self s).symm
theorem QbL {f:Fmt} (h:Qao f=0):Qbj f=0:=by
 unfold Qao at h
 repeat' split at h
 all_goals first | exact h | cases h | (exfalso;exact absurd h (by assumption))
theorem knd_kat (f:Fmt) (t:ByteArray):kndF f.kinds t=katK f t:=rfl
theorem endsF_out {f:Fmt} (h:Qbj f=0):(f.head≠⟨#[]⟩->0<=katI f f.head)/\(f.tail≠⟨#[]⟩->0<=katI f f.tail)/\(f.head=f.tail->f.head=⟨#[]⟩)/\(f.tail=⟨#[]⟩->f.count=⟨#[]⟩/\f.sum=⟨#[]⟩) /\
  (f.count≠⟨#[]⟩->0<=ixF (Qaj f.count) (katK f f.tail).fields)/\(f.sum≠⟨#[]⟩->0<=ixF (Qaj f.sum) (katK f f.tail).fields/\(cA (katK f f.tail).fields (ixF (Qaj f.sum) (katK f f.tail).fields).toNat).kind=2)/\(f.count=f.sum->f.count=⟨#[]⟩):=by
 unfold Qbj at h
 split at h;· cases h
 rename_i h1
 split at h;· cases h
 rename_i h2
 split at h;· cases h
 rename_i h3
 split at h;· cases h
 rename_i h4
 split at h;· cases h
 rename_i h5
 split at h;· cases h
 rename_i h6
 split at h;· cases h
 rename_i h7
 have ht:∀ name p,Qbs f.kinds f.tail name p=false->0<=ixF (Qaj name) (katK f f.tail).fields/\(cA (katK f f.tail).fields (ixF (Qaj name) (katK f f.tail).fields).toNat).kind=2:=by
  intro name p hh
  unfold Qbs colN at hh
  rw [knd_kat] at hh
  simp only [Bool.or_eq_false_iff,decide_eq_false_iff_not] at hh
  exact ⟨by omega,Classical.byContradiction hh.2.1⟩
 refine ⟨fun e=>?_,fun e=>?_,fun e=>?_,fun e=>?_,fun e=>?_,fun e=>?_,fun e=>?_⟩
 ·show 0<=ixF (Qav f.head) f.kinds
  exact Classical.byContradiction fun k=>h1 ⟨e,by omega⟩
 ·show 0<=ixF (Qav f.tail) f.kinds
  exact Classical.byContradiction fun k=>h2 ⟨e,by omega⟩
 ·exact Classical.byContradiction fun k=>h3 ⟨e,k⟩
 ·exact ⟨Classical.byContradiction fun k=>h4 ⟨e,.inl k⟩,Classical.byContradiction fun k=>h4 ⟨e,.inr k⟩⟩
 ·refine (ht f.count false ?_).1
  cases hb:Qbs f.kinds f.tail f.count false with
  | false=>rfl
  | true=>exact absurd ⟨e,hb⟩ h5
 ·refine ht f.sum true ?_
  cases hb:Qbs f.kinds f.tail f.sum true with
  | false=>rfl
  | true=>exact absurd ⟨e,hb⟩ h6
 ·exact Classical.byContradiction fun k=>h7 ⟨e,k⟩
theorem kat_at {f:Fmt} {t:ByteArray} (h:¬ katI f t<0):∃ k,k<f.kinds.length/\katI f t=(k:Int)/\katK f t=kA f.kinds k/\(kA f.kinds k).tag=t:=by
 rcases QaT (Qav t) f.kinds with ⟨e,-⟩|⟨k,hk,e,hit,-⟩
 ·exact absurd (show katI f t<0 by unfold katI;rw [e];decide) h
 ·have e':katI f t=(k:Int):=e
  unfold Qav at hit
  rw [kA_get hk] at hit
  refine ⟨k,hk,e',?_,of_decide_eq_true hit⟩
  unfold katK
  rw [if_neg h,e',Int.toNat_natCast]
theorem ix_lt {cs:List Col} {t:ByteArray} (h:0<=ixF (Qaj t) cs):(ixF (Qaj t) cs).toNat<cs.length/\(cA cs (ixF (Qaj t) cs).toNat).name=t:=by
 rcases QaT (Qaj t) cs with ⟨h1,-⟩|⟨k,hk,h1,h2,-⟩
 ·omega
 ·rw [h1]
  refine ⟨by simpa using hk,?_⟩
  rw [Int.toNat_natCast,<- Qbr hk]
  exact of_decide_eq_true h2
def endB (f:Fmt) (r:RowP):Bool:=(decide (f.head≠⟨#[]⟩)&&decide (r.tag=f.head))||(decide (f.tail≠⟨#[]⟩)&&decide (r.tag=f.tail))
def innL (f:Fmt) (rs:List RowP):List RowP:=rs.filter fun r=>!endB f r
theorem inn_app (f:Fmt) (a b:List RowP):innL f (a++b)=innL f a++innL f b:=List.filter_append ..
theorem inn_one (f:Fmt) (r:RowP):innL f [r]=if endB f r=true then [] else [r]:=by
 unfold innL
 cases h:endB f r<;>simp [h]
theorem take_rA {rs:List RowP} {j:Nat} (h:j<rs.length):rs.take (j+1)=rs.take j++[rA rs j]:=by
 rw [List.take_succ_eq_append_getElem h,rA_get h]
theorem inn_take {f:Fmt} {rs:List RowP} {j:Nat} (h:j<rs.length):innL f (rs.take (j+1))=innL f (rs.take j)++(if endB f (rA rs j)=true then [] else [rA rs j]):=by
 rw [take_rA h,inn_app,inn_one]
theorem inn_len (f:Fmt) (rs:List RowP):(innL f rs).length<=rs.length:=List.length_filter_le _ _
theorem rA_mem {rs:List RowP} {j:Nat} (h:j<rs.length):rA rs j∈rs:=by rw [<- rA_get h];exact List.getElem_mem h
theorem mem_rA {rs:List RowP} {r:RowP} (h:r∈rs):∃ j,j<rs.length/\rA rs j=r:=by
 obtain ⟨j,hj,e⟩:=List.getElem_of_mem h
 exact ⟨j,hj,by rw [<- rA_get hj,e]⟩
theorem inn_ok {f:Fmt} {rs:List RowP} (h:∀ j,j<rs.length->RowK f (rA rs j)):∀ j,j<(innL f rs).length->RowK f (rA (innL f rs) j):=fun j hj=>by
 have h1:=rA_mem hj
 obtain ⟨i,hi,e⟩:=mem_rA (List.mem_filter.1 h1).1
 rw [<- e]
 exact h i hi
def badB (f:Fmt) (r:RowP):Bool:=decide (0<=ixF (Qaj f.sum) (katK f r.tag).fields)&&decide ((cA (katK f r.tag).fields (ixF (Qaj f.sum) (katK f r.tag).fields).toNat).kind≠2)
def sumB (f:Fmt) (rs:List RowP):Bool:=decide (f.sum≠⟨#[]⟩)&&rs.any (badB f)
def QbM (f:Fmt) (rs:List RowP):Bool:=decide (0<rs.length)&&decide ((rA rs (rs.length-1)).tag=f.tail)
def QbZ (f:Fmt) (rs:List RowP):List RowP:=if QbM f rs=true then rs.take (rs.length-1) else rs
def Qbu (f:Fmt) (rs:List RowP):List ByteArray:=if QbM f rs=true then (rA rs (rs.length-1)).vals else List.replicate (katK f f.tail).fields.length ⟨#[]⟩
def sumD (f:Fmt) (l:List RowP):Int×Int×Int:=fewF (Qa8 f ⟨#[]⟩ f.sum l l.length) 9
def sumS (f:Fmt) (l:List RowP):ByteArray:=bs (QbV (sumD f l).1 (sumD f l).2.1)
def cntS (l:List RowP):ByteArray:=bs (Lib.itoa (l.length:Int))
def sumI (f:Fmt):Nat:=(ixF (Qaj f.sum) (katK f f.tail).fields).toNat
def cntI (f:Fmt):Nat:=(ixF (Qaj f.count) (katK f f.tail).fields).toNat
def tailV1 (f:Fmt) (rs:List RowP):List ByteArray:=if f.sum≠⟨#[]⟩ then (Qbu f rs).set (sumI f) (sumS f (innL f rs)) else Qbu f rs
def QbO (f:Fmt) (rs:List RowP):List ByteArray:=if f.count≠⟨#[]⟩ then (tailV1 f rs).set (cntI f) (cntS (innL f rs)) else tailV1 f rs
def tailP (f:Fmt) (rs:List RowP):RowP:=⟨f.tail,QbO f rs⟩
noncomputable def closedE (f:Fmt) (rs:List RowP):Int :=
 if Qao f≠0 then Qao f
 else if f.tail=⟨#[]⟩ then 9
 else if 2000<rs.length then 2
 else if (QbX f rs).2≠0 then (QbX f rs).2
 else if sumB f (innL f rs)=true then 6
 else if f.sum≠⟨#[]⟩/\(sumD f (innL f rs)).2.2≠0 then (sumD f (innL f rs)).2.2
 else if (rowF f (tailP f rs)).2≠0 then (rowF f (tailP f rs)).2
 else if 2000<(QbZ f rs).length+1 then 2
 else 0
def closedL (f:Fmt) (rs:List RowP):List RowP:=QbZ f rs++[tailP f rs]
noncomputable def closedR (f:Fmt) (rs:List RowP):List RowP×Int:=if closedE f rs≠0 then ([],closedE f rs) else (closedL f rs,0)
theorem rest_len (f:Fmt) (rs:List RowP):(QbZ f rs).length<=rs.length:=by
 unfold QbZ
 split
 ·rw [List.length_take];omega
 ·exact Nat.le_refl _
theorem rA_take {rs:List RowP} {n j:Nat} (h:j<n):rA (rs.take n) j=rA rs j:=by
 unfold rA
 rw [List.getD_eq_getElem?_getD,List.getD_eq_getElem?_getD,List.getElem?_take,if_pos h]
theorem rest_rA {f:Fmt} {rs:List RowP} {j:Nat} (h:j<(QbZ f rs).length):rA (QbZ f rs) j=rA rs j:=by
 unfold QbZ at h ⊢
 split
 ·rename_i hh
  rw [if_pos hh,List.length_take] at h
  exact rA_take (by omega)
 ·rfl
theorem end_tail {f:Fmt} {r:RowP} (ht:f.tail≠⟨#[]⟩) (h:r.tag=f.tail):endB f r=true:=by
 unfold endB
 rw [decide_eq_true ht,decide_eq_true h]
 simp
theorem inn_rest {f:Fmt} {rs:List RowP} (ht:f.tail≠⟨#[]⟩):innL f (QbZ f rs)=innL f rs:=by
 unfold QbZ
 cases h:QbM f rs with
 | false=>rw [if_neg (by decide)]
 | true=>
  rw [if_pos rfl]
  unfold QbM at h
  simp only [Bool.and_eq_true,decide_eq_true_eq] at h
  have h2:=inn_take (f:=f) (rs:=rs) (j:=rs.length-1) (by omega)
  rw [if_pos (end_tail ht h.2),List.append_nil,show rs.length-1+1=rs.length by omega,List.take_length] at h2
  exact h2.symm
theorem rA_last (l:List RowP) (r:RowP):rA (l++[r]) l.length=r:=by rw [rA_snoc,if_pos rfl]
theorem QbG {f:Fmt} {rs:List RowP} (h:(QbX f rs).2=0):∀ j,j<rs.length->(rowF f (rA rs j)).2=0:=frF_zero (g:=fun j=>(rowF f (rA rs j)).2) h
def underB (f:Fmt) (over:ByteArray):Nat->ByteArray->Bool
 | 0,_=>false
 | n+1,t=>if katI f t<0∨(katK f t).under=⟨#[]⟩ then false else if (katK f t).under=over then true else underB f over n (katK f t).under
def undB (f:Fmt) (t over:ByteArray):Bool:=underB f over f.kinds.length t
def QbH (f:Fmt) (rs:List RowP) (tag:ByteArray):Nat->Int
 | 0=>-1
 | k+1=>if (rA rs k).tag=tag then (k:Int) else if undB f (rA rs k).tag tag=false then -1 else QbH f rs tag k
def manyN (rs:List RowP) (tag:ByteArray) (fr:Nat):Nat->Nat
 | 0=>0
 | n+1=>manyN rs tag fr n+(if (rA rs (fr+n)).tag=tag then 1 else 0)
def fromI (f:Fmt) (rs:List RowP) (i:Nat):Int:=if (katK f (rA rs i).tag).under=⟨#[]⟩ then 0 else QbH f rs (katK f (rA rs i).tag).under i
def rowO (f:Fmt) (rs:List RowP) (i:Nat):Int :=
 if f.head≠⟨#[]⟩/\(decide ((rA rs i).tag=f.head)≠decide (i=0)) then 8
 else if f.tail≠⟨#[]⟩/\(rA rs i).tag=f.tail/\i≠rs.length-1 then 8
 else if fromI f rs i<0 then 8
 else if (katK f (rA rs i).tag).most=0 then 0
 else if (katK f (rA rs i).tag).most<(manyN rs (rA rs i).tag (fromI f rs i).toNat (i+1-(fromI f rs i).toNat):Int) then 2
 else 0
noncomputable def ordR (f:Fmt) (rs:List RowP):Int×Int :=
 if (QbX f rs).2≠0 then QbX f rs
 else if (frF (rowO f rs) rs.length).2≠0 then frF (rowO f rs) rs.length
 else if f.tail≠⟨#[]⟩/\QbM f rs=false then ((rs.length:Int),8)
 else (0,0)
noncomputable def ordF (f:Fmt) (rs:List RowP):Int×Int:=if Qao f≠0 then (0,Qao f) else ordR f rs
noncomputable def totF (f:Fmt) (rs:List RowP):Int×Int :=
 if (ordF f rs).2≠0 then (0,(ordF f rs).2)
 else if f.tail=⟨#[]⟩ then (0,9)
 else if f.count≠⟨#[]⟩/\wd (rA rs (rs.length-1)).vals (cntI f)≠cntS (innL f rs) then (0,12)
 else if f.sum=⟨#[]⟩ then (0,0)
 else if sumB f (innL f rs)=true then (1,6)
 else if (sumD f (innL f rs)).2.2≠0 then (1,(sumD f (innL f rs)).2.2)
 else if wd (rA rs (rs.length-1)).vals (sumI f)≠sumS f (innL f rs) then (1,12)
 else (0,0)
theorem tail0_len {f:Fmt} {rs:List RowP} (h:(QbX f rs).2=0):(Qbu f rs).length=(katK f f.tail).fields.length:=by
 unfold Qbu
 split
 ·rename_i hh
  unfold QbM at hh
  simp only [Bool.and_eq_true,decide_eq_true_eq] at hh
  have:=(QbY (QbG h (rs.length-1) (by omega))).many
  rw [this,hh.2]
 ·simp
theorem ystrV_get {L:List ByteArray} {j:Nat} (h:j<L.length):(Qbv L)[j]?=some (.string (wd L j)):=by
 unfold Qbv wd;simp [List.getD_eq_getElem?_getD,h]
theorem ystrV_len (L:List ByteArray):(Qbv L).length=L.length:=by unfold Qbv;simp
theorem ystrV_one (L:List ByteArray):∀ u∈Qbv L,u.oneCell'=true:=by
 intro u hu;unfold Qbv at hu;obtain ⟨y,-,rfl⟩:=List.mem_map.1 hu;rfl
theorem rowsV_one (n:Nat) (l:List RowP) (RA:Nat->Option Addr) (RC:Nat->Nat):∀ u∈QaL 2 n (rowV l RA RC),u.oneCell'=true:=by
 intro u hu
 unfold QaL at hu
 obtain ⟨j,-,hj⟩:=List.mem_flatMap.1 hu
 obtain ⟨i,-,rfl⟩:=List.mem_map.1 hj
 unfold rowV
 split<;>rfl
theorem lit_own (w:World) (T:TypeId) (k:Nat):(w.alloc (.cells #[] T)).ownsRow w.heap.size T k (.slice (some ⟨w.heap.size,0,none⟩) 0 0) 0 []:=World.ownsRow_lit w #[] 0 (Nat.le_refl _) (by unfold maxLen;omega) (by simp)
def RetCS (L:List ByteArray) (w:World) (e:Ending) (w':World):Prop:=∃ X d,e=.returned (.slice X L.length d)/\w'.ownsRow w.heap.size 9 1 (.slice X L.length d) L.length (Qbv L)/\Below w.heap.size w w'
theorem cloneS_c (L:List ByteArray) (A:Option Addr) (c:Nat) (w:World) (hs:Svs w A L) (hz:L.length<=1000000) :
  Calls Tryz.prog 46 #[.slice A L.length c] w (RetCS L w):=by
 obtain ⟨i0,hi⟩:∃ i,Tryz.prog.info? 9=some i:=⟨_,rfl⟩
 have hz0:i0.zero=some (.string ⟨#[]⟩):=by obtain rfl:=Option.some.inj (hi.symm.trans rfl);rfl
 have hz1:i0.size=1:=by obtain rfl:=Option.some.inj (hi.symm.trans rfl);rfl
 have hz2:i0.bytes=16:=by obtain rfl:=Option.some.inj (hi.symm.trans rfl);rfl
 obtain ⟨n,hn⟩:=ex_ (L.length)
 have HN:=Hd hn
 unfold RetCS
 rw [hn] at hz ⊢
 clear hn
 have HS:=Hd hs
 clear hs
 cases A with
 | none=>
  have h0:n=0:=by
   rcases Nat.eq_zero_or_pos n with h | h
   ·exact h
   ·obtain ⟨b,off,e,-⟩:=HS.out (by rw [HN.out];exact h)
    cases e
  subst h0
  have hl0:L=[]:=List.length_eq_zero_iff.1 HN.out
  have hnil:∀ w,(binOp .eql 47 (.slice none 0 c) (.slice none 0 0)).run Tryz.prog w=.ok (.bool true) w:=fun w=>Lib.run_eql_slice_nil w _ _ _ _ _ _ _ Tryz.underlying47
  go_enter Tryz.func46,Tryz.ntmps46
  go_wp2
  go_ret
  refine ⟨none,0,rfl,?_,Below.refl _ _⟩
  rw [hl0]
  exact World.ownsRow_nil _ _ _ _
 | some a=>
  have hnil:∀ w,(binOp .eql 47 (.slice (some a) n c) (.slice none 0 0)).run Tryz.prog w=.ok (.bool false) w:=fun w=>Lib.run_eql_slice_nil w _ _ _ _ _ _ _ Tryz.underlying47
  go_enter Tryz.func46,Tryz.ntmps46
  go_wp2_with (first
   | (at_builtin;refine wpList_zapp rfl _ _ 47 rfl w.heap.size 9 i0 (.string ⟨#[]⟩) 1 16 Tryz.underlying47 hi hz0 hz1 hz2 rfl (by omega) (some ⟨w.heap.size,0,none⟩) 0 0 [] rfl (lit_own w 9 1) (some a) n c (Qbv L) ?c1 rfl ?c2 (ystrV_one L) ?c3 ?c4 ?c5 ?_))
  case c1=>rw [ystrV_len,HN.out];omega
  case c2=>
   intro hp
   obtain ⟨b,off,e,hb,hc⟩:=HS.out (by rw [HN.out];exact hp)
   refine ⟨b,off,e,fun j u hj=>?_⟩
   have hlt:j<L.length:=by
    rcases Nat.lt_or_ge j L.length with h | h
    ·exact h
    ·rw [List.getElem?_eq_none (by rw [ystrV_len];exact h)] at hj;cases hj
   rw [ystrV_get hlt] at hj
   cases hj
   exact (World.cell?_alloc_some w _ _ (by rw [hc j hlt];rfl)).trans (hc j hlt)
  case c3=>unfold maxLen;omega
  case c4=>omega
  case c5=>simp
  intro X d w1 hown hg
  have hb:Below w.heap.size w w1:=((Below.refl _ _).alloc (Nat.le_refl _) _).grown hg (by simp) (by intro k hk;simp [Value.ownBlock] at hk;omega)
  try rw [Nat.zero_add] at hown
  try rw [List.nil_append] at hown
  have HO:=Hd hown
  clear hg hown
  try rw [Nat.zero_add]
  go_wp2
  go_ret
  exact ⟨X,d,by first | rfl | simp,HO.out,hb⟩
def RetCR (l:List RowP) (RA:Nat->Option Addr) (RC:Nat->Nat) (w:World) (e:Ending) (w':World):Prop:=∃ X d,e=.returned (.slice X l.length d)/\w'.ownsRow w.heap.size 49 2 (.slice X l.length d) l.length (QaL 2 l.length (rowV l RA RC))/\Below w.heap.size w w'
theorem cloneR_c (l:List RowP) (RA:Nat->Option Addr) (RC:Nat->Nat) (A:Option Addr) (c:Nat) (w:World) (hs:Rws w A 2 l.length (rowV l RA RC)) (hz:l.length<=1000000) :
  Calls Tryz.prog 51 #[.slice A l.length c] w (RetCR l RA RC w):=by
 obtain ⟨i0,hi,hz0,hz1,hz2⟩:=info_parts Tryz.infoRow
 obtain ⟨n,hn⟩:=ex_ (l.length)
 unfold RetCR
 rw [hn] at hz hs ⊢
 have HN:=Hd hn
 clear hn
 have HS:=Hd hs
 clear hs
 cases A with
 | none=>
  have h0:n=0:=by
   rcases Nat.eq_zero_or_pos n with h | h
   ·exact h
   ·obtain ⟨b,off,e,-⟩:=HS.out h
    cases e
  subst h0
  have hnil:∀ w,(binOp .eql 25 (.slice none 0 c) (.slice none 0 0)).run Tryz.prog w=.ok (.bool true) w:=fun w=>Lib.run_eql_slice_nil w _ _ _ _ _ _ _ Tryz.underlying25
  go_enter Tryz.func51,Tryz.ntmps51
  go_wp2
  go_ret
  exact ⟨none,0,rfl,World.ownsRow_nil _ _ _ _,Below.refl _ _⟩
 | some a=>
  have hnil:∀ w,(binOp .eql 25 (.slice (some a) n c) (.slice none 0 0)).run Tryz.prog w=.ok (.bool false) w:=fun w=>Lib.run_eql_slice_nil w _ _ _ _ _ _ _ Tryz.underlying25
  go_enter Tryz.func51,Tryz.ntmps51
  go_wp2_with (first
   | (at_builtin;refine wpList_zapp rfl _ _ 25 rfl w.heap.size 49 i0 (.agg #[.string ⟨#[]⟩,.slice none 0 0]) 2 40 Tryz.underlying25 hi hz0 hz1 hz2 rfl (by omega) (some ⟨w.heap.size,0,none⟩) 0 0 [] rfl (lit_own w 49 2) (some a) n c (QaL 2 n (rowV l RA RC)) ?c1 rfl ?c2 (rowsV_one n l RA RC) ?c3 ?c4 ?c5 ?_))
  case c1=>exact Qa9 _ _ _
  case c2=>
   intro hp
   obtain ⟨b,off,e,hb,hc⟩:=HS.out hp
   refine ⟨b,off,e,fun j u hj=>?_⟩
   have hlt:j<n*2:=by
    rcases Nat.lt_or_ge j (n*2) with h | h
    ·exact h
    ·rw [List.getElem?_eq_none (by rw [Qa9];exact h)] at hj;cases hj
   have hj2:j/2*2+j%2=j:=by omega
   have h1:=Qby (k:=2) (f:=rowV l RA RC) (n:=n) (j:=j/2) (i:=j%2) (by omega) (by omega)
   rw [hj2] at h1
   have h2:=hc (j/2) (by omega) (j%2) (by omega)
   rw [Nat.add_assoc,hj2] at h2
   have h3:u=rowV l RA RC (j/2) (j%2):=Option.some.inj (hj.symm.trans h1)
   rw [h3]
   exact (World.cell?_alloc_some w _ _ (by rw [h2];rfl)).trans h2
  case c3=>unfold maxLen;omega
  case c4=>omega
  case c5=>simp
  intro X d w1 hown hg
  have hb:Below w.heap.size w w1:=((Below.refl _ _).alloc (Nat.le_refl _) _).grown hg (by simp) (by intro k hk;simp [Value.ownBlock] at hk;omega)
  try rw [Nat.zero_add] at hown
  try rw [List.nil_append] at hown
  have HO:=Hd hown
  clear hg hown
  try rw [Nat.zero_add]
  go_wp2
  go_ret
  exact ⟨X,d,by first | rfl | simp,HO.out,hb⟩
def RwsI (w1 wr:World) (X:Option Addr) (n c:Nat) (l:List RowP):Prop :=
 ∃ (RA:Nat->Option Addr) (RC:Nat->Nat),l.length=n/\wr.ownsRow w1.heap.size 49 2 (.slice X n c) n (QaL 2 n (rowV l RA RC))/\(∀ j,j<l.length->∀ wx,Below w1.heap.size w1 wx->RowM wx (rA l j) (RA j) (RC j))/\Below w1.heap.size w1 wr
theorem RwsI.nil (w1:World) {wr:World} (hb:Below w1.heap.size w1 wr):RwsI w1 wr none 0 0 []:=⟨fun _=>none,fun _=>0,rfl,World.ownsRow_nil _ _ _ _,fun j hj=>absurd hj (Nat.not_lt_zero _),hb⟩
theorem RwsI.bel {w1 wr:World} {X:Option Addr} {n c:Nat} {l:List RowP} (h:RwsI w1 wr X n c l):Below w1.heap.size w1 wr:=by obtain ⟨_,_,_,_,_,hb⟩:=h;exact hb
theorem RwsI.len {w1 wr:World} {X:Option Addr} {n c:Nat} {l:List RowP} (h:RwsI w1 wr X n c l):l.length=n:=by obtain ⟨_,_,h,_⟩:=h;exact h
theorem RwsI.below {w1 wr w':World} {X:Option Addr} {n c:Nat} {l:List RowP} (h:RwsI w1 wr X n c l) (hb:Below wr.heap.size wr w'):RwsI w1 w' X n c l:=by
 obtain ⟨RA,RC,h1,h2,h3,h4⟩:=h
 exact ⟨RA,RC,h1,QaM h2 hb,h3,Qab hb h4 h4.size⟩
theorem RwsI.rowsM {w1 wr:World} {X:Option Addr} {n c:Nat} {l:List RowP} (h:RwsI w1 wr X n c l):∃ RA RC,RowsM wr X l RA RC:=by
 obtain ⟨RA,RC,h1,h2,h3,h4⟩:=h
 have hc:=Qal h2
 subst h1
 exact ⟨RA,RC,own_rwsK h2,fun j hj=>h3 j hj _ h4,by have:=hc.1;have:=hc.2;unfold maxLen at *;omega⟩
theorem RwsI.push {w1 wr w':World} {X X' A:Option Addr} {n c c' d:Nat} {l:List RowP} {r:RowP} {RA:Nat->Option Addr} {RC:Nat->Nat} (h1:l.length=n) (h2:wr.ownsRow w1.heap.size 49 2 (.slice X n c) n (QaL 2 n (rowV l RA RC))) (h3:∀ j,j<l.length->∀ wx,Below w1.heap.size w1 wx->RowM wx (rA l j) (RA j) (RC j)) (h4:Below w1.heap.size w1 wr) (hr:∀ wx,Below w1.heap.size w1 wx->RowM wx r A d)
  (ho:w'.ownsRow w1.heap.size 49 2 (.slice X' (n+1) c') (n+1) (QaL 2 n (rowV l RA RC)++rwL r A d)) (hg:wr.grownBy w' (Value.slice X n c).ownBlock):RwsI w1 w' X' (n+1) c' (l++[r]):=by
 subst h1
 refine ⟨kndA RA l.length A,kndN RC l.length d,by simp,by rw [<- rwL_rows];exact ho,fun j hj wx hx=>?_,h4.grown hg h4.size (fun j hj=>(h2.lt j hj).1)⟩
 rw [rA_snoc]
 unfold kndA kndN
 by_cases hj2:j=l.length
 ·rw [if_pos hj2,if_pos hj2,if_pos hj2]
  exact hr wx hx
 ·rw [if_neg hj2,if_neg hj2,if_neg hj2]
  have hjl:j<l.length:=by simp at hj;omega
  exact h3 j hjl wx hx
def RetIn (l:List RowP) (w:World) (e:Ending) (w':World):Prop:=∃ X c RA RC,e=.returned (.slice X l.length c)/\RowsM w' X l RA RC/\Below w.heap.size w w'
theorem innerX_c (f:Fmt) (A:Option Addr) (cp:Nat) (L:Option Addr) (LC:Nat) (rs:List RowP) (RA:Nat->Option Addr) (RC:Nat->Nat) (w:World) (hl:RowsM w L rs RA RC) (h2000:rs.length*40<=140737488355328) :
  Calls Tryz.prog 39 #[fmtG f A cp,.slice L rs.length LC] w (RetIn (innL f rs) w):=by
 obtain ⟨i0,hi,hz0,hz1,hz2⟩:=info_parts Tryz.infoRow
 have HLM:=Hd hl
 have HNX0:=Hd (fun j (h:j<rs.length)=>inn_take (f:=f) h)
 have HEB0:=Hd (show ∀ r,endB f r=((!decide (f.head=⟨#[]⟩)&&decide (r.tag=f.head))||(!decide (f.tail=⟨#[]⟩)&&decide (r.tag=f.tail))) from fun r=>by unfold endB;simp)
 have HLE:=Hd (fun j=>Nat.le_trans (inn_len f (rs.take j)) (List.length_take_le j rs))
 have HEND:=Hd (show innL f (rs.take rs.length)=innL f rs by rw [List.take_length])
 unfold RetIn
 obtain ⟨R,hR⟩:=ex_ (innL f rs)
 obtain ⟨IN,hIN⟩:∃ x:Nat->List RowP,(fun j=>innL f (rs.take j))=x:=⟨_,rfl⟩
 have hINa:∀ j,innL f (rs.take j)=IN j:=fun j=>by rw [<- hIN]
 obtain ⟨EB,hEB⟩:=ex_ (endB f)
 have HN1:=Hd (show ∀ j,j<rs.length->IN (j+1)=IN j++(if EB (rA rs j)=true then [] else [rA rs j]) from fun j h=>by rw [<- hINa,<- hINa,<- hEB];exact HNX0.out j h)
 have HE1:=Hd (show ∀ r,EB r=((!decide (f.head=⟨#[]⟩)&&decide (r.tag=f.head))||(!decide (f.tail=⟨#[]⟩)&&decide (r.tag=f.tail))) from fun r=>by rw [<- hEB];exact HEB0.out r)
 have HL1:=Hd (show ∀ j,(IN j).length<=j from fun j=>by rw [<- hINa];exact HLE.out j)
 have HR:=Hd (show IN rs.length=R by rw [<- hINa,HEND.out,hR])
 have HZ:=Hd (show IN 0=[] by rw [<- hINa];rfl)
 rw [hR]
 clear hR hIN hINa hEB HNX0 HEB0 HLE HEND hl
 obtain ⟨fm,fq,fks,hd,tl,ct,sm⟩:=f
 unfold fmtG
 simp only at HE1 ⊢
 obtain ⟨nk,hnk⟩:=ex_ (fks.length)
 obtain ⟨nr,hnr⟩:=ex_ (rs.length)
 have HNR:=Hd hnr
 rw [hnk]
 rw [hnr] at h2000 HN1 HR ⊢
 clear hnk hnr
 have hP:=Qac w (.cells #[.int .u8 fm,.int .u8 fq,.slice A nk cp,.string hd,.string tl,.string ct,.string sm] 24) rfl
 have hB1:Below w.heap.size w (w.alloc (.cells #[.int .u8 fm,.int .u8 fq,.slice A nk cp,.string hd,.string tl,.string ct,.string sm] 24)):=by go_grown
 go_enter Tryz.func39,Tryz.ntmps39
 go_upto_region 1 with fail
 generalize w.alloc (.cells #[.int .u8 fm,.int .u8 fq,.slice A nk cp,.string hd,.string tl,.string ct,.string sm] 24)=w1 at hP hB1 ⊢
 have HW:=Hd (show ∀ wx,Below w1.heap.size w1 wx->wx.heap[w.heap.size]?=some (.cells #[.int .u8 fm,.int .u8 fq,.slice A nk cp,.string hd,.string tl,.string ct,.string sm] 24 (0,0))/\RowsM wx L rs RA RC/\Below w.heap.size w wx from fun wx h=>by
  have h2:=Qab h hB1 hB1.size
  exact ⟨Qaa hP h,HLM.out.below h2,h2⟩)
 clear hP hB1
 go_wp2_with fail
 go_loopw [10,5] (fun i o wr=>∃ (j:Nat) (X:Option Addr) (n c:Nat),j<=nr/\i=.int .i64 j/\o=.slice X n c/\n<=j/\Hid (RwsI w1 wr X n c (IN j))) (fun i o _=>nr-(intOf i).toNat)
 case atStart=>exact ⟨0,none,0,0,by omega,rfl,rfl,by omega,Hd (by rw [HZ.out];exact RwsI.nil w1 (Below.refl _ _))⟩
 case round=>
  obtain ⟨j,X,n,c,hj,rfl,rfl,hn,HO⟩:=hrel
  rcases Nat.lt_or_ge j nr with hlt | hge
  ·have hjl:j<rs.length:=by rw [HNR.out];exact hlt
   obtain ⟨q1,ql,qb⟩:=HW.out _ HO.out.bel
   obtain ⟨b,off,rfl,hbk,c0,c1⟩:=ql.cells hjl
   have HRJ:=Hd (fun wx h=>(HW.out wx h).2.1.each j hjl)
   have HNX:=Hd (HN1.out j hlt)
   have HEB:=Hd (HE1.out (rA rs j))
   obtain ⟨r,hr⟩:=ex_ (rA rs j)
   rw [hr] at c0 c1 HRJ HNX HEB
   generalize RA j=RJ at c1 HRJ
   generalize RC j=CJ at c1 HRJ
   obtain ⟨rt,vs⟩:=r
   simp only at c0 c1 HEB
   obtain ⟨nv,hnv⟩:=ex_ (vs.length)
   have HNV:=Hd hnv
   rw [hnv] at c1
   have HRD:=Hd (Qac wr (.cells #[.string rt,.slice RJ nv CJ] 49) rfl)
   have hbd:Below wr.heap.size wr (wr.alloc (.cells #[.string rt,.slice RJ nv CJ] 49)):=by go_grown
   have HO2:=Hd (HO.out.below hbd)
   clear hr hnv hjl q1 ql qb
   go_upto_region 5 with fail
   obtain ⟨rb,hrb⟩:=ex_ (wr.heap.size)
   rw [hrb] at HRD
   try rw [hrb]
   generalize wr.alloc (.cells #[.string rt,.slice RJ nv CJ] 49)=w2 at HRD HO2 ⊢
   clear hrb c0 c1 hbk hbd HO
   obtain ⟨q1,-,-⟩:=HW.out _ HO2.out.bel
   obtain ⟨⟨p0,p1,p2,p3,p4,p5,p6⟩,-⟩:=Qai q1
   obtain ⟨r0,r1,-,-,-⟩:=box2 HRD.out
   have hz2w:=HO2.out.bel.size
   obtain ⟨RA8,RC8,g1,g2,g3,g4⟩:=HO2.out
   have G1:=Hd g1;have G2:=Hd g2;have G3:=Hd g3;have G4:=Hd g4
   clear g1 g2 g3 g4 q1
   have e1:=Qah hd
   have e2:=Qap rt hd
   have e3:=Qah tl
   have e4:=Qap rt tl
   by_cases k1:hd=⟨#[]⟩
   ·rw [decide_eq_true k1] at e1
    have Bk1:=Hd (decide_eq_true k1)
    clear k1
    by_cases k3:tl=⟨#[]⟩
    ·rw [decide_eq_true k3] at e3
     have Bk3:=Hd (decide_eq_true k3)
     clear k3
     have HI2:=Hd (show IN (j+1)=IN j++[⟨rt,vs⟩] by rw [HNX.out,HEB.out,Bk1.out,Bk3.out];rfl)
     go_upto_region 7 with (at_builtin;refine QbN rfl _ _ 25 rfl w1.heap.size 49 i0 (.agg #[.string ⟨#[]⟩,.slice none 0 0]) 2 40 Tryz.underlying25 hi hz0 hz1 hz2 rfl (by decide) (.slice X n c) n (QaL 2 n (rowV (IN j) RA8 RC8)) rfl G2.out [.string rt,.slice RJ nv CJ] rfl rfl (by intro u hu;simp at hu;rcases hu with rfl | rfl<;>rfl) (by unfold maxLen;omega) (by omega) hz2w ?_;intro X9 c9 w9 hown9 hg9)
     have HO9:=Hd (show RwsI w1 w9 X9 (n+1) c9 (IN (j+1)) by
      rw [HI2.out]
      refine RwsI.push G1.out G2.out G3.out G4.out HRJ.out ?_ hg9
      unfold rwL
      simp only
      rw [HNV.out]
      exact hown9)
     clear hown9 hg9
     go_wp2
     go_roundw
     case rel=>first | exact ⟨j+1,X9,n+1,c9,by omega,by go_num,rfl,by omega,HO9⟩ | ((repeat apply Exists.intro);exact ⟨⟨j+1,X9,n+1,c9,by omega,by go_num,rfl,by omega,HO9⟩,rfl⟩)
     case measure=>simp [intOf];omega
    ·rw [decide_eq_false k3] at e3
     have Bk3:=Hd (decide_eq_false k3)
     clear k3
     by_cases k4:rt=tl
     ·rw [decide_eq_true k4] at e4
      have Bk4:=Hd (decide_eq_true k4)
      clear k4
      have HI2:=Hd (show IN (j+1)=IN j by rw [HNX.out,HEB.out,Bk1.out,Bk3.out,Bk4.out];exact List.append_nil _)
      have HO9:=Hd (show RwsI w1 w2 X n c (IN (j+1)) by rw [HI2.out];exact HO2.out)
      go_wp2
      go_roundw
      case rel=>first | exact ⟨j+1,X,n,c,by omega,by go_num,rfl,by omega,HO9⟩ | ((repeat apply Exists.intro);exact ⟨⟨j+1,X,n,c,by omega,by go_num,rfl,by omega,HO9⟩,rfl⟩)
      case measure=>simp [intOf];omega
     ·rw [decide_eq_false k4] at e4
      have Bk4:=Hd (decide_eq_false k4)
      clear k4
      have HI2:=Hd (show IN (j+1)=IN j++[⟨rt,vs⟩] by rw [HNX.out,HEB.out,Bk1.out,Bk3.out,Bk4.out];rfl)
      go_upto_region 7 with (at_builtin;refine QbN rfl _ _ 25 rfl w1.heap.size 49 i0 (.agg #[.string ⟨#[]⟩,.slice none 0 0]) 2 40 Tryz.underlying25 hi hz0 hz1 hz2 rfl (by decide) (.slice X n c) n (QaL 2 n (rowV (IN j) RA8 RC8)) rfl G2.out [.string rt,.slice RJ nv CJ] rfl rfl (by intro u hu;simp at hu;rcases hu with rfl | rfl<;>rfl) (by unfold maxLen;omega) (by omega) hz2w ?_;intro X9 c9 w9 hown9 hg9)
      have HO9:=Hd (show RwsI w1 w9 X9 (n+1) c9 (IN (j+1)) by
       rw [HI2.out]
       refine RwsI.push G1.out G2.out G3.out G4.out HRJ.out ?_ hg9
       unfold rwL
       simp only
       rw [HNV.out]
       exact hown9)
      clear hown9 hg9
      go_wp2
      go_roundw
      case rel=>first | exact ⟨j+1,X9,n+1,c9,by omega,by go_num,rfl,by omega,HO9⟩ | ((repeat apply Exists.intro);exact ⟨⟨j+1,X9,n+1,c9,by omega,by go_num,rfl,by omega,HO9⟩,rfl⟩)
      case measure=>simp [intOf];omega
   ·rw [decide_eq_false k1] at e1
    have Bk1:=Hd (decide_eq_false k1)
    clear k1
    by_cases k2:rt=hd
    ·rw [decide_eq_true k2] at e2
     have Bk2:=Hd (decide_eq_true k2)
     clear k2
     have HI2:=Hd (show IN (j+1)=IN j by rw [HNX.out,HEB.out,Bk1.out,Bk2.out];exact List.append_nil _)
     have HO9:=Hd (show RwsI w1 w2 X n c (IN (j+1)) by rw [HI2.out];exact HO2.out)
     go_wp2
     go_roundw
     case rel=>first | exact ⟨j+1,X,n,c,by omega,by go_num,rfl,by omega,HO9⟩ | ((repeat apply Exists.intro);exact ⟨⟨j+1,X,n,c,by omega,by go_num,rfl,by omega,HO9⟩,rfl⟩)
     case measure=>simp [intOf];omega
    ·rw [decide_eq_false k2] at e2
     have Bk2:=Hd (decide_eq_false k2)
     clear k2
     by_cases k3:tl=⟨#[]⟩
     ·rw [decide_eq_true k3] at e3
      have Bk3:=Hd (decide_eq_true k3)
      clear k3
      have HI2:=Hd (show IN (j+1)=IN j++[⟨rt,vs⟩] by rw [HNX.out,HEB.out,Bk1.out,Bk2.out,Bk3.out];rfl)
      go_upto_region 7 with (at_builtin;refine QbN rfl _ _ 25 rfl w1.heap.size 49 i0 (.agg #[.string ⟨#[]⟩,.slice none 0 0]) 2 40 Tryz.underlying25 hi hz0 hz1 hz2 rfl (by decide) (.slice X n c) n (QaL 2 n (rowV (IN j) RA8 RC8)) rfl G2.out [.string rt,.slice RJ nv CJ] rfl rfl (by intro u hu;simp at hu;rcases hu with rfl | rfl<;>rfl) (by unfold maxLen;omega) (by omega) hz2w ?_;intro X9 c9 w9 hown9 hg9)
      have HO9:=Hd (show RwsI w1 w9 X9 (n+1) c9 (IN (j+1)) by
       rw [HI2.out]
       refine RwsI.push G1.out G2.out G3.out G4.out HRJ.out ?_ hg9
       unfold rwL
       simp only
       rw [HNV.out]
       exact hown9)
      clear hown9 hg9
      go_wp2
      go_roundw
      case rel=>first | exact ⟨j+1,X9,n+1,c9,by omega,by go_num,rfl,by omega,HO9⟩ | ((repeat apply Exists.intro);exact ⟨⟨j+1,X9,n+1,c9,by omega,by go_num,rfl,by omega,HO9⟩,rfl⟩)
      case measure=>simp [intOf];omega
     ·rw [decide_eq_false k3] at e3
      have Bk3:=Hd (decide_eq_false k3)
      clear k3
      by_cases k4:rt=tl
      ·rw [decide_eq_true k4] at e4
       have Bk4:=Hd (decide_eq_true k4)
       clear k4
       have HI2:=Hd (show IN (j+1)=IN j by rw [HNX.out,HEB.out,Bk1.out,Bk2.out,Bk3.out,Bk4.out];exact List.append_nil _)
       have HO9:=Hd (show RwsI w1 w2 X n c (IN (j+1)) by rw [HI2.out];exact HO2.out)
       go_wp2
       go_roundw
       case rel=>first | exact ⟨j+1,X,n,c,by omega,by go_num,rfl,by omega,HO9⟩ | ((repeat apply Exists.intro);exact ⟨⟨j+1,X,n,c,by omega,by go_num,rfl,by omega,HO9⟩,rfl⟩)
       case measure=>simp [intOf];omega
      ·rw [decide_eq_false k4] at e4
       have Bk4:=Hd (decide_eq_false k4)
       clear k4
       have HI2:=Hd (show IN (j+1)=IN j++[⟨rt,vs⟩] by rw [HNX.out,HEB.out,Bk1.out,Bk2.out,Bk3.out,Bk4.out];rfl)
       go_upto_region 7 with (at_builtin;refine QbN rfl _ _ 25 rfl w1.heap.size 49 i0 (.agg #[.string ⟨#[]⟩,.slice none 0 0]) 2 40 Tryz.underlying25 hi hz0 hz1 hz2 rfl (by decide) (.slice X n c) n (QaL 2 n (rowV (IN j) RA8 RC8)) rfl G2.out [.string rt,.slice RJ nv CJ] rfl rfl (by intro u hu;simp at hu;rcases hu with rfl | rfl<;>rfl) (by unfold maxLen;omega) (by omega) hz2w ?_;intro X9 c9 w9 hown9 hg9)
       have HO9:=Hd (show RwsI w1 w9 X9 (n+1) c9 (IN (j+1)) by
        rw [HI2.out]
        refine RwsI.push G1.out G2.out G3.out G4.out HRJ.out ?_ hg9
        unfold rwL
        simp only
        rw [HNV.out]
        exact hown9)
       clear hown9 hg9
       go_wp2
       go_roundw
       case rel=>first | exact ⟨j+1,X9,n+1,c9,by omega,by go_num,rfl,by omega,HO9⟩ | ((repeat apply Exists.intro);exact ⟨⟨j+1,X9,n+1,c9,by omega,by go_num,rfl,by omega,HO9⟩,rfl⟩)
       case measure=>simp [intOf];omega
  ·obtain rfl:j=nr:=by omega
   have hlen:=HO.out.len
   obtain ⟨RA9,RC9,hrm⟩:=HO.out.rowsM
   rw [HR.out] at hlen hrm
   have HRM:=Hd hrm
   have HHL:=Hd hlen
   have QB:=Hd (HW.out _ HO.out.bel).2.2
   clear hlen hrm
   go_wp2
   go_ret
   exact ⟨X,c,RA9,RC9,by rw [HHL.out];rfl,HRM.out,QB.out⟩
theorem inner_c (f:Fmt) (A:Option Addr) (cp:Nat) (L:Option Addr) (LC:Nat) (rs:List RowP) (RA:Nat->Option Addr) (RC:Nat->Nat) (w:World) (hl:RowsM w L rs RA RC) (h2000:rs.length<=2000) :
  Calls Tryz.prog 39 #[fmtG f A cp,.slice L rs.length LC] w (RetIn (innL f rs) w) :=
 innerX_c f A cp L LC rs RA RC w hl (by omega)
theorem sumf1_c (f:Fmt) (A:Option Addr) (cp:Nat) (FA:Nat->Option Addr) (FC:Nat->Nat) (r:RowP) (RJ:Option Addr) (CJ b:Nat) (w:World) (ho:Kinds w A f.kinds FA FC) (hb:w.heap[b]?=some (.cells #[.int .u8 f.mark,.int .u8 f.quote,.slice A f.kinds.length cp,.string f.head,.string f.tail,.string f.count,.string f.sum] 24 (0,0))) :
  Calls Tryz.prog 71 #[rowG r RJ CJ,.pointer (some ⟨b,0,none⟩)] w (RetB (badB f r) w):=by
 have HKA:=Hd (fun w h=>QbR f A cp FA FC r.tag w h)
 have HCC:=Hd (QaX f FA FC r.tag)
 have HKI:=Hd ho
 have HBB:=Hd (show badB f r=(decide (0<=ixF (Qaj f.sum) (katK f r.tag).fields)&&decide ((cA (katK f r.tag).fields (ixF (Qaj f.sum) (katK f r.tag).fields).toNat).kind≠2)) from rfl)
 obtain ⟨R,hR⟩:=ex_ (badB f r)
 rw [hR] at HBB ⊢
 unfold RetB
 clear ho hR
 obtain ⟨m,q,ks,hd,tl,ct,sm⟩:=f
 obtain ⟨rt,vs⟩:=r
 unfold fmtG at HKA
 unfold rowG
 simp only at HKA HCC HKI HBB hb ⊢
 obtain ⟨n,hn⟩:=ex_ (ks.length)
 rw [hn] at HKA hb
 clear hn
 obtain ⟨nv,hnv⟩:=ex_ (vs.length)
 rw [hnv]
 clear hnv
 have HRD:=Hd (Qac w (.cells #[.string rt,.slice RJ nv CJ] 49) rfl)
 have HF:=Hd (Qad hb (.cells #[.string rt,.slice RJ nv CJ] 49))
 have HB:Hid (Below w.heap.size w (w.alloc (.cells #[.string rt,.slice RJ nv CJ] 49))):=Hd (by go_grown)
 clear hb
 go_enter Tryz.func71,Tryz.ntmps71
 go_upto_region 1 with fail
 generalize w.alloc (.cells #[.string rt,.slice RJ nv CJ] 49)=w1 at HRD HF HB ⊢
 obtain ⟨⟨p0,p1,p2,p3,p4,p5,p6⟩,-⟩:=Qai HF.out
 obtain ⟨r0,r1,-,-,-⟩:=box2 HRD.out
 go_wp2_with fail
 refine (HKA.out _ (HKI.out.below HB.out)).mono ?_
 rintro _ w2 ⟨rfl,hb2⟩
 have HF2:=Hd (Qaa HF.out hb2)
 have HB2:=Hd (Qab hb2 HB.out HB.out.size)
 clear p0 p1 p2 p3 p4 p5 p6 r0 r1 hb2 HF HRD HB
 have HCO:Hid (∀ wx,Below w.heap.size w wx->Cols wx (katA ⟨m,q,ks,hd,tl,ct,sm⟩ FA rt) (katK ⟨m,q,ks,hd,tl,ct,sm⟩ rt).fields):=Hd (fun wx h=>by
  rcases HCC.out with ⟨-,e2,e3,-⟩|⟨k,hk,-,e2,e3,-⟩
  ·rw [e2,e3]
   exact ⟨⟨fun c hc=>(by cases hc),Nat.zero_le _⟩,fun h=>absurd h (Nat.not_lt_zero _)⟩
  ·rw [e2,e3]
   exact kinds_cols (HKI.out.below h) hk)
 obtain ⟨K,hK⟩:=ex_ (katK ⟨m,q,ks,hd,tl,ct,sm⟩ rt)
 rw [hK] at HBB HCO ⊢
 generalize katA ⟨m,q,ks,hd,tl,ct,sm⟩ FA rt=KA at HCO ⊢
 generalize katC ⟨m,q,ks,hd,tl,ct,sm⟩ FC rt=KC
 clear hK HCC
 have HCA:=Hd (fun w h=>colat_c K KA KC sm w h)
 have HIX:=Hd (QaT (Qaj sm) K.fields)
 obtain ⟨kt,fs,km,ku⟩:=K
 unfold QaO at HCA ⊢
 simp only at HCO HCA HIX HBB ⊢
 obtain ⟨nf,hnf⟩:=ex_ (fs.length)
 have HNF:=Hd hnf
 rw [hnf] at HCA ⊢
 clear hnf
 have HK3:=Hd (Qac w2 (.cells #[.string kt,.slice KA nf KC,.int .i64 km,.string ku] 52) rfl)
 have HF3:=Hd (Qad HF2.out (.cells #[.string kt,.slice KA nf KC,.int .i64 km,.string ku] 52))
 have HB3:Hid (Below w.heap.size w (w2.alloc (.cells #[.string kt,.slice KA nf KC,.int .i64 km,.string ku] 52))):=Hd (HB2.out.alloc HB2.out.size _)
 clear HF2 HB2
 go_upto_region 2 with fail
 obtain ⟨k0,hk0⟩:=ex_ (w2.heap.size)
 rw [hk0] at HK3
 try rw [hk0]
 generalize w2.alloc (.cells #[.string kt,.slice KA nf KC,.int .i64 km,.string ku] 52)=w3 at HK3 HF3 HB3 ⊢
 clear hk0
 obtain ⟨⟨y0,y1,y2,y3⟩,-,y4⟩:=Qaw HK3.out
 obtain ⟨⟨p0,p1,p2,p3,p4,p5,p6⟩,-⟩:=Qai HF3.out
 go_wp2_with fail
 refine (HCA.out _ (HCO.out _ HB3.out)).mono ?_
 rintro _ w4 ⟨rfl,hb4⟩
 have HK4:=Hd (Qaa HK3.out hb4)
 have HB4:=Hd (Qab hb4 HB3.out HB3.out.size)
 clear y0 y1 y2 y3 y4 p0 p1 p2 p3 p4 p5 p6 hb4 HF3 HK3 HB3
 obtain ⟨⟨y0,y1,y2,y3⟩,-,y4⟩:=Qaw HK4.out
 rcases HIX.out with ⟨h1,-⟩|⟨ic,hi,h1,-,-⟩
 ·have HE:=Hd (show R=false by rw [HBB.out,h1];rfl)
  rw [h1]
  clear h1
  go_wp2
  go_ret
  exact ⟨by rw [HE.out];rfl,HB4.out⟩
 ·obtain ⟨cb,co,rfl,hcb,d0,d1,d2,d3,d4,d5,d6,d7⟩:=(HCO.out _ HB4.out).cells (j:=ic) hi
  have HE:=Hd (show R=decide ((cA fs ic).kind≠2) by rw [HBB.out,h1,Int.toNat_natCast,decide_eq_true (show (0:Int)<=(ic:Int) by omega)];exact Bool.true_and _)
  rw [h1]
  have hin:ic<nf:=by rw [<- HNF.out];exact hi
  obtain ⟨C,hC⟩:=ex_ (cA fs ic)
  rw [hC] at d0 d1 d2 d3 d4 d5 d6 d7 HE
  obtain ⟨cn,ck,cw,cl,cm,cr,ci,ce⟩:=C
  simp only at d0 d1 d2 d3 d4 d5 d6 d7 HE
  clear hC h1 hi d0 d2 d3 d4 d5 d6 d7
  have hdec:decide ((0:Int)<=(ic:Int))=true:=decide_eq_true (by omega)
  by_cases h2:ck=2
  ·have HE2:=Hd (show R=false by rw [HE.out];exact decide_eq_false (fun h=>h h2))
   subst h2
   clear HE
   go_wp2
   go_ret
   exact ⟨by rw [HE2.out];rfl,HB4.out⟩
  ·have HE2:=Hd (show R=true by rw [HE.out];exact decide_eq_true h2)
   have h3:(ck !=2)=true:=by simpa using h2
   clear HE h2
   go_wp2
   go_ret
   exact ⟨by rw [HE2.out];rfl,HB4.out⟩
theorem ixr_c (N:Nat) (k1:Value) (q:RowP->Bool) (A:Option Addr) (c:Nat) (rs:List RowP) (RA:Nat->Option Addr) (RC:Nat->Nat) (w:World) (ho:RowsM w A rs RA RC) (hr:∀ args w,(Sem.run Tryz.prog (callFunc N args) w)=.ok (.enter N args) w)
  (hq:∀ j,j<rs.length->∀ wr,Below w.heap.size w wr->Calls Tryz.prog N #[rowG (rA rs j) (RA j) (RC j),k1] wr fun e w'=>e=.returned (.bool (q (rA rs j)))/\Below wr.heap.size wr w') :
  Calls Tryz.prog 119 #[.slice A rs.length c,.func (.func N) #[] #[k1]] w
   fun e w'=>e=.returned (.int .i64 (ixF q rs))/\Below w.heap.size w w':=by
 have HO:=Hd ho;have HQ:=Hd hq;have HR:=Hd hr
 have hm:=ho.len
 obtain ⟨n,hnn⟩:=ex_ (rs.length)
 have HN:=Hd hnn
 rw [hnn] at hm ⊢
 clear ho hr hq hnn
 go_enter Tryz.func119,Tryz.ntmps119
 go_wp2
 go_loopw [8] (fun i wr=>∃ k:Nat,k<=n/\i=.int .i64 k/\Below w.heap.size w wr/\Hid (∀ j,j<k->q (rA rs j)=false)) (fun i _=>n-(intOf i).toNat)
 case atStart=>exact ⟨0,Nat.zero_le _,rfl,Below.refl _ _,Hd (fun j h=>absurd h (Nat.not_lt_zero _))⟩
 case round=>
  obtain ⟨k,hk,rfl,hb,HK⟩:=hrel
  rcases Nat.lt_or_ge k n with hlt | hge
  ·have hltj:k<rs.length:=by rw [HN.out];exact hlt
   obtain ⟨b,off,rfl,hbw,c0,c1⟩:=(HO.out.below hb).cells hltj
   have HC:=Hd (HQ.out k hltj wr hb)
   obtain ⟨x,hx⟩:=ex_ (rA rs k)
   have HX:=Hd hx
   rw [hx] at c0 c1 HC
   generalize RA k=RJ at c1 HC
   generalize RC k=CJ at c1 HC
   unfold rowG at HC
   clear hx
   cases hot:q x with
   | true=>
    rw [hot] at HC
    have HT:=Hd (show ixF q rs=(k:Int) from ixF_hit hltj (by rw [rA_get hltj,HX.out];exact hot) (fun j hj hjk=>by rw [rA_get hj];exact HK.out j hjk))
    clear hot hltj
    obtain ⟨rt,vs⟩:=x
    simp only at c0 c1 HC
    go_wp2_with fail
    rw [HR.out]
    refine HC.out.mono ?_
    rintro e w2 ⟨rfl,hb2⟩
    have hB2:=Qab hb2 hb hb.size
    go_wp2
    go_ret
    exact ⟨congrArg (fun i=>Ending.returned (Value.int .i64 i)) HT.out.symm,hB2⟩
   | false=>
    rw [hot] at HC
    have HK2:=Hd (show ∀ j,j<k+1->q (rA rs j)=false from fun j hj=>by
     rcases Nat.lt_or_ge j k with h | h
     ·exact HK.out j h
     ·obtain rfl:j=k:=by omega
      rw [HX.out];exact hot)
    clear hot hltj
    obtain ⟨rt,vs⟩:=x
    simp only at c0 c1 HC
    go_wp2_with fail
    rw [HR.out]
    refine HC.out.mono ?_
    rintro e w2 ⟨rfl,hb2⟩
    have hB2:=Qab hb2 hb hb.size
    go_wp2
    go_roundw
    case rel=>exact ⟨k+1,by omega,by go_num,hB2,HK2⟩
    case measure=>simp [intOf];omega
  ·obtain rfl:k=n:=by omega
   have HT:=Hd (show ixF q rs=-1 from ixF_no (fun j hj=>by rw [rA_get hj];exact HK.out j (by rw [<- HN.out];exact hj)))
   go_wp2
   go_ret
   exact ⟨congrArg (fun i=>Ending.returned (Value.int .i64 i)) HT.out.symm,hb⟩
theorem anyr_of (V W:Value) (b:Bool) (i:Int) (w:World) (hi:decide (0<=i)=b)
  (h:Calls Tryz.prog 119 #[V,W] w fun e w'=>e=.returned (.int .i64 i)/\Below w.heap.size w w') :
  Calls Tryz.prog 70 #[V,W] w fun e w'=>e=.returned (.bool b)/\Below w.heap.size w w':=by
 have HI:=Hd hi
 clear hi
 go_enter Tryz.func70,Tryz.ntmps70
 go_wp2_with fail
 refine h.mono ?_
 rintro e w2 ⟨rfl,hb2⟩
 go_wp2
 go_ret
 exact ⟨congrArg (fun b=>Ending.returned (Value.bool b)) HI.out,hb2⟩
theorem sumfault_c (f:Fmt) (A:Option Addr) (cp:Nat) (FA:Nat->Option Addr) (FC:Nat->Nat) (L:Option Addr) (LC:Nat) (rs:List RowP) (RA:Nat->Option Addr) (RC:Nat->Nat) (w:World) (ho:Kinds w A f.kinds FA FC) (hl:RowsM w L rs RA RC) :
  Calls Tryz.prog 40 #[fmtG f A cp,.slice L rs.length LC] w (RetB (sumB f rs) w):=by
 have HF:=Qac w (.cells #[.int .u8 f.mark,.int .u8 f.quote,.slice A f.kinds.length cp,.string f.head,.string f.tail,.string f.count,.string f.sum] 24) rfl
 have HB:Below w.heap.size w (w.alloc (.cells #[.int .u8 f.mark,.int .u8 f.quote,.slice A f.kinds.length cp,.string f.head,.string f.tail,.string f.count,.string f.sum] 24)):=by go_grown
 have HIX:=Hd (fun w1 (h1:Below w.heap.size w w1) (hf:w1.heap[w.heap.size]?=some (.cells #[.int .u8 f.mark,.int .u8 f.quote,.slice A f.kinds.length cp,.string f.head,.string f.tail,.string f.count,.string f.sum] 24 (0,0)))=>ixr_c 71 (.pointer (some ⟨w.heap.size,0,none⟩)) (badB f) L LC rs RA RC w1 (hl.below h1) (fun _ _=>by kernel_rfl) (fun j hj wr hb=>sumf1_c f A cp FA FC (rA rs j) (RA j) (RC j) w.heap.size wr ((ho.below h1).below hb) (Qaa hf hb)))
 have HAN:=Hd (ixF_any (badB f) rs)
 have HBB:=Hd (show sumB f rs=(!decide (f.sum=⟨#[]⟩)&&rs.any (badB f)) by unfold sumB;simp)
 obtain ⟨R,hR⟩:=ex_ (sumB f rs)
 rw [hR] at HBB ⊢
 generalize ixF (badB f) rs=IX at HIX HAN
 generalize rs.any (badB f)=ANY at HAN HBB
 unfold RetB
 clear ho hl hR
 obtain ⟨m,q,ks,hd,tl,ct,sm⟩:=f
 unfold fmtG
 simp only at HF HB HIX HBB ⊢
 obtain ⟨n,hn⟩:=ex_ (ks.length)
 obtain ⟨nr,hnr⟩:=ex_ (rs.length)
 rw [hn] at HF HB HIX ⊢
 rw [hnr] at HIX ⊢
 clear hn hnr
 have HF1:=Hd HF;have HB1:=Hd HB
 clear HF HB
 go_enter Tryz.func40,Tryz.ntmps40
 go_upto_region 1 with fail
 generalize w.alloc (.cells #[.int .u8 m,.int .u8 q,.slice A n cp,.string hd,.string tl,.string ct,.string sm] 24)=w1 at HF1 HB1 ⊢
 obtain ⟨⟨p0,p1,p2,p3,p4,p5,p6⟩,-⟩:=Qai HF1.out
 have e1:=Qah sm
 by_cases h1:sm=⟨#[]⟩
 ·have HE:=Hd (show R=false by rw [HBB.out,decide_eq_true h1];rfl)
  rw [decide_eq_true h1] at e1
  clear h1
  have hB:=HB1.out
  go_wp2
  go_ret
  exact ⟨by rw [HE.out];rfl,hB⟩
 ·have HE:=Hd (show R=ANY by rw [HBB.out,decide_eq_false h1];exact Bool.true_and _)
  rw [decide_eq_false h1] at e1
  clear h1
  go_wp2_with fail
  refine (anyr_of _ _ ANY _ _ HAN.out (HIX.out _ HB1.out HF1.out)).mono ?_
  rintro _ w3 ⟨rfl,hb3⟩
  have hB3:=Qab hb3 HB1.out HB1.out.size
  go_wp2
  go_ret
  exact ⟨by rw [HE.out];rfl,hB3⟩
theorem own_obj {w:World} {base:Nat} {e:TypeId} {size n cap g:Nat} {xs:List Value} (h:w.ownsRow base e size (.slice (some ⟨g,0,none⟩) n cap) n xs):∃ cur,w.heap[g]?=some (.cells cur e (0,0))/\base<=g:=by
 rcases h.2 with ⟨hv,h0⟩|⟨g',cap',cur,hv,hb,hg,-⟩
 ·cases hv
 ·cases hv
  exact ⟨cur,hg,hb⟩
theorem rowV_up {n j:Nat} (hj:j<n) (l:List RowP) (RA:Nat->Option Addr) (RC:Nat->Nat) (X:Option Addr) (d:Nat):(QaL 2 n (rowV l RA RC)).set (j*2+1) (.slice X (rA l j).vals.length d)=QaL 2 n (rowV l (kndA RA j X) (kndN RC j d)):=by
 rw [rowsC_set _ hj (by decide)]
 refine rowsC_congr fun a ha i hi=>?_
 unfold rowV kndA kndN
 by_cases h:a=j
 ·subst h
  rcases (show i=0∨i=1 by omega) with rfl | rfl
  ·rw [if_neg (by rintro ⟨-,h⟩;cases h)]
   rfl
  ·rw [if_pos ⟨rfl,rfl⟩,if_pos rfl,if_pos rfl]
   rfl
 ·rw [if_neg (fun k=>h k.1),if_neg h,if_neg h]
def RetCl (l:List RowP) (w:World) (e:Ending) (w':World):Prop:=∃ X c,e=.returned (.slice X l.length c)/\RwsO w w' X l.length c l
theorem clonerows_c (L:Option Addr) (LC:Nat) (l:List RowP) (RA:Nat->Option Addr) (RC:Nat->Nat) (w:World) (hl:RowsM w L l RA RC) (h2000:l.length<=2000) (hv50:∀ j,j<l.length->(rA l j).vals.length<=1000000) :
  Calls Tryz.prog 48 #[.slice L l.length LC] w (RetCl l w):=by
 have HLM:=Hd hl
 have HCR:=Hd (cloneR_c l RA RC L LC w hl.rows (by omega))
 have HCS:=Hd (fun j (hj:j<l.length) A c w h=>cloneS_c (rA l j).vals A c w h (hv50 j hj))
 unfold RetCR at HCR
 unfold RetCS at HCS
 unfold RetCl
 obtain ⟨n,hn⟩:=ex_ (l.length)
 have HN:=Hd hn
 rw [hn] at HCR HCS h2000 ⊢
 clear hn hl hv50
 go_enter Tryz.func48,Tryz.ntmps48
 go_wp2_with fail
 refine HCR.out.mono ?_
 rintro _ w1 ⟨X,d,rfl,hown,hb1⟩
 have HOW:=Hd hown;have HB1:=Hd hb1
 have hcap:=Qal hown
 clear hown hb1 HCR
 go_wp2_with fail
 go_loopw [9] (fun i wr=>∃ (j:Nat) (RA':Nat->Option Addr) (RC':Nat->Nat),j<=n/\i=.int .i64 j/\Hid (wr.ownsRow w.heap.size 49 2 (.slice X n d) n (QaL 2 n (rowV l RA' RC')))/\Hid (∀ k,k<j->RowS wr (rA l k) (RA' k) (RC' k))/\Hid (∀ k,j<=k->RA' k=RA k/\RC' k=RC k)/\Hid (Below w.heap.size w wr)) (fun i _=>n-(intOf i).toNat)
 case atStart=>exact ⟨0,RA,RC,by omega,rfl,HOW,Hd (fun k hk=>absurd hk (Nat.not_lt_zero _)),Hd (fun k _=>⟨rfl,rfl⟩),HB1⟩
 case round=>
  clear HOW HB1
  obtain ⟨j,RA',RC',hj,rfl,HO,HS,HE,HB⟩:=hrel
  rcases Nat.lt_or_ge j n with hlt | hge
  ·obtain ⟨g,hX,hbg,hgs,hcells⟩:=own_rowF HO.out (by omega)
   subst hX
   have c0:=(hcells (j*2) (by omega)).trans (Qby (k:=2) (f:=rowV l RA' RC') (i:=0) hlt (by decide))
   have c1:=(hcells (j*2+1) (by omega)).trans (Qby (k:=2) (f:=rowV l RA' RC') (i:=1) hlt (by decide))
   have fz:=(HO.out).frozenAt (j*2+1)
   have hRM:=(HLM.out.below HB.out).each j (by rw [HN.out];exact hlt)
   have HCJ:=Hd (fun A c w h=>HCS.out j hlt A c w h)
   have he:=HE.out j (Nat.le_refl _)
   have HUP:=Hd (fun Y e=>rowV_up hlt l RA' RC' Y e)
   unfold rowV at c0 c1
   rw [he.1,he.2] at c1
   obtain ⟨r,hr⟩:=ex_ (rA l j)
   have HRR:=Hd hr
   rw [hr] at c0 c1 hRM HCJ HUP
   generalize RA j=RJ at c1 hRM
   generalize RC j=CJ at c1 hRM
   obtain ⟨rt,vs⟩:=r
   simp only at c0 c1 HCJ HUP
   have HRM:=Hd hRM
   obtain ⟨nv,hnv⟩:=ex_ (vs.length)
   have HNV:=Hd hnv
   rw [hnv] at c1 HCJ HUP
   have HRD:=Hd (Qac wr (.cells #[.string rt,.slice RJ nv CJ] 49) rfl)
   have hbd:Below wr.heap.size wr (wr.alloc (.cells #[.string rt,.slice RJ nv CJ] 49)):=by go_grown
   have hzr:=HB.out.size
   have HB2:=Hd (Qab hbd HB.out hzr)
   have HO2:=Hd (HO.out.alloc (.cells #[.string rt,.slice RJ nv CJ] 49))
   have HS2:=Hd (show ∀ k,k<j->RowS (wr.alloc (.cells #[.string rt,.slice RJ nv CJ] 49)) (rA l k) (RA' k) (RC' k) from fun k hk=>⟨(HS.out k hk).vals.below hbd,(HS.out k hk).len,(HS.out k hk).size,(HS.out k hk).tag⟩)
   have hSV:=HRM.out.vals.below hbd
   clear hr hnv he hRM hcells fz
   go_upto_region 5 with fail
   obtain ⟨rb,hrb⟩:=ex_ (wr.heap.size)
   rw [hrb] at HRD
   try rw [hrb]
   generalize wr.alloc (.cells #[.string rt,.slice RJ nv CJ] 49)=w2 at HRD HB2 HO2 HS2 hSV ⊢
   have HSV:=Hd hSV
   clear hrb c0 c1 hbd HB HO HS hSV
   obtain ⟨r0,r1,-,-,-⟩:=box2 HRD.out
   go_wp2_with fail
   refine (HCJ.out RJ CJ _ HSV.out).mono ?_
   rintro _ w3 ⟨Y,e,rfl,hown3,hb3⟩
   have HO3:=Hd (QaM HO2.out hb3)
   have hz2:=HB2.out.size
   have HB3:=Hd (Qab hb3 HB2.out hz2)
   have HS3:=Hd (show ∀ k,k<j->RowS w3 (rA l k) (RA' k) (RC' k) from fun k hk=>⟨(HS2.out k hk).vals.below hb3,(HS2.out k hk).len,(HS2.out k hk).size,(HS2.out k hk).tag⟩)
   have HY:=Hd (own_rowS (r:=⟨rt,vs⟩) (w:=w3) (A:=Y) (c:=e) (by rw [show (⟨rt,vs⟩:RowP).vals.length=nv from HNV.out];exact hown3) HRM.out.size HRM.out.tag)
   have fz:=HO3.out.frozenAt (j*2+1)
   clear hown3 hb3 r0 r1 HO2 HB2 HS2 HSV HCJ
   obtain ⟨cur,hcur,-⟩:=own_obj HO3.out
   have HCUR:=Hd hcur
   clear hcur
   have hk9:∀ {r:RowP} {A:Option Addr} {c:Nat},RowS w3 r A c->RowS (w3.setCell ⟨g,j*2+1,none⟩ (.slice Y nv e)) r A c:=fun h=>⟨h.vals.keep fun g' cs f hh=>Qaf hh (QaJ hh HCUR.out (by decide)) _,h.len,h.size,h.tag⟩
   have HO4:=Hd (show (w3.setCell ⟨g,j*2+1,none⟩ (.slice Y nv e)).ownsRow w.heap.size 49 2 (.slice (some ⟨g,0,none⟩) n d) n (QaL 2 n (rowV l (kndA RA' j Y) (kndN RC' j e))) by rw [<- HUP.out Y e];exact own_setAt HO3.out (by omega) _)
   have HS4:=Hd (show ∀ k,k<j+1->RowS (w3.setCell ⟨g,j*2+1,none⟩ (.slice Y nv e)) (rA l k) (kndA RA' j Y k) (kndN RC' j e k) from fun k hk=>by
    unfold kndA kndN
    by_cases h:k=j
    ·subst h
     rw [if_pos rfl,if_pos rfl,HRR.out]
     exact hk9 HY.out
    ·rw [if_neg h,if_neg h]
     exact hk9 (HS3.out k (by omega)))
   have HE4:=Hd (show ∀ k,j+1<=k->kndA RA' j Y k=RA k/\kndN RC' j e k=RC k from fun k hk=>by
    unfold kndA kndN
    rw [if_neg (by omega),if_neg (by omega)]
    exact HE.out k (by omega))
   have HB4:=Hd (show Below w.heap.size w (w3.setCell ⟨g,j*2+1,none⟩ (.slice Y nv e)) from HB3.out.setCell (p:=⟨g,j*2+1,none⟩) hbg _)
   clear hk9 HS3 HY HE HB3 HCUR
   have c9:=(HO3.out.cellAt (j*2+1) (by omega)).trans (Qby (k:=2) (f:=rowV l RA' RC') (i:=1) hlt (by decide))
   unfold rowV at c9
   simp only at c9
   go_wp2
   go_roundw
   case rel=>first | exact ⟨j+1,_,_,by omega,by go_num,HO4,HS4,HE4,HB4⟩ | ((repeat apply Exists.intro);exact ⟨⟨j+1,_,_,by omega,by go_num,HO4,HS4,HE4,HB4⟩,rfl⟩)
   case measure=>simp [intOf];omega
  ·obtain rfl:j=n:=by omega
   have HR:=Hd (show RwsO w wr X j d l from ⟨RA',RC',HN.out,HO.out,fun k hk=>HS.out k (by rw [<- HN.out];exact hk),HB.out⟩)
   go_wp2
   go_ret
   exact ⟨X,d,rfl,HR.out⟩
end Go.Proofs.YtaiabjiehpcaoaaGreatDoor
