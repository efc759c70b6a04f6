/- The walks of the reference's days: ofDigits, number, readWeek, ReadDay. The walk of the reference's ReadDay, and of the law AmountDayReadsMatchSpec. -/
import Derived.Test.YtaiabjiehpcaoaaGreatDoorF4
import Derived.Test.YtaiabjiehpcaoaaGreatDoorK5
-- merged: M4 M5
set_option maxHeartbeats 2000000
set_option maxRecDepth 100000
namespace Go.Proofs.YtaiabjiehpcaoaaGreatDoor
open Go.RowKit Limb Work Nmb
set_option linter.unusedVariables false
set_option linter.unusedSimpArgs false
theorem dv_mono_take {l:List UInt8} : ∀ {j k:Nat},k<=j->j<=l.length->dv (l.take k)<=dv (l.take j):=by
 intro j
 induction j with
 | zero=>
  intro k h _
  obtain rfl:k=0:=by omega
  exact Nat.le_refl _
 | succ j ih=>
  intro k h hj
  rcases Nat.lt_or_ge j k with h1 | h1
  ·obtain rfl:k=j+1:=by omega
   exact Nat.le_refl _
  ·have:=ih h1 (by omega)
   rw [dv_take (by omega)]
   omega
def maxU (n:Nat):Bool:=decide (n<=1000000000000000)
def RetOd (l:List UInt8) (w:World) (e:Ending) (w':World):Prop:=w=w'/\e=.returned (.tuple #[.int .i64 (if maxU (dv l)=true then (dv l:Int) else 0),.bool (maxU (dv l))])
theorem ofdigits_c (s:ByteArray) (w:World) (hs:s.size<=9223372036854775807) (hd:∀ c∈s.data.toList,48<=c.toNat/\c.toNat<=57) :
  Calls Tryz.prog 141 #[.string s] w (RetOd s.data.toList w):=by
 have hl:=szL s
 have HD:=Hd (show ∀ k,(h:k<s.size)->48<=(s[k].toNat:Int)/\(s[k].toNat:Int)<=57 from fun k h=>by have:=hd s[k] (by have:=List.getElem_mem (l:=s.data.toList) (n:=k) (by simpa using h);exact this);omega)
 have HT:=Hd (show ∀ k,(h:k<s.size)->(dv (s.data.toList.take (k+1)):Int)=10*(dv (s.data.toList.take k):Int)+((s[k].toNat:Int)-48) from fun k h=>by
  have e:=dv_take (l:=s.data.toList) (k:=k) (by omega)
  have h2:=hd s[k] (by have:=List.getElem_mem (l:=s.data.toList) (n:=k) (by simpa using h);exact this)
  rw [e]
  show ((10*dv (s.data.toList.take k)+(s[k].toNat-48):Nat):Int)=_
  omega)
 have HE:=Hd (show s.data.toList.take s.size=s.data.toList by rw [<- hl,List.take_length])
 have HM:=Hd (fun k (h:k<=s.size)=>dv_mono_take (l:=s.data.toList) (j:=s.size) (k:=k) h (by omega))
 clear hd hl
 go_enter Tryz.func141,Tryz.ntmps141
 go_wp2
 go_loop [4,8] (fun x i=>∃ k n:Nat,k<=s.size/\i=.int .i64 k/\x=.int .i64 n/\n<=1000000000000000/\Hid (dv (s.data.toList.take k)=n)) (fun _ i=>s.size-(intOf i).toNat)
 case atStart=>exact ⟨0,0,Nat.zero_le _,rfl,rfl,by omega,Hd rfl⟩
 case round=>
  obtain ⟨k,n,hk,rfl,rfl,hn,HN⟩:=hrel
  rcases Nat.lt_or_ge k s.size with hlt | hge
  ·obtain ⟨d1,d2⟩:=HD.out k hlt
   have hT:=HT.out k hlt
   rw [HN.out] at hT
   obtain ⟨m,hm⟩:=ex_ (dv (s.data.toList.take (k+1)))
   rw [hm] at hT
   have HT2:=Hd hT
   have HM2:=Hd hm
   have hb1:0<=(s[k].toNat:Int)-48/\(s[k].toNat:Int)-48<=9:=by omega
   by_cases hbig:1000000000000000<10*(n:Int)+((s[k].toNat:Int)-48)
   ·have hno:=Hd (show maxU (dv s.data.toList)=false by
     have:=HM.out (k+1) (by omega)
     rw [HE.out,hm] at this
     exact decide_eq_false (by omega))
    clear hT hm hb1
    go_wp2
    go_ret2
    refine ⟨rfl,?_⟩
    rw [hno.out];rfl
   ·clear hT hm hb1
    go_wp2
    go_round
    case rel=>exact ⟨k+1,m,by omega,by go_num,by rw [HT2.out],by have:=HT2.out;omega,HM2⟩
    case measure=>simp [intOf];omega
  ·obtain rfl:k=s.size:=by omega
   have hyes:=Hd (show maxU (dv s.data.toList)=true/\(dv s.data.toList:Int)=n by
    have h1:=HN.out
    rw [HE.out] at h1
    rw [h1]
    exact ⟨decide_eq_true hn,rfl⟩)
   go_wp2
   go_ret2
   refine ⟨rfl,?_⟩
   rw [hyes.out.1,hyes.out.2];rfl
theorem QaH (s:ByteArray) (w:World) (hs:s.size<=10):Calls Tryz.prog 205 #[.string s] w fun e w'=>e=.returned (.int .i64 (numF s.data.toList))/\w'=w:=by
 have HD:=Hd (fun w=>rdigs_c s w (by omega))
 cases hd:digs s.data.toList with
 | false=>
  rw [numF_no hd]
  rw [hd] at HD
  clear hd
  go_enter Tryz.func205,Tryz.ntmps205
  go_wp2_with fail
  refine (HD.out _).mono ?_
  rintro e w1 ⟨rfl,rfl⟩
  go_wp2
  go_ret
  exact ⟨rfl,rfl⟩
 | true=>
  rw [numF_yes hd]
  rw [hd] at HD
  have HO:=Hd (fun w=>ofdigits_c s w (by omega) (digs_mem hd))
  have hm:maxU (dv s.data.toList)=true:=decide_eq_true (by
   have:=dv_lt hd
   have h2:10 ^ s.data.toList.length<=10 ^ 10:=Nat.pow_le_pow_right (by decide) (by rw [szL];exact hs)
   omega)
  unfold RetOd at HO
  rw [hm,if_pos rfl] at HO
  clear hd hm
  go_enter Tryz.func205,Tryz.ntmps205
  go_wp2_with fail
  refine (HD.out _).mono ?_
  rintro e w1 ⟨rfl,rfl⟩
  go_wp2_with fail
  refine (HO.out _).mono ?_
  rintro e w1 ⟨rfl,rfl⟩
  go_wp2
  go_ret
  exact ⟨rfl,rfl⟩
theorem week_hit {day z y k d:Int} (b1:bef z<thu day) (b2:thu day<=bef (z+1)) (hy:1<=y/\y<=9999) (hd:1<=day/\day<=3652059) (e1:z=y) (e2:wk day z=k) (e3:(day-1)%7+1=d):weekO y k d=some day:=by
 subst e1
 rw [weekO_yes (weekB_of hy hd b1 b2 e2 e3),week_day b1 e2 e3]
def missW (y k d lo hi:Int):Prop:=∀ e,lo<=e->e<hi->weekB y k d=true->Qb3 y k d≠e
theorem missW.next {y k d lo hi:Int} (h:missW y k d lo hi) (h2:weekB y k d=true->Qb3 y k d≠hi):missW y k d lo (hi+1):=by
 intro e a b c
 rcases Int.lt_or_le e hi with h3 | h3
 ·exact h e a h3 c
 ·obtain rfl:e=hi:=by omega
  exact h2 c
theorem week_miss {day z y k d:Int} (b1:bef z<thu day) (b2:thu day<=bef (z+1)) (h:¬ (z=y/\wk day z=k/\(day-1)%7+1=d)):weekB y k d=true->Qb3 y k d≠day:=by
 intro hb e
 obtain ⟨-,-,-,g1,g2,g3⟩:=of_decide_eq_true hb
 have hw:=week_in hb
 rw [e] at g1 g2 g3 hw
 obtain rfl:=year_unique b1 b2 g1 g2
 exact h ⟨rfl,g3,hw.2.2.1⟩
def RetW (o:Option Int) (w:World) (e:Ending) (w':World):Prop:=e=.returned (.tuple #[.int .i64 (o.getD 0),.int .i64 (if o.isSome=true then 0 else 10)])/\Below w.heap.size w w'
theorem QaI {o:Option Int} {w w':World} (ho:o=none) (hb:Below w.heap.size w w'):RetW o w (.returned (.tuple #[.int .i64 0,.int .i64 10])) w':=by subst ho;exact ⟨rfl,hb⟩
theorem retW_some {o:Option Int} {n:Int} {w w':World} (ho:o=some n) (hb:Below w.heap.size w w'):RetW o w (.returned (.tuple #[.int .i64 n,.int .i64 0])) w':=by subst ho;exact ⟨rfl,hb⟩
theorem numF_lo (l:List UInt8) : -1<=numF l:=by unfold numF;split<;>omega
theorem numF_hi {l:List UInt8} {k N:Nat} (h:l.length<=k) (hN:10 ^ k<=N) (h0:0<N):numF l<N:=by
 cases hd:digs l with
 | false=>rw [numF_no hd];omega
 | true=>
  rw [numF_yes hd]
  have:=dv_lt hd
  have h2:10 ^ l.length<=10 ^ k:=Nat.pow_le_pow_right (by decide) h
  omega
theorem readweek_c (s:ByteArray) (w:World) (hs:s.size=7) :
  Calls Tryz.prog 206 #[.string s] w (RetW (weekO (numF (s.data.toList.take 4)) (numF ((s.data.toList.drop 4).take 2)) (numF (s.data.toList.drop 6))) w):=by
 obtain ⟨A,hA⟩:=ex_ (s.extract 0 4)
 obtain ⟨B,hB⟩:=ex_ (s.extract 4 6)
 obtain ⟨C,hC⟩:=ex_ (s.extract 6 s.size)
 have HA:=Hd (fun w=>QaH A w (by rw [<- hA,ByteArray.size_extract];omega))
 have HB:=Hd (fun w=>QaH B w (by rw [<- hB,ByteArray.size_extract];omega))
 have HC:=Hd (fun w=>QaH C w (by rw [<- hC,ByteArray.size_extract];omega))
 obtain ⟨X,hX⟩:=ex_ (numF A.data.toList)
 obtain ⟨Y,hY⟩:=ex_ (numF B.data.toList)
 obtain ⟨Z,hZ⟩:=ex_ (numF C.data.toList)
 rw [hX] at HA
 rw [hY] at HB
 rw [hZ] at HC
 have e1:s.data.toList.take 4=A.data.toList:=by rw [<- hA,ext_to]
 have e2:(s.data.toList.drop 4).take 2=B.data.toList:=by rw [<- hB,ext_mid]
 have e3:s.data.toList.drop 6=C.data.toList:=by rw [<- hC,ext_from]
 rw [e1,e2,e3,hX,hY,hZ]
 have x1:=numF_lo A.data.toList
 have x2:=numF_hi (l:=A.data.toList) (k:=4) (N:=10000) (by rw [szL,<- hA,ByteArray.size_extract];omega) (by decide) (by decide)
 have y1:=numF_lo B.data.toList
 have y2:=numF_hi (l:=B.data.toList) (k:=2) (N:=100) (by rw [szL,<- hB,ByteArray.size_extract];omega) (by decide) (by decide)
 have z1:=numF_lo C.data.toList
 have z2:=numF_hi (l:=C.data.toList) (k:=1) (N:=10) (by rw [szL,<- hC,ByteArray.size_extract];omega) (by decide) (by decide)
 rw [hX] at x1 x2
 rw [hY] at y1 y2
 rw [hZ] at z1 z2
 have q4:(4:Int)<=(s.size:Int):=by omega
 have q6:(6:Int)<=(s.size:Int):=by omega
 clear hX hY hZ e1 e2 e3
 have HS:=Hd hs
 clear hs
 by_cases hbad:X<0∨Y<1∨Z<1∨7<Z
 ·have HO:=Hd (weekO_no (weekB_neg (y:=X) (w:=Y) (d:=Z) (by omega)))
  have hb2:X<0∨(¬ X<0/\Y<1)∨(¬ X<0/\¬ Y<1/\Z<1)∨(¬ X<0/\¬ Y<1/\¬ Z<1/\7<Z):=by omega
  clear hbad
  have h9:¬ 9999<X:=by omega
  rcases hb2 with h | ⟨h,h2⟩|⟨h,h2,h3⟩|⟨h,h2,h3,h4⟩
  all_goals (
   go_enter Tryz.func206,Tryz.ntmps206
   go_wp2_with fail
   go_quiet (first | (go_at_call_of 205 (Value.string A);exact Calls.quiet_of_same (HA.out _)) | (go_at_call_of 205 (Value.string B);exact Calls.quiet_of_same (HB.out _)) | (go_at_call_of 205 (Value.string C);exact Calls.quiet_of_same (HC.out _)))
   go_wp2
   go_ret2
   exact QaI HO.out (below_drewN (Below.refl _ _) _))
 have h0:¬ X<0:=by omega
 have h2:¬ Y<1:=by omega
 have h3:¬ Z<1:=by omega
 have h4:¬ 7<Z:=by omega
 have h9:¬ 9999<X:=by omega
 clear hbad
 by_cases hx0:X=0
 ·subst hx0
  have HO:=Hd (weekO_no (weekB_neg (y:=0) (w:=Y) (d:=Z) (by omega)))
  go_enter Tryz.func206,Tryz.ntmps206
  go_wp2_with fail
  go_quiet (first | (go_at_call_of 205 (Value.string A);exact Calls.quiet_of_same (HA.out _)) | (go_at_call_of 205 (Value.string B);exact Calls.quiet_of_same (HB.out _)) | (go_at_call_of 205 (Value.string C);exact Calls.quiet_of_same (HC.out _)))
  go_wp2_with fail
  refine (rbefore_0 _).mono ?_
  rintro e w1 ⟨rfl,rfl⟩
  go_wp2
  go_ret2
  exact QaI HO.out (below_drewN (Below.refl _ _) _)
 have ex0:(X==0)=false:=beq_eq_false_iff_ne.2 hx0
 have hxx:1<=X:=by omega
 have HXX:=Hd (show 1<=X/\X<=9999 by omega)
 have hB:=bef_bd (y:=X) (by omega) (by omega)
 obtain ⟨F,hF⟩:=ex_ (bef X)
 have HF:=Hd hF
 rw [hF] at hB
 obtain ⟨f0,f1⟩:=hB
 obtain ⟨O,hO⟩:=ex_ (weekO X Y Z)
 have HO:=Hd hO
 obtain ⟨lo,hlo⟩:=ex_ (max (1:Int) (F+1-7))
 obtain ⟨hi,hhi⟩:=ex_ (min (3652059:Int) (F+1+380))
 have l1:1<=lo/\lo<=3652060:=by omega
 have i1:hi<=3652059:=by omega
 have HLO:=Hd hlo;have HHI:=Hd hhi
 have HIN:=Hd (show weekB X Y Z=true->lo<=Qb3 X Y Z/\Qb3 X Y Z<=hi from fun h=>by
  have a:=week_in h
  have b:=of_decide_eq_true h
  have c:=b.2.2.1
  rw [hF] at a
  omega)
 rw [hO]
 have d1:decide (X<0)=false:=decide_eq_false h0
 have d2:decide (9999<X)=false:=decide_eq_false h9
 have d3:decide (Y<1)=false:=decide_eq_false h2
 have d4:decide (Z<1)=false:=decide_eq_false h3
 have d5:decide (7<Z)=false:=decide_eq_false h4
 clear hF hO hlo hhi hx0 h0 h9 h2 h3 h4
 go_enter Tryz.func206,Tryz.ntmps206
 go_wp2_with fail
 go_quiet (first | (go_at_call_of 205 (Value.string A);exact Calls.quiet_of_same (HA.out _)) | (go_at_call_of 205 (Value.string B);exact Calls.quiet_of_same (HB.out _)) | (go_at_call_of 205 (Value.string C);exact Calls.quiet_of_same (HC.out _)))
 go_wp2_with fail
 refine (rbefore_c _ _ (by have:=HXX.out;omega)).mono ?_
 rw [HF.out]
 rintro e w1 ⟨rfl,rfl⟩
 go_wp2_with fail
 rw [HLO.out]
 have hll:lo<=hi+1:=by have:=HLO.out;have:=HHI.out;omega
 clear d1 d2 d3 d4 d5
 go_loop [8] (fun x=>∃ d:Int,lo<=d/\d<=hi+1/\x=.int .i64 d/\missW X Y Z lo d) (fun x=>(hi+1-intOf x).toNat)
 case atStart=>exact ⟨lo,Int.le_refl _,hll,rfl,fun e a b=>by omega⟩
 case round=>
  obtain ⟨d,hd1,hd2,rfl,hmiss⟩:=hrel
  have HMS:=Hd hmiss
  have hh:=HHI.out
  clear hmiss
  by_cases hle:d<=hi
  ·have r1:1<=d:=by omega
   have r2:d<=3652059:=by omega
   obtain ⟨z,zm,zd,hz⟩:=thu_ex r1 r2
   obtain ⟨⟨zz1,zz2⟩,-,-,-,b1,b2⟩:=hz.facts
   have HZ:=Hd hz
   have HHIT:=Hd (fun e1 e2 e3=>week_hit (k:=Y) (d:=Z) b1 b2 HXX.out ⟨r1,r2⟩ e1 e2 e3)
   have HMIS:=Hd (fun e=>HMS.out.next (week_miss (y:=X) (k:=Y) (d:=Z) b1 b2 e))
   have HWK:=Hd (fun w=>rweekof_c d z zm zd w r1 r2 HZ.out)
   obtain ⟨V,hV⟩:=ex_ (wk d z)
   rw [hV] at HWK HHIT HMIS
   have m1:0<=(d-1)%7:=by omega
   have m2:(d-1)%7<=6:=by omega
   have m3:1<=d-((d-1)%7+1)+4:=by omega
   have m4:d-((d-1)%7+1)+4<=3652059:=by have:=thu_bd r1 r2;unfold thu at this;omega
   clear hz hV b1 b2
   cases e1:(z==X) with
   | false=>
    have HN:=Hd (HMIS.out (fun h=>by rw [h.1] at e1;simp at e1))
    go_wp2_with fail
    refine (HWK.out _).mono ?_
    rintro e w1 ⟨rfl,rfl⟩
    go_wp2
    go_round
    case rel=>exact ⟨d+1,by omega,by omega,rfl,HN.out⟩
    case measure=>simp [intOf];omega
   | true=>
   cases e2:(V==Y) with
   | false=>
    have HN:=Hd (HMIS.out (fun h=>by rw [h.2.1] at e2;simp at e2))
    go_wp2_with fail
    refine (HWK.out _).mono ?_
    rintro e w1 ⟨rfl,rfl⟩
    go_wp2
    go_round
    case rel=>exact ⟨d+1,by omega,by omega,rfl,HN.out⟩
    case measure=>simp [intOf];omega
   | true=>
   cases e3:((d-1)%7+1==Z) with
   | false=>
    have HN:=Hd (HMIS.out (fun h=>by rw [h.2.2] at e3;simp at e3))
    go_wp2_with fail
    refine (HWK.out _).mono ?_
    rintro e w1 ⟨rfl,rfl⟩
    go_wp2
    go_round
    case rel=>exact ⟨d+1,by omega,by omega,rfl,HN.out⟩
    case measure=>simp [intOf];omega
   | true=>
    have HH:=Hd (HO.out.symm.trans (HHIT.out (beq_iff_eq.1 e1) (beq_iff_eq.1 e2) (beq_iff_eq.1 e3)))
    go_wp2_with fail
    refine (HWK.out _).mono ?_
    rintro e w1 ⟨rfl,rfl⟩
    go_wp2
    go_ret2
    exact retW_some HH.out (below_drewN (Below.refl _ _) _)
  ·have HN:=Hd (HO.out.symm.trans (weekO_no (by
    cases hb:weekB X Y Z with
    | false=>rfl
    | true=>have a:=HIN.out hb;exact absurd rfl (HMS.out _ a.1 (by omega) hb))))
   go_wp2
   go_ret2
   exact QaI HN.out (below_drewN (Below.refl _ _) _)
theorem rd_none {form pv:Int} {l:List UInt8} (hf:formB form=true) (hp:1<=pv/\pv<=9900) (ho:Qa1 form pv l=none):rdN form pv l=0/\rdF form pv l=10:=by
 unfold rdN rdF
 rw [hf,if_pos ⟨rfl,hp⟩,if_neg (by simp),if_neg (fun h=>h hp),ho]
 exact ⟨rfl,rfl⟩
theorem rd_some {form pv v:Int} {l:List UInt8} (hf:formB form=true) (hp:1<=pv/\pv<=9900) (ho:Qa1 form pv l=some v):rdN form pv l=v/\rdF form pv l=0:=by
 unfold rdN rdF
 rw [hf,if_pos ⟨rfl,hp⟩,if_neg (by simp),if_neg (fun h=>h hp),ho]
 exact ⟨rfl,rfl⟩
theorem eqO1 (pv:Int) (l:List UInt8):Qa1 1 pv l=if l.length=8 then dayO (numF (l.take 4)) (numF ((l.drop 4).take 2)) (numF (l.drop 6)) else none:=rfl
theorem eqO2 (pv:Int) (l:List UInt8):Qa1 2 pv l=if l.length=6 then (if 0<=numF (l.take 2) then dayO (pv+(numF (l.take 2)-pv)%100) (numF ((l.drop 2).take 2)) (numF (l.drop 4)) else none) else none:=rfl
theorem eqO3 (pv:Int) (l:List UInt8):Qa1 3 pv l=if l.length=8 then dayO (numF (l.drop 4)) (numF ((l.drop 2).take 2)) (numF (l.take 2)) else none:=rfl
theorem eqO5 (pv:Int) (l:List UInt8):Qa1 5 pv l=if l.length=7 then weekO (numF (l.take 4)) (numF ((l.drop 4).take 2)) (numF (l.drop 6)) else none:=rfl
theorem nf_rd {form pv:Int} {l:List UInt8} {w w':World} {e:Ending} (hf:formB form=true) (hp:1<=pv/\pv<=9900) (h:RetW (Qa1 form pv l) w e w'):Qbk (rdN form pv l) (rdF form pv l) w e w':=by
 cases ho:Qa1 form pv l with
 | none=>obtain ⟨a,b⟩:=rd_none hf hp ho;rw [ho] at h;rw [a,b];exact h
 | some v=>obtain ⟨a,b⟩:=rd_some hf hp ho;rw [ho] at h;rw [a,b];exact h
theorem dayO_yes {y m d:Int} (h:Qa7 y m d=true):dayO y m d=some (num y m d):=if_pos h
theorem dayO_none {y m d:Int} (h:Qa7 y m d=false):dayO y m d=none:=if_neg (by rw [h];simp)
theorem QaN:Qa7 (-1) (-1) (-1)=false:=rfl
theorem Qak (n lo hi:Int) (w:World) (h:lo<=n/\n<=hi):Calls Tryz.prog 176 #[.int .i64 n,.int .i64 lo,.int .i64 hi] w fun e w'=>w=w'/\e=.returned (.bool true):=by
 have:=QaK n lo hi w
 rw [decide_eq_true h] at this
 exact this
theorem within_no (n lo hi:Int) (w:World) (h:¬ (lo<=n/\n<=hi)):Calls Tryz.prog 176 #[.int .i64 n,.int .i64 lo,.int .i64 hi] w fun e w'=>w=w'/\e=.returned (.bool false):=by
 have:=QaK n lo hi w
 rw [decide_eq_false h] at this
 exact this
theorem rread1_c (s:ByteArray) (pv:Int) (w:World) (hs:s.size<=9223372036854775807) (hp:1<=pv/\pv<=9900) :
  Calls Tryz.prog 152 #[.string s,.int .i64 1,.int .i64 pv] w (RetW (Qa1 1 pv s.data.toList) w):=by
 obtain ⟨p1,p2⟩:=hp
 have hl:=szL s
 obtain ⟨O,hO⟩:=ex_ (Qa1 1 pv s.data.toList)
 rw [hO]
 by_cases hz:s.size=8
 case neg=>
  have e8:((s.size:Int)==8)=false:=beq_eq_false_iff_ne.2 (by omega)
  have HO:=Hd (show O=none by rw [<- hO];rw [eqO1,if_neg (by rw [hl];exact hz)])
  clear hO hl hz
  go_enter Tryz.func152,Tryz.ntmps152
  go_wp2_with fail
  refine (Qak _ _ _ _ ⟨by decide,by decide⟩).mono ?_
  rintro e w1 ⟨rfl,rfl⟩
  go_wp2_with fail
  refine (Qak _ _ _ _ ⟨p1,p2⟩).mono ?_
  rintro e w1 ⟨rfl,rfl⟩
  go_wp2_with fail
  refine (QaP _ _ _ _ ⟨by decide,by decide⟩).mono ?_
  rw [QaY QaN,QaN,if_neg (by simp)]
  rintro e w2 ⟨rfl,hb2⟩
  go_wp2
  go_ret2
  exact QaI HO.out hb2
 have e8:((s.size:Int)==8)=true:=beq_iff_eq.2 (by omega)
 have q4:(4:Int)<=(s.size:Int):=by omega
 have q6:(6:Int)<=(s.size:Int):=by omega
 obtain ⟨A,hA⟩:=ex_ (s.extract 0 4)
 obtain ⟨B,hB⟩:=ex_ (s.extract 4 6)
 obtain ⟨C,hC⟩:=ex_ (s.extract 6 s.size)
 have zA:A.size<=4:=by rw [<- hA,ByteArray.size_extract];omega
 have zB:B.size<=2:=by rw [<- hB,ByteArray.size_extract];omega
 have zC:C.size<=4:=by rw [<- hC,ByteArray.size_extract];omega
 have HA:=Hd (fun w=>QaH A w (by omega))
 have HB:=Hd (fun w=>QaH B w (by omega))
 have HC:=Hd (fun w=>QaH C w (by omega))
 obtain ⟨X,hX⟩:=ex_ (numF A.data.toList)
 obtain ⟨Y,hY⟩:=ex_ (numF B.data.toList)
 obtain ⟨Z,hZ⟩:=ex_ (numF C.data.toList)
 rw [hX] at HA
 rw [hY] at HB
 rw [hZ] at HC
 have x1:=numF_lo A.data.toList
 have x2:=numF_hi (l:=A.data.toList) (k:=4) (N:=10000) (by rw [szL];exact zA) (by decide) (by decide)
 rw [hX] at x1 x2
 have e1:s.data.toList.take 4=A.data.toList:=by rw [<- hA,ext_to]
 have e2:(s.data.toList.drop 4).take 2=B.data.toList:=by rw [<- hB,ext_mid]
 have e3:s.data.toList.drop 6=C.data.toList:=by rw [<- hC,ext_from]
 rw [eqO1,if_pos (by rw [hl];exact hz),e1,e2,e3,hX,hY,hZ] at hO
 clear hX hY hZ e1 e2 e3 zA zB zC hz hl
 cases hd:Qa7 X Y Z with
 | true=>
  have HD:=Hd hd
  have HO:=Hd (hO.symm.trans (dayO_yes hd))
  clear hO hd
  go_enter Tryz.func152,Tryz.ntmps152
  go_wp2_with fail
  refine (Qak _ _ _ _ ⟨by decide,by decide⟩).mono ?_
  rintro e w1 ⟨rfl,rfl⟩
  go_wp2_with fail
  refine (Qak _ _ _ _ ⟨p1,p2⟩).mono ?_
  rintro e w1 ⟨rfl,rfl⟩
  go_wp2_with fail
  go_quiet (first | (go_at_call_of 205 (Value.string A);exact Calls.quiet_of_same (HA.out _)) | (go_at_call_of 205 (Value.string B);exact Calls.quiet_of_same (HB.out _)) | (go_at_call_of 205 (Value.string C);exact Calls.quiet_of_same (HC.out _)))
  go_wp2_with fail
  refine (QaP _ _ _ _ ⟨by omega,by omega⟩).mono ?_
  rw [dayR_yes HD.out,HD.out,if_pos rfl]
  rintro e w2 ⟨rfl,hb2⟩
  go_wp2
  go_ret2
  exact retW_some HO.out (Qab hb2 (below_drewN (Below.refl _ _) _) (Nat.le_refl _))
 | false=>
  have HD:=Hd hd
  have HO:=Hd (hO.symm.trans (dayO_none hd))
  clear hO hd
  go_enter Tryz.func152,Tryz.ntmps152
  go_wp2_with fail
  refine (Qak _ _ _ _ ⟨by decide,by decide⟩).mono ?_
  rintro e w1 ⟨rfl,rfl⟩
  go_wp2_with fail
  refine (Qak _ _ _ _ ⟨p1,p2⟩).mono ?_
  rintro e w1 ⟨rfl,rfl⟩
  go_wp2_with fail
  go_quiet (first | (go_at_call_of 205 (Value.string A);exact Calls.quiet_of_same (HA.out _)) | (go_at_call_of 205 (Value.string B);exact Calls.quiet_of_same (HB.out _)) | (go_at_call_of 205 (Value.string C);exact Calls.quiet_of_same (HC.out _)))
  go_wp2_with fail
  refine (QaP _ _ _ _ ⟨by omega,by omega⟩).mono ?_
  rw [QaY HD.out,HD.out,if_neg (by simp)]
  rintro e w2 ⟨rfl,hb2⟩
  go_wp2
  go_ret2
  exact QaI HO.out (Qab hb2 (below_drewN (Below.refl _ _) _) (Nat.le_refl _))
theorem rread2_c (s:ByteArray) (pv:Int) (w:World) (hs:s.size<=9223372036854775807) (hp:1<=pv/\pv<=9900) :
  Calls Tryz.prog 152 #[.string s,.int .i64 2,.int .i64 pv] w (RetW (Qa1 2 pv s.data.toList) w):=by
 obtain ⟨p1,p2⟩:=hp
 have hl:=szL s
 obtain ⟨O,hO⟩:=ex_ (Qa1 2 pv s.data.toList)
 rw [hO]
 by_cases hz:s.size=6
 case neg=>
  have e8:((s.size:Int)==6)=false:=beq_eq_false_iff_ne.2 (by omega)
  have HO:=Hd (show O=none by rw [<- hO];rw [eqO2,if_neg (by rw [hl];exact hz)])
  clear hO hl hz
  go_enter Tryz.func152,Tryz.ntmps152
  go_wp2_with fail
  refine (Qak _ _ _ _ ⟨by decide,by decide⟩).mono ?_
  rintro e w1 ⟨rfl,rfl⟩
  go_wp2_with fail
  refine (Qak _ _ _ _ ⟨p1,p2⟩).mono ?_
  rintro e w1 ⟨rfl,rfl⟩
  go_wp2_with fail
  refine (QaP _ _ _ _ ⟨by decide,by decide⟩).mono ?_
  rw [QaY QaN,QaN,if_neg (by simp)]
  rintro e w2 ⟨rfl,hb2⟩
  go_wp2
  go_ret2
  exact QaI HO.out hb2
 have e8:((s.size:Int)==6)=true:=beq_iff_eq.2 (by omega)
 have q2:(2:Int)<=(s.size:Int):=by omega
 have q4:(4:Int)<=(s.size:Int):=by omega
 obtain ⟨A,hA⟩:=ex_ (s.extract 0 2)
 obtain ⟨B,hB⟩:=ex_ (s.extract 2 4)
 obtain ⟨C,hC⟩:=ex_ (s.extract 4 s.size)
 have zA:A.size<=4:=by rw [<- hA,ByteArray.size_extract];omega
 have zB:B.size<=2:=by rw [<- hB,ByteArray.size_extract];omega
 have zC:C.size<=4:=by rw [<- hC,ByteArray.size_extract];omega
 have HA:=Hd (fun w=>QaH A w (by omega))
 have HB:=Hd (fun w=>QaH B w (by omega))
 have HC:=Hd (fun w=>QaH C w (by omega))
 obtain ⟨X,hX⟩:=ex_ (numF A.data.toList)
 obtain ⟨Y,hY⟩:=ex_ (numF B.data.toList)
 obtain ⟨Z,hZ⟩:=ex_ (numF C.data.toList)
 rw [hX] at HA
 rw [hY] at HB
 rw [hZ] at HC
 have x1:=numF_lo A.data.toList
 have x2:=numF_hi (l:=A.data.toList) (k:=4) (N:=10000) (by rw [szL];exact zA) (by decide) (by decide)
 rw [hX] at x1 x2
 have e1:s.data.toList.take 2=A.data.toList:=by rw [<- hA,ext_to]
 have e2:(s.data.toList.drop 2).take 2=B.data.toList:=by rw [<- hB,ext_mid]
 have e3:s.data.toList.drop 4=C.data.toList:=by rw [<- hC,ext_from]
 rw [eqO2,if_pos (by rw [hl];exact hz),e1,e2,e3,hX,hY,hZ] at hO
 clear hX hY hZ e1 e2 e3 zA zB zC hz hl
 by_cases hx:0<=X
 case neg=>
  rw [if_neg hx] at hO
  have HO:=Hd hO.symm
  have hd:Qa7 X Y Z=false:=QbK (by omega)
  have HD:=Hd hd
  clear hO hd
  go_enter Tryz.func152,Tryz.ntmps152
  go_wp2_with fail
  refine (Qak _ _ _ _ ⟨by decide,by decide⟩).mono ?_
  rintro e w1 ⟨rfl,rfl⟩
  go_wp2_with fail
  refine (Qak _ _ _ _ ⟨p1,p2⟩).mono ?_
  rintro e w1 ⟨rfl,rfl⟩
  go_wp2_with fail
  go_quiet (first | (go_at_call_of 205 (Value.string A);exact Calls.quiet_of_same (HA.out _)) | (go_at_call_of 205 (Value.string B);exact Calls.quiet_of_same (HB.out _)) | (go_at_call_of 205 (Value.string C);exact Calls.quiet_of_same (HC.out _)))
  go_wp2_with fail
  refine (QaP _ _ _ _ ⟨by omega,by omega⟩).mono ?_
  rw [QaY HD.out,HD.out,if_neg (by simp)]
  rintro e w2 ⟨rfl,hb2⟩
  go_wp2
  go_ret2
  exact QaI HO.out (Qab hb2 (below_drewN (Below.refl _ _) _) (Nat.le_refl _))
 rw [if_pos hx] at hO
 cases hd:Qa7 (pv+(X-pv)%100) Y Z with
 | true=>
  have HD:=Hd hd
  have HO:=Hd (hO.symm.trans (dayO_yes hd))
  clear hO hd
  go_enter Tryz.func152,Tryz.ntmps152
  go_wp2_with fail
  refine (Qak _ _ _ _ ⟨by decide,by decide⟩).mono ?_
  rintro e w1 ⟨rfl,rfl⟩
  go_wp2_with fail
  refine (Qak _ _ _ _ ⟨p1,p2⟩).mono ?_
  rintro e w1 ⟨rfl,rfl⟩
  go_wp2_with fail
  go_quiet (first | (go_at_call_of 205 (Value.string A);exact Calls.quiet_of_same (HA.out _)) | (go_at_call_of 205 (Value.string B);exact Calls.quiet_of_same (HB.out _)) | (go_at_call_of 205 (Value.string C);exact Calls.quiet_of_same (HC.out _)))
  go_wp2_with fail
  refine (QaP _ _ _ _ ⟨by omega,by omega⟩).mono ?_
  rw [dayR_yes HD.out,HD.out,if_pos rfl]
  rintro e w2 ⟨rfl,hb2⟩
  go_wp2
  go_ret2
  exact retW_some HO.out (Qab hb2 (below_drewN (Below.refl _ _) _) (Nat.le_refl _))
 | false=>
  have HD:=Hd hd
  have HO:=Hd (hO.symm.trans (dayO_none hd))
  clear hO hd
  go_enter Tryz.func152,Tryz.ntmps152
  go_wp2_with fail
  refine (Qak _ _ _ _ ⟨by decide,by decide⟩).mono ?_
  rintro e w1 ⟨rfl,rfl⟩
  go_wp2_with fail
  refine (Qak _ _ _ _ ⟨p1,p2⟩).mono ?_
  rintro e w1 ⟨rfl,rfl⟩
  go_wp2_with fail
  go_quiet (first | (go_at_call_of 205 (Value.string A);exact Calls.quiet_of_same (HA.out _)) | (go_at_call_of 205 (Value.string B);exact Calls.quiet_of_same (HB.out _)) | (go_at_call_of 205 (Value.string C);exact Calls.quiet_of_same (HC.out _)))
  go_wp2_with fail
  refine (QaP _ _ _ _ ⟨by omega,by omega⟩).mono ?_
  rw [QaY HD.out,HD.out,if_neg (by simp)]
  rintro e w2 ⟨rfl,hb2⟩
  go_wp2
  go_ret2
  exact QaI HO.out (Qab hb2 (below_drewN (Below.refl _ _) _) (Nat.le_refl _))
theorem rread3_c (s:ByteArray) (pv:Int) (w:World) (hs:s.size<=9223372036854775807) (hp:1<=pv/\pv<=9900) :
  Calls Tryz.prog 152 #[.string s,.int .i64 3,.int .i64 pv] w (RetW (Qa1 3 pv s.data.toList) w):=by
 obtain ⟨p1,p2⟩:=hp
 have hl:=szL s
 obtain ⟨O,hO⟩:=ex_ (Qa1 3 pv s.data.toList)
 rw [hO]
 by_cases hz:s.size=8
 case neg=>
  have e8:((s.size:Int)==8)=false:=beq_eq_false_iff_ne.2 (by omega)
  have HO:=Hd (show O=none by rw [<- hO];rw [eqO3,if_neg (by rw [hl];exact hz)])
  clear hO hl hz
  go_enter Tryz.func152,Tryz.ntmps152
  go_wp2_with fail
  refine (Qak _ _ _ _ ⟨by decide,by decide⟩).mono ?_
  rintro e w1 ⟨rfl,rfl⟩
  go_wp2_with fail
  refine (Qak _ _ _ _ ⟨p1,p2⟩).mono ?_
  rintro e w1 ⟨rfl,rfl⟩
  go_wp2_with fail
  refine (QaP _ _ _ _ ⟨by decide,by decide⟩).mono ?_
  rw [QaY QaN,QaN,if_neg (by simp)]
  rintro e w2 ⟨rfl,hb2⟩
  go_wp2
  go_ret2
  exact QaI HO.out hb2
 have e8:((s.size:Int)==8)=true:=beq_iff_eq.2 (by omega)
 have q2:(2:Int)<=(s.size:Int):=by omega
 have q4:(4:Int)<=(s.size:Int):=by omega
 obtain ⟨A,hA⟩:=ex_ (s.extract 4 s.size)
 obtain ⟨B,hB⟩:=ex_ (s.extract 2 4)
 obtain ⟨C,hC⟩:=ex_ (s.extract 0 2)
 have zA:A.size<=4:=by rw [<- hA,ByteArray.size_extract];omega
 have zB:B.size<=2:=by rw [<- hB,ByteArray.size_extract];omega
 have zC:C.size<=4:=by rw [<- hC,ByteArray.size_extract];omega
 have HA:=Hd (fun w=>QaH A w (by omega))
 have HB:=Hd (fun w=>QaH B w (by omega))
 have HC:=Hd (fun w=>QaH C w (by omega))
 obtain ⟨X,hX⟩:=ex_ (numF A.data.toList)
 obtain ⟨Y,hY⟩:=ex_ (numF B.data.toList)
 obtain ⟨Z,hZ⟩:=ex_ (numF C.data.toList)
 rw [hX] at HA
 rw [hY] at HB
 rw [hZ] at HC
 have x1:=numF_lo A.data.toList
 have x2:=numF_hi (l:=A.data.toList) (k:=4) (N:=10000) (by rw [szL];exact zA) (by decide) (by decide)
 rw [hX] at x1 x2
 have e1:s.data.toList.drop 4=A.data.toList:=by rw [<- hA,ext_from]
 have e2:(s.data.toList.drop 2).take 2=B.data.toList:=by rw [<- hB,ext_mid]
 have e3:s.data.toList.take 2=C.data.toList:=by rw [<- hC,ext_to]
 rw [eqO3,if_pos (by rw [hl];exact hz),e1,e2,e3,hX,hY,hZ] at hO
 clear hX hY hZ e1 e2 e3 zA zB zC hz hl
 cases hd:Qa7 X Y Z with
 | true=>
  have HD:=Hd hd
  have HO:=Hd (hO.symm.trans (dayO_yes hd))
  clear hO hd
  go_enter Tryz.func152,Tryz.ntmps152
  go_wp2_with fail
  refine (Qak _ _ _ _ ⟨by decide,by decide⟩).mono ?_
  rintro e w1 ⟨rfl,rfl⟩
  go_wp2_with fail
  refine (Qak _ _ _ _ ⟨p1,p2⟩).mono ?_
  rintro e w1 ⟨rfl,rfl⟩
  go_wp2_with fail
  go_quiet (first | (go_at_call_of 205 (Value.string A);exact Calls.quiet_of_same (HA.out _)) | (go_at_call_of 205 (Value.string B);exact Calls.quiet_of_same (HB.out _)) | (go_at_call_of 205 (Value.string C);exact Calls.quiet_of_same (HC.out _)))
  go_wp2_with fail
  refine (QaP _ _ _ _ ⟨by omega,by omega⟩).mono ?_
  rw [dayR_yes HD.out,HD.out,if_pos rfl]
  rintro e w2 ⟨rfl,hb2⟩
  go_wp2
  go_ret2
  exact retW_some HO.out (Qab hb2 (below_drewN (Below.refl _ _) _) (Nat.le_refl _))
 | false=>
  have HD:=Hd hd
  have HO:=Hd (hO.symm.trans (dayO_none hd))
  clear hO hd
  go_enter Tryz.func152,Tryz.ntmps152
  go_wp2_with fail
  refine (Qak _ _ _ _ ⟨by decide,by decide⟩).mono ?_
  rintro e w1 ⟨rfl,rfl⟩
  go_wp2_with fail
  refine (Qak _ _ _ _ ⟨p1,p2⟩).mono ?_
  rintro e w1 ⟨rfl,rfl⟩
  go_wp2_with fail
  go_quiet (first | (go_at_call_of 205 (Value.string A);exact Calls.quiet_of_same (HA.out _)) | (go_at_call_of 205 (Value.string B);exact Calls.quiet_of_same (HB.out _)) | (go_at_call_of 205 (Value.string C);exact Calls.quiet_of_same (HC.out _)))
  go_wp2_with fail
  refine (QaP _ _ _ _ ⟨by omega,by omega⟩).mono ?_
  rw [QaY HD.out,HD.out,if_neg (by simp)]
  rintro e w2 ⟨rfl,hb2⟩
  go_wp2
  go_ret2
  exact QaI HO.out (Qab hb2 (below_drewN (Below.refl _ _) _) (Nat.le_refl _))
theorem rread4_c (s:ByteArray) (pv:Int) (w:World) (hs:s.size<=9223372036854775807) (hp:1<=pv/\pv<=9900) :
  Calls Tryz.prog 152 #[.string s,.int .i64 4,.int .i64 pv] w (RetW (Qa1 4 pv s.data.toList) w):=by
 obtain ⟨p1,p2⟩:=hp
 have hl:=szL s
 obtain ⟨O,hO⟩:=ex_ (Qa1 4 pv s.data.toList)
 rw [hO]
 by_cases hz:s.size=10
 case neg=>
  have e8:((s.size:Int)==10)=false:=beq_eq_false_iff_ne.2 (by omega)
  have HO:=Hd (show O=none by rw [<- hO];exact readO4_no (decide_eq_false (fun h=>by omega)))
  clear hO hl hz
  go_enter Tryz.func152,Tryz.ntmps152
  go_wp2_with fail
  refine (Qak _ _ _ _ ⟨by decide,by decide⟩).mono ?_
  rintro e w1 ⟨rfl,rfl⟩
  go_wp2_with fail
  refine (Qak _ _ _ _ ⟨p1,p2⟩).mono ?_
  rintro e w1 ⟨rfl,rfl⟩
  go_wp2_with fail
  refine (QaP _ _ _ _ ⟨by decide,by decide⟩).mono ?_
  rw [QaY QaN,QaN,if_neg (by simp)]
  rintro e w2 ⟨rfl,hb2⟩
  go_wp2
  go_ret2
  exact QaI HO.out hb2
 have e8:((s.size:Int)==10)=true:=beq_iff_eq.2 (by omega)
 have q4:(4:Int)<=(s.size:Int):=by omega
 have q5:(5:Int)<=(s.size:Int):=by omega
 have q7:(7:Int)<=(s.size:Int):=by omega
 have q8:(8:Int)<=(s.size:Int):=by omega
 have j4:4<s.size:=by omega
 have j7:7<s.size:=by omega
 have b4:=byS s 4 j4
 have b7:=byS s 7 j7
 have i4:(4:Int)<(s.size:Int):=by omega
 have i7:(7:Int)<(s.size:Int):=by omega
 by_cases h4:((s[4]'j4).toNat:Int)=45
 case neg=>
  have f4:(((s[4]'j4).toNat:Int)==45)=false:=beq_eq_false_iff_ne.2 h4
  have HO:=Hd (show O=none by rw [<- hO];exact readO4_no (decide_eq_false (fun h=>h4 (by rw [b4];exact h.2.1))))
  clear hO hl hz b4 b7 h4
  go_enter Tryz.func152,Tryz.ntmps152
  go_wp2_with fail
  refine (Qak _ _ _ _ ⟨by decide,by decide⟩).mono ?_
  rintro e w1 ⟨rfl,rfl⟩
  go_wp2_with fail
  refine (Qak _ _ _ _ ⟨p1,p2⟩).mono ?_
  rintro e w1 ⟨rfl,rfl⟩
  go_wp2_with fail
  refine (QaP _ _ _ _ ⟨by decide,by decide⟩).mono ?_
  rw [QaY QaN,QaN,if_neg (by simp)]
  rintro e w2 ⟨rfl,hb2⟩
  go_wp2
  go_ret2
  exact QaI HO.out hb2
 have f4:(((s[4]'j4).toNat:Int)==45)=true:=beq_iff_eq.2 h4
 by_cases h7:((s[7]'j7).toNat:Int)=45
 case neg=>
  have f7:(((s[7]'j7).toNat:Int)==45)=false:=beq_eq_false_iff_ne.2 h7
  have HO:=Hd (show O=none by rw [<- hO];exact readO4_no (decide_eq_false (fun h=>h7 (by rw [b7];exact h.2.2))))
  clear hO hl hz b4 b7 h4 h7
  go_enter Tryz.func152,Tryz.ntmps152
  go_wp2_with fail
  refine (Qak _ _ _ _ ⟨by decide,by decide⟩).mono ?_
  rintro e w1 ⟨rfl,rfl⟩
  go_wp2_with fail
  refine (Qak _ _ _ _ ⟨p1,p2⟩).mono ?_
  rintro e w1 ⟨rfl,rfl⟩
  go_wp2_with fail
  refine (QaP _ _ _ _ ⟨by decide,by decide⟩).mono ?_
  rw [QaY QaN,QaN,if_neg (by simp)]
  rintro e w2 ⟨rfl,hb2⟩
  go_wp2
  go_ret2
  exact QaI HO.out hb2
 have f7:(((s[7]'j7).toNat:Int)==45)=true:=beq_iff_eq.2 h7
 have hpt:pointB s.data.toList=true:=decide_eq_true ⟨by omega,by rw [<- b4];exact h4,by rw [<- b7];exact h7⟩
 clear h4 h7 b4 b7
 obtain ⟨A,hA⟩:=ex_ (s.extract 0 4)
 obtain ⟨B,hB⟩:=ex_ (s.extract 5 7)
 obtain ⟨C,hC⟩:=ex_ (s.extract 8 s.size)
 have zA:A.size<=4:=by rw [<- hA,ByteArray.size_extract];omega
 have zB:B.size<=2:=by rw [<- hB,ByteArray.size_extract];omega
 have zC:C.size<=4:=by rw [<- hC,ByteArray.size_extract];omega
 have HA:=Hd (fun w=>QaH A w (by omega))
 have HB:=Hd (fun w=>QaH B w (by omega))
 have HC:=Hd (fun w=>QaH C w (by omega))
 obtain ⟨X,hX⟩:=ex_ (numF A.data.toList)
 obtain ⟨Y,hY⟩:=ex_ (numF B.data.toList)
 obtain ⟨Z,hZ⟩:=ex_ (numF C.data.toList)
 rw [hX] at HA
 rw [hY] at HB
 rw [hZ] at HC
 have x1:=numF_lo A.data.toList
 have x2:=numF_hi (l:=A.data.toList) (k:=4) (N:=10000) (by rw [szL];exact zA) (by decide) (by decide)
 rw [hX] at x1 x2
 have e1:s.data.toList.take 4=A.data.toList:=by rw [<- hA,ext_to]
 have e2:(s.data.toList.drop 5).take 2=B.data.toList:=by rw [<- hB,ext_mid]
 have e3:s.data.toList.drop 8=C.data.toList:=by rw [<- hC,ext_from]
 rw [readO4_yes hpt,e1,e2,e3,hX,hY,hZ] at hO
 clear hX hY hZ e1 e2 e3 zA zB zC hz hl hpt
 cases hd:Qa7 X Y Z with
 | true=>
  have HD:=Hd hd
  have HO:=Hd (hO.symm.trans (dayO_yes hd))
  clear hO hd
  go_enter Tryz.func152,Tryz.ntmps152
  go_wp2_with fail
  refine (Qak _ _ _ _ ⟨by decide,by decide⟩).mono ?_
  rintro e w1 ⟨rfl,rfl⟩
  go_wp2_with fail
  refine (Qak _ _ _ _ ⟨p1,p2⟩).mono ?_
  rintro e w1 ⟨rfl,rfl⟩
  go_wp2_with fail
  go_quiet (first | (go_at_call_of 205 (Value.string A);exact Calls.quiet_of_same (HA.out _)) | (go_at_call_of 205 (Value.string B);exact Calls.quiet_of_same (HB.out _)) | (go_at_call_of 205 (Value.string C);exact Calls.quiet_of_same (HC.out _)))
  go_wp2_with fail
  refine (QaP _ _ _ _ ⟨by omega,by omega⟩).mono ?_
  rw [dayR_yes HD.out,HD.out,if_pos rfl]
  rintro e w2 ⟨rfl,hb2⟩
  go_wp2
  go_ret2
  exact retW_some HO.out (Qab hb2 (below_drewN (Below.refl _ _) _) (Nat.le_refl _))
 | false=>
  have HD:=Hd hd
  have HO:=Hd (hO.symm.trans (dayO_none hd))
  clear hO hd
  go_enter Tryz.func152,Tryz.ntmps152
  go_wp2_with fail
  refine (Qak _ _ _ _ ⟨by decide,by decide⟩).mono ?_
  rintro e w1 ⟨rfl,rfl⟩
  go_wp2_with fail
  refine (Qak _ _ _ _ ⟨p1,p2⟩).mono ?_
  rintro e w1 ⟨rfl,rfl⟩
  go_wp2_with fail
  go_quiet (first | (go_at_call_of 205 (Value.string A);exact Calls.quiet_of_same (HA.out _)) | (go_at_call_of 205 (Value.string B);exact Calls.quiet_of_same (HB.out _)) | (go_at_call_of 205 (Value.string C);exact Calls.quiet_of_same (HC.out _)))
  go_wp2_with fail
  refine (QaP _ _ _ _ ⟨by omega,by omega⟩).mono ?_
  rw [QaY HD.out,HD.out,if_neg (by simp)]
  rintro e w2 ⟨rfl,hb2⟩
  go_wp2
  go_ret2
  exact QaI HO.out (Qab hb2 (below_drewN (Below.refl _ _) _) (Nat.le_refl _))
theorem rread5_c (s:ByteArray) (pv:Int) (w:World) (hs:s.size<=9223372036854775807) (hp:1<=pv/\pv<=9900) :
  Calls Tryz.prog 152 #[.string s,.int .i64 5,.int .i64 pv] w (RetW (Qa1 5 pv s.data.toList) w):=by
 obtain ⟨p1,p2⟩:=hp
 have hl:=szL s
 obtain ⟨O,hO⟩:=ex_ (Qa1 5 pv s.data.toList)
 rw [hO]
 by_cases hz:s.size=7
 case neg=>
  have e8:((s.size:Int)==7)=false:=beq_eq_false_iff_ne.2 (by omega)
  have HO:=Hd (show O=none by rw [<- hO,eqO5,if_neg (by rw [hl];exact hz)])
  clear hO hl hz
  go_enter Tryz.func152,Tryz.ntmps152
  go_wp2_with fail
  refine (Qak _ _ _ _ ⟨by decide,by decide⟩).mono ?_
  rintro e w1 ⟨rfl,rfl⟩
  go_wp2_with fail
  refine (Qak _ _ _ _ ⟨p1,p2⟩).mono ?_
  rintro e w1 ⟨rfl,rfl⟩
  go_wp2_with fail
  refine (QaP _ _ _ _ ⟨by decide,by decide⟩).mono ?_
  rw [QaY QaN,QaN,if_neg (by simp)]
  rintro e w2 ⟨rfl,hb2⟩
  go_wp2
  go_ret2
  exact QaI HO.out hb2
 have e8:((s.size:Int)==7)=true:=beq_iff_eq.2 (by omega)
 have HW:=Hd (fun w=>readweek_c s w hz)
 rw [eqO5,if_pos (by rw [hl];exact hz)] at hO
 rw [hO] at HW
 clear hO hl hz
 cases O with
 | none=>
  have HW2:=Hd (show ∀ w,Calls Tryz.prog 206 #[.string s] w (fun e w'=>e=.returned (.tuple #[.int .i64 0,.int .i64 10])/\Below w.heap.size w w') from HW.out)
  go_enter Tryz.func152,Tryz.ntmps152
  go_wp2_with fail
  refine (Qak _ _ _ _ ⟨by decide,by decide⟩).mono ?_
  rintro e w1 ⟨rfl,rfl⟩
  go_wp2_with fail
  refine (Qak _ _ _ _ ⟨p1,p2⟩).mono ?_
  rintro e w1 ⟨rfl,rfl⟩
  go_wp2_with fail
  refine (HW2.out _).mono ?_
  rintro e w2 ⟨rfl,hb2⟩
  go_wp2
  go_ret2
  exact ⟨rfl,hb2⟩
 | some v=>
  have HW2:=Hd (show ∀ w,Calls Tryz.prog 206 #[.string s] w (fun e w'=>e=.returned (.tuple #[.int .i64 v,.int .i64 0])/\Below w.heap.size w w') from HW.out)
  go_enter Tryz.func152,Tryz.ntmps152
  go_wp2_with fail
  refine (Qak _ _ _ _ ⟨by decide,by decide⟩).mono ?_
  rintro e w1 ⟨rfl,rfl⟩
  go_wp2_with fail
  refine (Qak _ _ _ _ ⟨p1,p2⟩).mono ?_
  rintro e w1 ⟨rfl,rfl⟩
  go_wp2_with fail
  refine (HW2.out _).mono ?_
  rintro e w2 ⟨rfl,hb2⟩
  go_wp2
  go_ret2
  exact ⟨rfl,hb2⟩
theorem rReadDay_c (s:ByteArray) (form pv:Int) (w:World) (hs:s.size<=9223372036854775807) :
  Calls Tryz.prog 152 #[.string s,.int .i64 form,.int .i64 pv] w (Qbk (rdN form pv s.data.toList) (rdF form pv s.data.toList) w):=by
 cases hf:formB form with
 | false=>
  unfold rdN rdF
  rw [hf,if_neg (by simp),if_pos rfl]
  have h:¬ (1<=form/\form<=5):=of_decide_eq_false hf
  clear hf
  go_enter Tryz.func152,Tryz.ntmps152
  go_wp2_with fail
  refine (within_no _ _ _ _ h).mono ?_
  rintro e w1 ⟨rfl,rfl⟩
  go_wp2
  go_ret2
  exact ⟨rfl,Below.refl _ _⟩
 | true=>
  have h:1<=form/\form<=5:=of_decide_eq_true hf
  by_cases hp:1<=pv/\pv<=9900
  case neg=>
   unfold rdN rdF
   rw [hf,if_neg (fun h=>hp h.2),if_neg (by simp),if_pos hp]
   clear hf
   go_enter Tryz.func152,Tryz.ntmps152
   go_wp2_with fail
   refine (Qak _ _ _ _ h).mono ?_
   rintro e w1 ⟨rfl,rfl⟩
   go_wp2_with fail
   refine (within_no _ _ _ _ hp).mono ?_
   rintro e w1 ⟨rfl,rfl⟩
   go_wp2
   go_ret2
   exact ⟨rfl,Below.refl _ _⟩
  rcases (show form=1∨form=2∨form=3∨form=4∨form=5 by omega) with rfl | rfl | rfl | rfl | rfl
  ·exact (rread1_c s pv w hs hp).mono fun _ _ h=>nf_rd hf hp h
  ·exact (rread2_c s pv w hs hp).mono fun _ _ h=>nf_rd hf hp h
  ·exact (rread3_c s pv w hs hp).mono fun _ _ h=>nf_rd hf hp h
  ·exact (rread4_c s pv w hs hp).mono fun _ _ h=>nf_rd hf hp h
  ·exact (rread5_c s pv w hs hp).mono fun _ _ h=>nf_rd hf hp h
end Go.Proofs.YtaiabjiehpcaoaaGreatDoor
