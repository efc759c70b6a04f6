/- The walks of the reference's isPlain, isOf, written. (Printed by genV4.py.) The walk of the reference's written. -/
import Derived.Test.YtaiabjiehpcaoaaGreatDoorV2
import Derived.Test.YtaiabjiehpcaoaaGreatDoorK5
import Derived.Test.YtaiabjiehpcaoaaGreatDoorM5
import Derived.Test.YtaiabjiehpcaoaaGreatDoorT16
import Derived.Test.YtaiabjiehpcaoaaGreatDoorRH
import Derived.Test.YtaiabjiehpcaoaaGreatDoorRows
import Derived.Test.YtaiabjiehpcaoaaGreatDoorE1
import Derived.WalkKit
import Derived.ProofKit
import Derived.OpenShut
import Derived.ChangeOld
import Derived.ChangeSame
import Derived.ChangeSlices
import Derived.Below
import Derived.Lib.SmallJoins
import Derived.Deep.Slices
import Derived.Deep.Fields
-- merged: V4 V5 J1
set_option maxHeartbeats 4000000
set_option maxRecDepth 100000
namespace Go.Proofs.YtaiabjiehpcaoaaGreatDoor
open Go.RowKit Limb Nmb Work
set_option linter.unusedVariables false
set_option linter.unusedSimpArgs false
theorem vdec_shift {m:Nat} (h:0<m):∀ k,Lib.decDigits (m*10 ^ k)=Lib.decDigits m++List.replicate k 48
 | 0=>by simp
 | k+1=>by
  have h1:0<m*10 ^ (k+1):=Nat.mul_pos h (Nat.pow_pos (by decide))
  have h2:0<m*10 ^ k:=Nat.mul_pos h (Nat.pow_pos (by decide))
  have h3:m*10 ^ (k+1)=10*(m*10 ^ k):=by rw [Nat.pow_succ,<- Nat.mul_assoc,Nat.mul_comm]
  rw [<- tail_pos h1,QbF h1,h3,Nat.mul_div_cancel_left _ (by decide),tail_pos h2,vdec_shift h k,Nat.mul_mod_right,List.append_assoc]
  congr 1
  rw [List.replicate_succ']
  rfl
theorem vitoas_c (v:Int) (w:World) (h : -9223372036854775808<=v/\v<=9223372036854775807) (ht:Tab w) :
  Calls Tryz.prog 38 #[.int .i64 v] w fun e w'=>e=.returned (.string ⟨(Lib.itoa v).toArray⟩)/\Below w.heap.size w w':=by
 refine (Tryz.strconv_Itoa v h.1 h.2 w ht).mono ?_
 rintro e w' ⟨rfl,k,os,rfl⟩
 exact ⟨rfl,Lib.below_grow _ w (Nat.le_refl _) k os⟩
theorem vu8_ge (n:Nat) (h:n<256):(UInt8.ofNat n).toNat=n:=by rw [UInt8.toNat_ofNat'];exact Nat.mod_eq_of_lt h
theorem vdec_48:∀ (n:Nat),∀ c∈Lib.decDigits n,48<=c.toNat/\c.toNat<=57:=by
 intro n
 induction n using Nat.strongRecOn with
 | _ n ih=>
  rw [Lib.decDigits]
  by_cases h:n<10
  ·rw [dif_pos h]
   have e:=vu8_ge (48+n) (by omega)
   intro c hc
   obtain rfl:=List.mem_singleton.1 hc
   omega
  ·rw [dif_neg h]
   have e:=vu8_ge (48+n%10) (by omega)
   intro c hc
   rw [List.mem_append] at hc
   rcases hc with hc | hc
   ·exact ih (n/10) (by omega) c hc
   ·obtain rfl:=List.mem_singleton.1 hc
    omega
theorem vtrim_itoa (v:Int):Lib.trimPrefix (Lib.itoa v) [45]=Lib.decDigits v.natAbs:=by
 unfold Lib.itoa Lib.trimPrefix
 by_cases h:v<0
 ·rw [if_pos h]
  rw [if_pos (by simp [Lib.hasPrefix])]
  rfl
 ·rw [if_neg h,show v.toNat=v.natAbs by omega]
  have h1:=vdec_48 v.natAbs
  rcases hd:Lib.decDigits v.natAbs with _ | ⟨c,l⟩
  ·rfl
  ·rw [hd] at h1
   have:=h1 c (by simp)
   have hc:c≠45:=by rintro rfl;simp at this
   rw [if_neg (by simp [Lib.hasPrefix];exact fun e=>hc e.symm)]
theorem txt_bad {s:ByteArray} (h:inB s.data.toList 32 126=false):txtOk s.data.toList=false:=by
 unfold txtOk
 rw [<- show inB s.data.toList 32 126=inL s.data.toList 32 126 from inB_inL _ 32 126,h]
 rfl
theorem txt_ends {s:ByteArray} (h:inB s.data.toList 32 126=true) (h0:0<s.size):txtOk s.data.toList=(!decide ((s[0].toNat:Int)=32)&&!decide (((s[s.size-1]'(by omega)).toNat:Int)=32)):=by
 unfold txtOk
 rw [<- show inB s.data.toList 32 126=inL s.data.toList 32 126 from inB_inL _ 32 126,h,Bool.true_and]
 have hl:0<s.data.toList.length:=by simpa using h0
 have e1:s.data.toList.head?=some s[0]:=by rw [List.head?_eq_getElem?,List.getElem?_eq_getElem hl];rfl
 have e2:s.data.toList.getLast?=some (s[s.size-1]'(by omega)):=by
  rw [List.getLast?_eq_getElem?,List.getElem?_eq_getElem (by omega)]
  simp only [Array.length_toList]
  rfl
 have k:∀ c:UInt8,((c.toNat:Int)=32)↔c=32:=fun c=>⟨fun h=>UInt8.toNat_inj.1 (by have:(32:UInt8).toNat=32:=rfl;omega),fun h=>by rw [h];rfl⟩
 rw [Bool.eq_iff_iff,decide_eq_true_iff,trim_id,e1,e2]
 simp only [Bool.and_eq_true,Bool.not_eq_true',decide_eq_false_iff_not,k]
 constructor
 ·rintro ⟨a,b⟩;exact ⟨fun h=>a (by rw [h]),fun h=>b (by rw [h])⟩
 ·rintro ⟨a,b⟩;exact ⟨fun h=>a (Option.some.inj h),fun h=>b (Option.some.inj h)⟩
theorem isplain_c (s:ByteArray) (w:World) (h0:0<s.size) (hs:s.size<=9223372036854775807) :
  Calls Tryz.prog 153 #[.string s] w fun e w'=>w=w'/\e=.returned (.bool (txtOk s.data.toList)):=by
 cases h:inB s.data.toList 32 126 with
 | true=>
  rw [txt_ends h h0]
  obtain ⟨N,hN⟩:∃ N,s.size=N+1:=⟨s.size-1,by omega⟩
  obtain ⟨RES,hRES⟩:=ex_ ((!decide ((s[0].toNat:Int)=32)&&!decide (((s[s.size-1]'(by omega)).toNat:Int)=32)))
  have HA:=Hd (show RES=((s[0].toNat:Int) !=32&&((s[N]'(by omega)).toNat:Int) !=32) by
   have e:s.size-1=N:=by omega
   rw [<- hRES]
   simp only [e]
   rfl)
  rw [hRES]
  clear hRES
  go_enter Tryz.func153,Tryz.ntmps153
  go_wp2
  go_loop [6] (fun i=>∃ j:Nat,j<=s.size/\i=.int .i64 j) (fun i=>s.size-(intOf i).toNat)
  case atStart=>exact ⟨0,Nat.zero_le _,rfl⟩
  case round=>
   obtain ⟨j,hj,rfl⟩:=hrel
   rcases Nat.lt_or_ge j s.size with hjn | hjn
   ·have hb:=inB_at h j hjn
    have h1:¬ (s[j].toNat:Int)<32:=by omega
    have h2:¬ 126<(s[j].toNat:Int):=by omega
    clear hb
    go_wp2
    go_round
    case rel=>exact ⟨j+1,by omega,by go_num⟩
    case measure=>simp [intOf];omega
   ·by_cases h1:(s[0].toNat:Int)=32
    ·have k1:((s[0].toNat:Int) !=32)=false:=by simpa using h1
     have HX:=Hd (show false=RES by rw [HA.out,k1];rfl)
     clear h1
     go_wp2
     go_ret
     exact ⟨rfl,congrArg (fun b=>Ending.returned (Value.bool b)) HX.out⟩
    ·have k1:((s[0].toNat:Int) !=32)=true:=by simpa using h1
     have HX:=Hd (show (((s[N]'(by omega)).toNat:Int) !=32)=RES by rw [HA.out,k1];rfl)
     clear h1
     go_wp2
     go_ret
     exact ⟨rfl,congrArg (fun b=>Ending.returned (Value.bool b)) HX.out⟩
 | false=>
  rw [txt_bad h]
  obtain ⟨m,hm,hbad,hgood⟩:=inB_bad h
  have hm':m<s.size:=by simpa using hm
  clear h
  go_enter Tryz.func153,Tryz.ntmps153
  go_wp2
  go_loop [6] (fun i=>∃ j:Nat,j<=m/\i=.int .i64 j) (fun i=>s.size-(intOf i).toNat)
  case atStart=>exact ⟨0,Nat.zero_le _,rfl⟩
  case round=>
   obtain ⟨j,hj,rfl⟩:=hrel
   have hjn:j<s.size:=by omega
   rcases Nat.lt_or_ge j m with hjm | hjm
   ·have hb:=hgood j hjm
    rw [QbA s j hjn] at hb
    have h1:¬ (s[j].toNat:Int)<32:=by omega
    have h2:¬ 126<(s[j].toNat:Int):=by omega
    clear hb hbad hgood
    go_wp2
    go_round
    case rel=>exact ⟨j+1,by omega,by go_num⟩
    case measure=>simp [intOf];omega
   ·obtain rfl:j=m:=by omega
    have hb:=hbad
    rw [QbA s j hjn] at hb
    clear hbad hgood
    by_cases h1:(s[j].toNat:Int)<32
    ·clear hb
     go_wp2
     go_ret
     exact ⟨rfl,rfl⟩
    ·have h2:126<(s[j].toNat:Int):=by omega
     clear hb
     go_wp2
     go_ret
     exact ⟨rfl,rfl⟩
theorem isof_c (c:Col) (s:ByteArray) (w:World) (h0:0<s.size) (hs:s.size<=9223372036854775807) :
  Calls Tryz.prog 88 #[colG c,.string s] w (RetB (valOk c s.data.toList) w):=by
 obtain ⟨nm,kd,wd,pl,fm,rt,fl,nd⟩:=c
 unfold colG valOk
 simp only
 have hX:=Qac w (.cells #[.string nm,.int .i64 kd,.int .i64 wd,.int .i64 pl,.int .i64 fm,.bool rt,.int .u8 fl,.bool nd] 60) rfl
 have hB0:Below w.heap.size w (w.alloc (.cells #[.string nm,.int .i64 kd,.int .i64 wd,.int .i64 pl,.int .i64 fm,.bool rt,.int .u8 fl,.bool nd] 60)):=by go_grown
 by_cases h2:kd=2
 ·subst h2
  rw [if_pos rfl]
  have HR:=Hd (fun w=>rreadtext_c s w hs)
  obtain ⟨⟨u,p,e⟩,hr⟩:=ex_ (Qag s.data.toList)
  have hC:=dec_cases pl s.data.toList
  rw [hr] at HR hC
  simp only at hC
  have HO:=Hd hC
  clear hr hC
  unfold RetD at HR
  rcases HO.out with ⟨h1,h3⟩|⟨h1,q,h3,h4,h5⟩
  ·rw [h3]
   have h1':(e==0)=false:=beq_eq_false_iff_ne.2 h1
   clear h1 h3
   go_enter Tryz.func88,Tryz.ntmps88
   go_wp2_with fail
   refine (HR.out _).mono ?_
   rintro e w1 ⟨rfl,hb1⟩
   have hX1:=Qaa hX hb1
   have hB1:=Qab hb1 hB0 hB0.size
   obtain ⟨⟨x0,x1,x2,x3,x4,x5,x6,x7⟩,x8⟩:=QaC hX1
   clear hX hX1 hb1
   have hBD:Below w.heap.size w (w1.alloc (.cells #[.int .i64 u,.int .i64 p] 70)):=by go_grown
   go_wp2
   go_quiet (fail)
   go_wp2
   go_ret
   exact ⟨rfl,below_drewN hBD _⟩
  ·subst h1
   subst h3
   rw [h5]
   have HL:=Hd (fun w=>normal_c u q w h4)
   unfold RetLe at HL
   obtain ⟨⟨v,r⟩,hv⟩:=ex_ (Qa5 u q)
   rw [hv] at HL ⊢
   obtain ⟨RES,hRES⟩:=ex_ ((decide ((q:Int)<=pl)&&decide ((v,r)=(u,(q:Int)))))
   have HRES:=Hd hRES
   rw [hRES]
   clear hRES
   clear h5 hv h4
   go_enter Tryz.func88,Tryz.ntmps88
   go_wp2_with fail
   refine (HR.out _).mono ?_
   rintro e w1 ⟨rfl,hb1⟩
   have hX1:=Qaa hX hb1
   have hB1:=Qab hb1 hB0 hB0.size
   obtain ⟨⟨x0,x1,x2,x3,x4,x5,x6,x7⟩,x8⟩:=QaC hX1
   have HX1:=Hd hX1
   clear hX hb1
   have hD:=Qac w1 (.cells #[.int .i64 u,.int .i64 (q:Int)] 70) rfl
   have hX2:=Qad HX1.out (.cells #[.int .i64 u,.int .i64 (q:Int)] 70)
   have hBD:Below w.heap.size w (w1.alloc (.cells #[.int .i64 u,.int .i64 (q:Int)] 70)):=by go_grown
   clear x0 x1 x2 x3 x4 x5 x6 x7 x8 hX1 HX1
   go_upto_region 4 with fail
   obtain ⟨D,hDD⟩:=ex_ (w1.heap.size)
   rw [hDD] at hD ⊢
   have hwD:w.heap.size<=D:=by have:=hB1.size;omega
   generalize w1.alloc (.cells #[.int .i64 u,.int .i64 (q:Int)] 70)=w2 at hD hX2 hBD ⊢
   obtain ⟨⟨x0,x1,x2,x3,x4,x5,x6,x7⟩,x8⟩:=QaC hX2
   obtain ⟨d0,d1,-,-,d2⟩:=box2 hD
   clear hX2 hD hB1 hDD
   obtain ⟨B,hBB⟩:=ex_ (decide ((v,r)=(u,(q:Int))))
   obtain ⟨P,hPP⟩:=ex_ (decide ((q:Int)<=pl))
   have HBB:=Hd (show (decide ((q:Int)<=pl)&&decide ((v,r)=(u,(q:Int))))=(P&&B) by rw [hPP,hBB])
   have hQ1:=eql_dec v r u q
   have hQ2:=grd_dec
   rw [hBB] at hQ1
   clear hBB
   have hT:(fun w':World=>w'.cell? ⟨D,0,none⟩=some (.int .i64 u)/\w'.cell? ⟨D,1,none⟩=some (.int .i64 (q:Int))/\w'.cell? ⟨w.heap.size,3,none⟩=some (.int .i64 pl)) w2.drew:=⟨d0,d1,x3⟩
   cases B with
   | false=>
    refine Qaq 15 (fun w':World=>w'.cell? ⟨D,0,none⟩=some (.int .i64 u)/\w'.cell? ⟨D,1,none⟩=some (.int .i64 (q:Int))/\w'.cell? ⟨w.heap.size,3,none⟩=some (.int .i64 pl)) (by kernel_rfl) ?_
    refine Till.tk (i:=0) (v:=?_) rfl [1,2,7,8,14] hT (Or.inl ⟨by rfl,?_⟩) ?_
    rotate_left
    ·(intro w' hw';obtain ⟨u1,u2,u3⟩:=hw';go_simp;try with_reducible rfl)
    (try simp only [Act.put,Till.a,Till.b,Till.c])
    refine Till.tk (i:=1) (v:=?_) rfl [2,7,8,14] hT (Or.inl ⟨by rfl,?_⟩) ?_
    rotate_left
    ·(intro w' hw';obtain ⟨u1,u2,u3⟩:=hw';go_simp;try with_reducible rfl)
    (try simp only [Act.put,Till.a,Till.b,Till.c])
    refine Till.tk (i:=2) (v:=?_) rfl [7,8,14] hT (Or.inl ⟨by rfl,?_⟩) ?_
    rotate_left
    ·(intro w' hw';obtain ⟨u1,u2,u3⟩:=hw';go_simp;try with_reducible rfl)
    (try simp only [Act.put,Till.a,Till.b,Till.c])
    refine Till.tk (i:=3) (v:=?_) rfl [4,6,7,8,14] hT (Or.inl ⟨by rfl,?_⟩) ?_
    rotate_left
    ·(intro w' hw';obtain ⟨u1,u2,u3⟩:=hw';go_simp;try with_reducible rfl)
    (try simp only [Act.put,Till.a,Till.b,Till.c])
    refine Till.tk (i:=5) (v:=?_) rfl [6,7,8,14] hT (Or.inl ⟨by rfl,?_⟩) ?_
    rotate_left
    ·(intro w' hw';obtain ⟨u1,u2,u3⟩:=hw';go_simp;try with_reducible rfl)
    (try simp only [Act.put,Till.a,Till.b,Till.c])
    refine Till.step (i:=4) (by kernel_rfl) rfl ?_
    intro K hK
    go_simp
    (go_at_call 106;(with_reducible refine (HL.out _).mono ?_);rintro e w3 ⟨rfl,hb3⟩)
    have hT:(fun w':World=>w'.cell? ⟨D,0,none⟩=some (.int .i64 u)/\w'.cell? ⟨D,1,none⟩=some (.int .i64 (q:Int))/\w'.cell? ⟨w.heap.size,3,none⟩=some (.int .i64 pl)) w3:=⟨(hb3.cell (p:=⟨D,0,none⟩) d2).trans d0,(hb3.cell (p:=⟨D,1,none⟩) d2).trans d1,(hb3.cell (p:=⟨w.heap.size,3,none⟩) x8).trans x3⟩
    refine hK.out _ _ (fun _=>hT) ?_
    clear hK K
    (try simp only [Act.put,Till.a,Till.b,Till.c])
    refine Till.tk (i:=6) (v:=?_) rfl [7,8,14] hT (Or.inl ⟨by rfl,?_⟩) ?_
    rotate_left
    ·(intro w' hw';obtain ⟨u1,u2,u3⟩:=hw';go_simp;try with_reducible rfl)
    (try simp only [Act.put,Till.a,Till.b,Till.c])
    refine Till.tk (i:=7) (v:=?_) rfl [8,14] hT (Or.inl ⟨by rfl,?_⟩) ?_
    rotate_left
    ·(intro w' hw';obtain ⟨u1,u2,u3⟩:=hw';go_simp;try with_reducible rfl)
    (try simp only [Act.put,Till.a,Till.b,Till.c])
    refine Till.tk (i:=8) (v:=?_) rfl [14] hT (Or.inl ⟨by rfl,?_⟩) ?_
    rotate_left
    ·(intro w' hw';obtain ⟨u1,u2,u3⟩:=hw';go_simp;try with_reducible rfl)
    (try simp only [Act.put,Till.a,Till.b,Till.c])
    refine Till.tk (i:=9) (v:=undef) rfl [10,13,14] hT (Or.inr ⟨by rfl,rfl⟩) ?_
    (try simp only [Act.put,Till.a,Till.b,Till.c])
    refine Till.tk (i:=10) (v:=undef) rfl [13,14] hT (Or.inr ⟨by rfl,rfl⟩) ?_
    (try simp only [Act.put,Till.a,Till.b,Till.c])
    refine Till.tk (i:=11) (v:=undef) rfl [12,13,14] hT (Or.inr ⟨by rfl,rfl⟩) ?_
    (try simp only [Act.put,Till.a,Till.b,Till.c])
    refine Till.tk (i:=12) (v:=undef) rfl [13,14] hT (Or.inr ⟨by rfl,rfl⟩) ?_
    (try simp only [Act.put,Till.a,Till.b,Till.c])
    refine Till.tk (i:=13) (v:=undef) rfl [14] hT (Or.inr ⟨by rfl,rfl⟩) ?_
    (try simp only [Act.put,Till.a,Till.b,Till.c])
    refine Till.tk (i:=14) (v:=?_) rfl [] hT (Or.inl ⟨by rfl,?_⟩) ?_
    rotate_left
    ·(intro w' hw';obtain ⟨u1,u2,u3⟩:=hw';go_simp;try with_reducible rfl)
    (try simp only [Act.put,Till.a,Till.b,Till.c])
    refine Till.step (i:=15) (by kernel_rfl) rfl ?_
    intro K hK
    go_simp
    refine hK.out _ _ (fun h=>absurd h (by decide)) ?_
    clear hK K
    (try simp only [Act.put,Till.a,Till.b,Till.c])
    refine Till.done (by kernel_rfl) ?_ _
    have hB3:=Qab hb3 hBD.drew hBD.size
    go_wp2
    go_ret
    exact ⟨congrArg (fun b=>Ending.returned (Value.bool b)) (show false=RES by rw [<- HRES.out,HBB.out,Bool.and_false]),hB3⟩
   | true=>
    refine Qaq 15 (fun w':World=>w'.cell? ⟨D,0,none⟩=some (.int .i64 u)/\w'.cell? ⟨D,1,none⟩=some (.int .i64 (q:Int))/\w'.cell? ⟨w.heap.size,3,none⟩=some (.int .i64 pl)) (by kernel_rfl) ?_
    refine Till.tk (i:=0) (v:=?_) rfl [1,2,7,8,14] hT (Or.inl ⟨by rfl,?_⟩) ?_
    rotate_left
    ·(intro w' hw';obtain ⟨u1,u2,u3⟩:=hw';go_simp;try with_reducible rfl)
    (try simp only [Act.put,Till.a,Till.b,Till.c])
    refine Till.tk (i:=1) (v:=?_) rfl [2,7,8,14] hT (Or.inl ⟨by rfl,?_⟩) ?_
    rotate_left
    ·(intro w' hw';obtain ⟨u1,u2,u3⟩:=hw';go_simp;try with_reducible rfl)
    (try simp only [Act.put,Till.a,Till.b,Till.c])
    refine Till.tk (i:=2) (v:=?_) rfl [7,8,14] hT (Or.inl ⟨by rfl,?_⟩) ?_
    rotate_left
    ·(intro w' hw';obtain ⟨u1,u2,u3⟩:=hw';go_simp;try with_reducible rfl)
    (try simp only [Act.put,Till.a,Till.b,Till.c])
    refine Till.tk (i:=3) (v:=?_) rfl [4,6,7,8,14] hT (Or.inl ⟨by rfl,?_⟩) ?_
    rotate_left
    ·(intro w' hw';obtain ⟨u1,u2,u3⟩:=hw';go_simp;try with_reducible rfl)
    (try simp only [Act.put,Till.a,Till.b,Till.c])
    refine Till.tk (i:=5) (v:=?_) rfl [6,7,8,14] hT (Or.inl ⟨by rfl,?_⟩) ?_
    rotate_left
    ·(intro w' hw';obtain ⟨u1,u2,u3⟩:=hw';go_simp;try with_reducible rfl)
    (try simp only [Act.put,Till.a,Till.b,Till.c])
    refine Till.step (i:=4) (by kernel_rfl) rfl ?_
    intro K hK
    go_simp
    (go_at_call 106;(with_reducible refine (HL.out _).mono ?_);rintro e w3 ⟨rfl,hb3⟩)
    have hT:(fun w':World=>w'.cell? ⟨D,0,none⟩=some (.int .i64 u)/\w'.cell? ⟨D,1,none⟩=some (.int .i64 (q:Int))/\w'.cell? ⟨w.heap.size,3,none⟩=some (.int .i64 pl)) w3:=⟨(hb3.cell (p:=⟨D,0,none⟩) d2).trans d0,(hb3.cell (p:=⟨D,1,none⟩) d2).trans d1,(hb3.cell (p:=⟨w.heap.size,3,none⟩) x8).trans x3⟩
    refine hK.out _ _ (fun _=>hT) ?_
    clear hK K
    (try simp only [Act.put,Till.a,Till.b,Till.c])
    refine Till.tk (i:=6) (v:=?_) rfl [7,8,14] hT (Or.inl ⟨by rfl,?_⟩) ?_
    rotate_left
    ·(intro w' hw';obtain ⟨u1,u2,u3⟩:=hw';go_simp;try with_reducible rfl)
    (try simp only [Act.put,Till.a,Till.b,Till.c])
    refine Till.tk (i:=7) (v:=?_) rfl [8,14] hT (Or.inl ⟨by rfl,?_⟩) ?_
    rotate_left
    ·(intro w' hw';obtain ⟨u1,u2,u3⟩:=hw';go_simp;try with_reducible rfl)
    (try simp only [Act.put,Till.a,Till.b,Till.c])
    refine Till.tk (i:=8) (v:=?_) rfl [14] hT (Or.inl ⟨by rfl,?_⟩) ?_
    rotate_left
    ·(intro w' hw';obtain ⟨u1,u2,u3⟩:=hw';go_simp;try with_reducible rfl)
    (try simp only [Act.put,Till.a,Till.b,Till.c])
    refine Till.tk (i:=9) (v:=?_) rfl [10,13,14] hT (Or.inl ⟨by rfl,?_⟩) ?_
    rotate_left
    ·(intro w' hw';obtain ⟨u1,u2,u3⟩:=hw';go_simp;try with_reducible rfl)
    (try simp only [Act.put,Till.a,Till.b,Till.c])
    refine Till.tk (i:=10) (v:=?_) rfl [13,14] hT (Or.inl ⟨by rfl,?_⟩) ?_
    rotate_left
    ·(intro w' hw';obtain ⟨u1,u2,u3⟩:=hw';go_simp;try with_reducible rfl)
    (try simp only [Act.put,Till.a,Till.b,Till.c])
    refine Till.tk (i:=11) (v:=?_) rfl [12,13,14] hT (Or.inl ⟨by rfl,?_⟩) ?_
    rotate_left
    ·(intro w' hw';obtain ⟨u1,u2,u3⟩:=hw';go_simp;try with_reducible rfl)
    (try simp only [Act.put,Till.a,Till.b,Till.c])
    refine Till.tk (i:=12) (v:=?_) rfl [13,14] hT (Or.inl ⟨by rfl,?_⟩) ?_
    rotate_left
    ·(intro w' hw';obtain ⟨u1,u2,u3⟩:=hw';go_simp;try with_reducible rfl)
    (try simp only [Act.put,Till.a,Till.b,Till.c])
    refine Till.tk (i:=13) (v:=?_) rfl [14] hT (Or.inl ⟨by rfl,?_⟩) ?_
    rotate_left
    ·(intro w' hw';obtain ⟨u1,u2,u3⟩:=hw';go_simp;try with_reducible rfl)
    (try simp only [Act.put,Till.a,Till.b,Till.c])
    refine Till.tk (i:=14) (v:=?_) rfl [] hT (Or.inl ⟨by rfl,?_⟩) ?_
    rotate_left
    ·(intro w' hw';obtain ⟨u1,u2,u3⟩:=hw';go_simp;try with_reducible rfl)
    (try simp only [Act.put,Till.a,Till.b,Till.c])
    refine Till.step (i:=15) (by kernel_rfl) rfl ?_
    intro K hK
    go_simp
    refine hK.out _ _ (fun h=>absurd h (by decide)) ?_
    clear hK K
    (try simp only [Act.put,Till.a,Till.b,Till.c])
    refine Till.done (by kernel_rfl) ?_ _
    have hB3:=Qab hb3 hBD.drew hBD.size
    go_wp2
    go_ret
    exact ⟨congrArg (fun b=>Ending.returned (Value.bool b)) (show P=RES by rw [<- HRES.out,HBB.out,Bool.and_true]),hB3⟩
 ·rw [if_neg h2]
  have k2:(kd==2)=false:=beq_eq_false_iff_ne.2 h2
  clear h2
  by_cases h3:kd=3
  ·subst h3
   rw [if_pos rfl]
   have HR:=Hd (fun w=>rReadDay_c s 1 1 w hs)
   have hf:=rd_longF s.data.toList
   unfold Qbk at HR
   generalize rdN 1 1 s.data.toList=N at HR
   generalize rdF 1 1 s.data.toList=F at HR hf
   generalize dayOk s.data.toList=D at hf
   go_enter Tryz.func88,Tryz.ntmps88
   go_wp2_with fail
   refine (HR.out _).mono ?_
   rintro e w1 ⟨rfl,hb1⟩
   have hB1:=Qab hb1 hB0 hB0.size
   go_wp2
   go_ret
   exact ⟨rfl,hB1⟩
  ·rw [if_neg h3]
   have k3:(kd==3)=false:=beq_eq_false_iff_ne.2 h3
   clear h3
   have HI:=Hd (fun w=>isplain_c s w h0 hs)
   generalize txtOk s.data.toList=X at HI
   go_enter Tryz.func88,Tryz.ntmps88
   go_wp2_with fail
   refine (HI.out _).mono ?_
   rintro e w1 ⟨rfl,rfl⟩
   go_wp2
   go_ret
   exact ⟨rfl,hB0⟩
theorem scaled_sdig {u:Int} {q k:Nat} (h:u≠0):sdig (Qaz u (q:Int) k)=(if u<0 then [45] else [])++(Lib.decDigits u.natAbs++List.replicate (k-q) 48):=by
 have hp:0<10 ^ (k-q):=Nat.pow_pos (by decide)
 have e1:(Qaz u (q:Int) k).natAbs=u.natAbs*10 ^ (k-q):=by unfold Qaz;rw [Int.natAbs_mul,Int.natAbs_natCast,Int.toNat_natCast]
 have e2:(Qaz u (q:Int) k<0)↔u<0:=by
  unfold Qaz
  rw [Int.toNat_natCast]
  constructor
  ·intro h2
   rcases Int.lt_or_le u 0 with h3 | h3
   ·exact h3
   ·have:=Int.mul_nonneg h3 (show (0:Int)<=((10 ^ (k-q):Nat):Int) by omega)
    omega
  ·intro h2
   exact Int.mul_neg_of_neg_of_pos h2 (by omega:(0:Int)<((10 ^ (k-q):Nat):Int))
 unfold sdig
 rw [e1,vdec_shift (by omega)]
 simp only [e2]
theorem scaled_zero {q k:Nat} : sdig (Qaz 0 (q:Int) k)=Lib.decDigits 0:=by
 unfold Qaz
 rw [Int.zero_mul]
 rfl
theorem rdaytext2_c (v fm:Int) (w:World) (hv:1<=v/\v<=3652059) (hf:formB fm=true) (ht:Tab w):Calls Tryz.prog 154 #[.int .i64 v,.int .i64 fm] w (RetSF (dayS fm v) 0 w) :=
 rDayText_ok v fm _ _ _ _ _ _ w hf hv.1 hv.2 (dateC_is hv) (dateC_is (thu_bd hv.1 hv.2)) ht
theorem rwritten_c (f:Fmt) (A:Option Addr) (n cp:Nat) (c:Col) (s:ByteArray) (w:World) (hs:s.size<=9223372036854775807) (hv:s≠⟨#[]⟩->valOk c s.data.toList=true) (hk:ColK f.mark c) (ht:Tab w) :
  Calls Tryz.prog 89 #[.agg #[.int .u8 f.mark,.int .u8 f.quote,.slice A n cp,.string f.head,.string f.tail,.string f.count,.string f.sum],colG c,.string s] w (RetS (wrS f.mark c s) w):=by
 obtain ⟨m,q,ks,hd,tl,ct,sm⟩:=f
 obtain ⟨hkk,-,hpl,hfo,-,-,-⟩:=hk
 obtain ⟨nm,kd,wd,pl,fm,rt,fl,nd⟩:=c
 unfold colG
 simp only at *
 have hF:=Qad (Qac w (.cells #[.int .u8 m,.int .u8 q,.slice A n cp,.string hd,.string tl,.string ct,.string sm] 24) rfl) (.cells #[.string nm,.int .i64 kd,.int .i64 wd,.int .i64 pl,.int .i64 fm,.bool rt,.int .u8 fl,.bool nd] 60)
 have hC:=Qac (w.alloc (.cells #[.int .u8 m,.int .u8 q,.slice A n cp,.string hd,.string tl,.string ct,.string sm] 24)) (.cells #[.string nm,.int .i64 kd,.int .i64 wd,.int .i64 pl,.int .i64 fm,.bool rt,.int .u8 fl,.bool nd] 60) (g:=w.heap.size+1) (by simp)
 have hB0:Below w.heap.size w ((w.alloc (.cells #[.int .u8 m,.int .u8 q,.slice A n cp,.string hd,.string tl,.string ct,.string sm] 24)).alloc (.cells #[.string nm,.int .i64 kd,.int .i64 wd,.int .i64 pl,.int .i64 fm,.bool rt,.int .u8 fl,.bool nd] 60)):=by go_grown
 obtain ⟨⟨f0,f1,f2,f3,f4,f5,f6⟩,f7⟩:=Qai hF
 obtain ⟨⟨x0,x1,x2,x3,x4,x5,x6,x7⟩,x8⟩:=QaC hC
 have g1:=Qah s
 by_cases h0:s=⟨#[]⟩
 ·have HE:=Hd (show wrS m ⟨nm,kd,wd,pl,fm,rt,fl,nd⟩ s=s by unfold wrS;rw [if_pos h0,h0])
  rw [decide_eq_true h0] at g1
  clear h0 hv hpl hfo hkk
  go_enter Tryz.func89,Tryz.ntmps89
  go_wp2
  go_ret
  exact ⟨by rw [HE.out];rfl,hB0⟩
 have hv:=hv h0
 rw [decide_eq_false h0] at g1
 have HTB:=Hd (ht.below hB0)
 clear ht
 by_cases h2:kd=2
 ·subst h2
  by_cases hm:m=0
  ·subst hm
   have HE:=Hd (show wrS 0 ⟨nm,2,wd,pl,fm,rt,fl,nd⟩ s=bs (sdig (Qaz (Qag s.data.toList).1 (Qag s.data.toList).2.1 pl.toNat)) by unfold wrS;rw [if_neg h0,if_pos ⟨rfl,rfl⟩])
   have HR:=Hd (fun w=>rreadtext_c s w hs)
   have hvv:decOk pl s.data.toList=true:=by unfold valOk at hv;simpa using hv
   obtain ⟨p1,p2⟩:=hpl rfl
   obtain ⟨k,rfl⟩:∃ k:Nat,pl=(k:Int):=⟨pl.toNat,by omega⟩
   rcases dec_cases (k:Int) s.data.toList with ⟨h1,h3⟩|⟨h1,qn,h3,h4,h5⟩
   ·rw [hvv] at h3;cases h3
   rw [h5] at hvv
   simp only [Bool.and_eq_true,decide_eq_true_eq] at hvv
   obtain ⟨u,hu⟩:=ex_ ((Qag s.data.toList).1)
   have hr:Qag s.data.toList=(u,(qn:Int),0):=by rw [<- hu,<- h3,<- h1]
   rw [hr] at HE HR
   rw [hu] at h4
   unfold RetD at HR
   simp only [Int.toNat_natCast] at HE
   have hbu:=QaV h4
   have HIT:=Hd (fun (w:World) (ht:Tab w)=>vitoas_c u w (by omega) ht)
   obtain ⟨D,hD⟩:∃ D:ByteArray,(⟨(Lib.decDigits u.natAbs).toArray⟩:ByteArray)=D:=⟨_,rfl⟩
   obtain ⟨I,hI⟩:∃ I:ByteArray,(⟨(Lib.itoa u).toArray⟩:ByteArray)=I:=⟨_,rfl⟩
   rw [hI] at HIT
   have HTP:=Hd (fun w=>Tryz.strings_TrimPrefix I ⟨#[45]⟩ w)
   have hItr:(⟨(Lib.trimPrefix I.data.toList (⟨#[45]⟩:ByteArray).data.toList).toArray⟩:ByteArray)=D:=by
    rw [<- hI,<- hD]
    exact congrArg (fun l=>(⟨l.toArray⟩:ByteArray)) (vtrim_itoa u)
   rw [hItr] at HTP
   have hDl:D.data.toList=Lib.decDigits u.natAbs:=by rw [<- hD]
   have hDs:D.size=(Lib.decDigits u.natAbs).length:=by rw [<- hDl];simp
   have hDb:1<=D.size/\D.size<=30:=by rw [hDs];exact dec_len (k:=30) (by omega) (by omega)
   obtain ⟨c,hc⟩:∃ c:Nat,(k:Int)-(qn:Int)=(c:Int):=⟨k-qn,by omega⟩
   have hc9:c<=9:=by omega
   have HCK:=Hd (show k-qn=c by omega)
   have HC:=Hd hc
   have HREP:=Hd (Tryz.strings_Repeat ⟨#[48]⟩ c)
   obtain ⟨R,hR⟩:∃ R:ByteArray,(⟨(Lib.repeatL [48] c).toArray⟩:ByteArray)=R:=⟨_,rfl⟩
   have hRs:R.size=c:=by rw [<- hR,rep_one];show (List.replicate c (48:UInt8)).toArray.size=c;simp
   have HRL:=Hd (show R.data.toList=List.replicate c 48 by rw [<- hR,rep_one])
   have HRR:=Hd (show (⟨(Lib.repeatL (⟨#[48]⟩:ByteArray).data.toList c).toArray⟩:ByteArray)=R from hR)
   have HDL:=Hd hDl
   have hbu1:=hbu.1;have hbu2:=hbu.2.1
   have hqk:(qn:Int)<=(k:Int):=hvv.1
   clear hv hvv h0 hr h3 h4 h5 h1 hu hpl hfo hD hI hItr hDl hDs hR hc hbu hkk
   go_enter Tryz.func89,Tryz.ntmps89
   go_wp2_with fail
   refine (HR.out _).mono ?_
   rintro e w1 ⟨rfl,hb1⟩
   have hC1:=Qaa hC hb1
   have hB1:=Qab hb1 hB0 hB0.size
   have HT1:=Hd (HTB.out.below hb1)
   have hz1:=hB1.size
   have hDn:=Qac w1 (.cells #[.int .i64 u,.int .i64 (qn:Int)] 70) rfl
   have hCn:=Qad hC1 (.cells #[.int .i64 u,.int .i64 (qn:Int)] 70)
   have hBD:Below w.heap.size w (w1.alloc (.cells #[.int .i64 u,.int .i64 (qn:Int)] 70)):=by go_grown
   have HTD:=Hd (HT1.out.below (show Below w1.heap.size w1 (w1.alloc (.cells #[.int .i64 u,.int .i64 (qn:Int)] 70)) by go_grown))
   clear hF hC hb1 f0 f1 f2 f3 f4 f5 f6 f7 x0 x1 x2 x3 x4 x5 x6 x7 x8 hC1
   go_upto_region 8 with fail
   obtain ⟨N,hN⟩:=ex_ (w1.heap.size)
   rw [hN] at hDn ⊢
   generalize w1.alloc (.cells #[.int .i64 u,.int .i64 (qn:Int)] 70)=wd1 at hDn hCn hBD HTD ⊢
   obtain ⟨d0,d1,-,-,d4⟩:=box2 hDn
   clear hN
   go_wp2_with fail
   refine (HIT.out _ HTD.out).mono ?_
   rintro e w2 ⟨rfl,hb2⟩
   have hD2:=Qaa hDn hb2
   have hC2:=Qaa hCn hb2
   have hB2:=Qab hb2 hBD hBD.size
   clear hDn hCn hb2 d0 d1 d4 hB1
   go_wp2_with fail
   refine (HTP.out _).mono ?_
   rintro e w3 ⟨rfl,rfl⟩
   obtain ⟨d0,d1,-,-,d4⟩:=box2 hD2
   obtain ⟨⟨x0,x1,x2,x3,x4,x5,x6,x7⟩,x8⟩:=QaC hC2
   by_cases hu0:u=0
   ·subst hu0
    have HX:=Hd (show D=wrS 0 ⟨nm,2,wd,(k:Int),fm,rt,fl,nd⟩ s by
     rw [HE.out,scaled_zero]
     exact (bs_self D).symm.trans (congrArg bs HDL.out))
    go_wp2
    go_ret
    exact ⟨congrArg (fun b=>Ending.returned (Value.string b)) HX.out,hB2⟩
   have hun:(u !=0)=true:=by simpa using hu0
   obtain ⟨G,hG⟩:=ex_ (D++R)
   have hcat:¬ 9223372036854775807<D.size+R.size:=by omega
   have HGL:=Hd (show G.data.toList=Lib.decDigits u.natAbs++List.replicate c 48 by rw [<- hG,ByteArray.data_append,Array.toList_append,HDL.out,HRL.out])
   have hGs:G.size<=50:=by rw [<- hG,ByteArray.size_append];omega
   rcases Int.lt_or_le u 0 with hneg | hpos
   ·have HX:=Hd (show (⟨#[45]⟩:ByteArray)++G=wrS 0 ⟨nm,2,wd,(k:Int),fm,rt,fl,nd⟩ s by
     rw [HE.out,scaled_sdig hu0,if_pos hneg,HCK.out]
     refine (bs_self _).symm.trans (congrArg bs ?_)
     rw [ByteArray.data_append,Array.toList_append,HGL.out])
    have hcat2:¬ 9223372036854775807<1+G.size:=by omega
    have HG:=Hd hG
    clear hu0 hG
    go_wp2_with fail
    rw [HC.out]
    refine (HREP.out _ (by omega) (by show 1*c<=_;omega)).mono ?_
    rintro e w5 ⟨rfl,hb5⟩
    rw [HRR.out]
    have hD5:=Qaa hD2 hb5
    have hB5:=Qab hb5 hB2 hB2.size
    clear hD2 hC2 d0 d1 d4 x0 x1 x2 x3 x4 x5 x6 x7 x8
    obtain ⟨d0,d1,-,-,d4⟩:=box2 hD5
    have hG:=HG.out
    go_wp2
    go_ret
    exact ⟨congrArg (fun b=>Ending.returned (Value.string b)) HX.out,hB5⟩
   ·have HX:=Hd (show G=wrS 0 ⟨nm,2,wd,(k:Int),fm,rt,fl,nd⟩ s by
     rw [HE.out,scaled_sdig hu0,if_neg (by omega),HCK.out]
     refine (bs_self _).symm.trans (congrArg bs ?_)
     rw [HGL.out]
     rfl)
    have HG:=Hd hG
    have hpos':¬ u<0:=by omega
    clear hu0 hG hpos
    go_wp2_with fail
    rw [HC.out]
    refine (HREP.out _ (by omega) (by show 1*c<=_;omega)).mono ?_
    rintro e w5 ⟨rfl,hb5⟩
    rw [HRR.out]
    have hD5:=Qaa hD2 hb5
    have hB5:=Qab hb5 hB2 hB2.size
    clear hD2 hC2 d0 d1 d4 x0 x1 x2 x3 x4 x5 x6 x7 x8
    obtain ⟨d0,d1,-,-,d4⟩:=box2 hD5
    have hG:=HG.out
    go_wp2
    go_ret
    exact ⟨congrArg (fun b=>Ending.returned (Value.string b)) HX.out,hB5⟩
  ·have HE:=Hd (show wrS m ⟨nm,2,wd,pl,fm,rt,fl,nd⟩ s=s by unfold wrS;rw [if_neg h0,if_neg (fun h=>hm h.2),if_neg (show ¬ (2:Int)=3 by decide)])
   have k0:(m !=0)=true:=by simpa using hm
   clear hm h0 hv hpl hfo hkk
   go_enter Tryz.func89,Tryz.ntmps89
   go_wp2
   go_ret
   exact ⟨by rw [HE.out];rfl,hB0⟩
 have k2:(kd==2)=false:=beq_eq_false_iff_ne.2 h2
 by_cases h3:kd=3
 ·subst h3
  have hvv:dayOk s.data.toList=true:=by unfold valOk at hv;simpa using hv
  have HE:=Hd (show wrS m ⟨nm,3,wd,pl,fm,rt,fl,nd⟩ s=dayS fm (dayN 1 s.data.toList) by unfold wrS;rw [if_neg h0,if_neg (fun h=>h2 h.1),if_pos rfl])
  have HR:=Hd (fun w=>rReadDay_c s 1 1 w hs)
  obtain ⟨hfb,-⟩:=formB_of (hfo rfl)
  have hl:=rd_long s.data.toList
  rw [hvv] at hl
  have hl1:=of_decide_eq_true hl.1
  obtain ⟨v,hvd⟩:∃ v,Qa1 1 1 s.data.toList=some v:=Option.isSome_iff_exists.1 hvv
  have hvr:=readO_day hvd
  have hdn:dayN 1 s.data.toList=v:=by unfold dayN;rw [hvd];rfl
  rw [hdn] at HE hl
  rw [hl1,hl.2] at HR
  unfold Qbk at HR
  have HD:=Hd (fun w ht=>rdaytext2_c v fm w hvr hfb ht)
  unfold RetSF at HD
  generalize dayS fm v=D at HE HD
  clear h0 hv hvv hl hl1 hvd hdn h2 hpl hfo hkk
  go_enter Tryz.func89,Tryz.ntmps89
  go_wp2_with fail
  refine (HR.out _).mono ?_
  rintro e w1 ⟨rfl,hb1⟩
  have hC1:=Qaa hC hb1
  have hB1:=Qab hb1 hB0 hB0.size
  have HT1:=Hd (HTB.out.below hb1)
  obtain ⟨⟨x0,x1,x2,x3,x4,x5,x6,x7⟩,x8⟩:=QaC hC1
  clear hF hC hC1 hb1 f0 f1 f2 f3 f4 f5 f6 f7
  go_wp2_with fail
  refine (HD.out _ HT1.out).mono ?_
  rintro e w2 ⟨rfl,hb2⟩
  have hB2:=Qab hb2 hB1 hB1.size
  go_wp2
  go_ret
  exact ⟨by rw [HE.out];rfl,hB2⟩
 ·have HE:=Hd (show wrS m ⟨nm,kd,wd,pl,fm,rt,fl,nd⟩ s=s by unfold wrS;rw [if_neg h0,if_neg (fun h=>h2 h.1),if_neg h3])
  have h11:kd=1:=by omega
  subst h11
  clear h3 h2 h0 hv hpl hfo hkk
  go_enter Tryz.func89,Tryz.ntmps89
  go_wp2
  go_ret
  exact ⟨by rw [HE.out];rfl,hB0⟩
end Go.Proofs.YtaiabjiehpcaoaaGreatDoor
namespace Go.Proofs.YtaiabjiehpcaoaaGreatDoor
open Go.ChangeShapes Go.WideShapes Go.ChangeAt Go.RowKit Go.Deep Work
set_option linter.unusedVariables false
theorem own:ownKnob Tryz.prog.godebug=none:=by kernel_rfl
theorem laidOut:laidOutB Tryz.prog=true:=by kernel_rfl
end Go.Proofs.YtaiabjiehpcaoaaGreatDoor
