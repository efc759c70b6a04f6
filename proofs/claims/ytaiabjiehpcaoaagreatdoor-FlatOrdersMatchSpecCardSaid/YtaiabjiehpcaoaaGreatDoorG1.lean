
/- The walks of the reference's small functions on formats: isMark, within, widthOf, isTag, kindOf, columnOf. (Printed by genG1.py.) -/
import Derived.Test.YtaiabjiehpcaoaaGreatDoorUN
set_option maxHeartbeats 1000000
set_option maxRecDepth 100000
namespace Go.Proofs.YtaiabjiehpcaoaaGreatDoor
open Go.RowKit Limb Nmb Work
set_option linter.unusedVariables false
set_option linter.unusedSimpArgs false
theorem ismark_c (b:Int) (w:World) (hb:0<=b/\b<=255):Calls Tryz.prog 57 #[.int .u8 b] w fun e w'=>w=w'/\e=.returned (.bool (!QaR b)):=by
 by_cases h0:b<=31
 ·have hm:QaR b=true:=by
   unfold QaR tagC
   simp;omega
  have f0:¬ (32:Int)<=b:=by omega
  have f1:b<=126:=by omega
  have f2:b<48:=by omega
  have f3:b<65:=by omega
  have f4:b<97:=by omega
  have f5:¬ (57:Int)<b:=by omega
  have f6:¬ (90:Int)<b:=by omega
  have f7:¬ (122:Int)<b:=by omega
  have n45:(b !=45)=true:=by simp;omega
  have n46:(b !=46)=true:=by simp;omega
  rw [hm]
  clear hm
  go_enter Tryz.func57,Tryz.ntmps57
  go_wp2
  go_ret
  exact ⟨rfl,rfl⟩
 by_cases h1:b<=44
 ·have hm:QaR b=false:=by
   unfold QaR tagC
   simp;omega
  have f0:(32:Int)<=b:=by omega
  have f1:b<=126:=by omega
  have f2:b<48:=by omega
  have f3:b<65:=by omega
  have f4:b<97:=by omega
  have f5:¬ (57:Int)<b:=by omega
  have f6:¬ (90:Int)<b:=by omega
  have f7:¬ (122:Int)<b:=by omega
  have n45:(b !=45)=true:=by simp;omega
  have n46:(b !=46)=true:=by simp;omega
  rw [hm]
  clear hm
  go_enter Tryz.func57,Tryz.ntmps57
  go_wp2
  go_ret
  exact ⟨rfl,rfl⟩
 by_cases h2:b<=45
 ·have hb:b=45:=by omega
  subst hb
  have hm:QaR 45=true:=by decide
  rw [hm]
  clear hm
  go_enter Tryz.func57,Tryz.ntmps57
  go_wp2
  go_ret
  exact ⟨rfl,rfl⟩
 by_cases h3:b<=46
 ·have hb:b=46:=by omega
  subst hb
  have hm:QaR 46=true:=by decide
  rw [hm]
  clear hm
  go_enter Tryz.func57,Tryz.ntmps57
  go_wp2
  go_ret
  exact ⟨rfl,rfl⟩
 by_cases h4:b<=47
 ·have hb:b=47:=by omega
  subst hb
  have hm:QaR 47=false:=by decide
  rw [hm]
  clear hm
  go_enter Tryz.func57,Tryz.ntmps57
  go_wp2
  go_ret
  exact ⟨rfl,rfl⟩
 by_cases h5:b<=57
 ·have hm:QaR b=true:=by
   unfold QaR tagC
   simp;omega
  have f0:(32:Int)<=b:=by omega
  have f1:b<=126:=by omega
  have f2:¬ b<48:=by omega
  have f3:b<65:=by omega
  have f4:b<97:=by omega
  have f5:¬ (57:Int)<b:=by omega
  have f6:¬ (90:Int)<b:=by omega
  have f7:¬ (122:Int)<b:=by omega
  have n45:(b !=45)=true:=by simp;omega
  have n46:(b !=46)=true:=by simp;omega
  rw [hm]
  clear hm
  go_enter Tryz.func57,Tryz.ntmps57
  go_wp2
  go_ret
  exact ⟨rfl,rfl⟩
 by_cases h6:b<=64
 ·have hm:QaR b=false:=by
   unfold QaR tagC
   simp;omega
  have f0:(32:Int)<=b:=by omega
  have f1:b<=126:=by omega
  have f2:¬ b<48:=by omega
  have f3:b<65:=by omega
  have f4:b<97:=by omega
  have f5:(57:Int)<b:=by omega
  have f6:¬ (90:Int)<b:=by omega
  have f7:¬ (122:Int)<b:=by omega
  have n45:(b !=45)=true:=by simp;omega
  have n46:(b !=46)=true:=by simp;omega
  rw [hm]
  clear hm
  go_enter Tryz.func57,Tryz.ntmps57
  go_wp2
  go_ret
  exact ⟨rfl,rfl⟩
 by_cases h7:b<=90
 ·have hm:QaR b=true:=by
   unfold QaR tagC
   simp;omega
  have f0:(32:Int)<=b:=by omega
  have f1:b<=126:=by omega
  have f2:¬ b<48:=by omega
  have f3:¬ b<65:=by omega
  have f4:b<97:=by omega
  have f5:(57:Int)<b:=by omega
  have f6:¬ (90:Int)<b:=by omega
  have f7:¬ (122:Int)<b:=by omega
  have n45:(b !=45)=true:=by simp;omega
  have n46:(b !=46)=true:=by simp;omega
  rw [hm]
  clear hm
  go_enter Tryz.func57,Tryz.ntmps57
  go_wp2
  go_ret
  exact ⟨rfl,rfl⟩
 by_cases h8:b<=96
 ·have hm:QaR b=false:=by
   unfold QaR tagC
   simp;omega
  have f0:(32:Int)<=b:=by omega
  have f1:b<=126:=by omega
  have f2:¬ b<48:=by omega
  have f3:¬ b<65:=by omega
  have f4:b<97:=by omega
  have f5:(57:Int)<b:=by omega
  have f6:(90:Int)<b:=by omega
  have f7:¬ (122:Int)<b:=by omega
  have n45:(b !=45)=true:=by simp;omega
  have n46:(b !=46)=true:=by simp;omega
  rw [hm]
  clear hm
  go_enter Tryz.func57,Tryz.ntmps57
  go_wp2
  go_ret
  exact ⟨rfl,rfl⟩
 by_cases h9:b<=122
 ·have hm:QaR b=true:=by
   unfold QaR tagC
   simp;omega
  have f0:(32:Int)<=b:=by omega
  have f1:b<=126:=by omega
  have f2:¬ b<48:=by omega
  have f3:¬ b<65:=by omega
  have f4:¬ b<97:=by omega
  have f5:(57:Int)<b:=by omega
  have f6:(90:Int)<b:=by omega
  have f7:¬ (122:Int)<b:=by omega
  have n45:(b !=45)=true:=by simp;omega
  have n46:(b !=46)=true:=by simp;omega
  rw [hm]
  clear hm
  go_enter Tryz.func57,Tryz.ntmps57
  go_wp2
  go_ret
  exact ⟨rfl,rfl⟩
 by_cases h10:b<=126
 ·have hm:QaR b=false:=by
   unfold QaR tagC
   simp;omega
  have f0:(32:Int)<=b:=by omega
  have f1:b<=126:=by omega
  have f2:¬ b<48:=by omega
  have f3:¬ b<65:=by omega
  have f4:¬ b<97:=by omega
  have f5:(57:Int)<b:=by omega
  have f6:(90:Int)<b:=by omega
  have f7:(122:Int)<b:=by omega
  have n45:(b !=45)=true:=by simp;omega
  have n46:(b !=46)=true:=by simp;omega
  rw [hm]
  clear hm
  go_enter Tryz.func57,Tryz.ntmps57
  go_wp2
  go_ret
  exact ⟨rfl,rfl⟩
 have hm:QaR b=true:=by
  unfold QaR tagC
  simp;omega
 have f0:(32:Int)<=b:=by omega
 have f1:¬ b<=126:=by omega
 have f2:¬ b<48:=by omega
 have f3:¬ b<65:=by omega
 have f4:¬ b<97:=by omega
 have f5:(57:Int)<b:=by omega
 have f6:(90:Int)<b:=by omega
 have f7:(122:Int)<b:=by omega
 have n45:(b !=45)=true:=by simp;omega
 have n46:(b !=46)=true:=by simp;omega
 rw [hm]
 clear hm
 go_enter Tryz.func57,Tryz.ntmps57
 go_wp2
 go_ret
 exact ⟨rfl,rfl⟩
theorem QaB (n lo hi:Int) (w:World):Calls Tryz.prog 100 #[.int .i64 n,.int .i64 lo,.int .i64 hi] w fun e w'=>w=w'/\e=.returned (.bool (decide (lo<=n/\n<=hi))):=by
 by_cases h1:lo<=n
 ·by_cases h2:n<=hi
  ·rw [decide_eq_true ⟨h1,h2⟩]
   go_enter Tryz.func100,Tryz.ntmps100
   go_wp2
   go_ret
   exact ⟨rfl,rfl⟩
  ·rw [decide_eq_false (fun h=>h2 h.2)]
   go_enter Tryz.func100,Tryz.ntmps100
   go_wp2
   go_ret
   exact ⟨rfl,by simp [h2]⟩
 ·rw [decide_eq_false (fun h=>h1 h.1)]
  go_enter Tryz.func100,Tryz.ntmps100
  go_wp2
  go_ret
  exact ⟨rfl,rfl⟩
def widF (n:Int):Int:=if n=4 then 10 else if n=5 then 7 else 8
theorem widthof_c (n:Int) (w:World):Calls Tryz.prog 164 #[.int .i64 n] w fun e w'=>w=w'/\e=.returned (.int .i64 (widF n)):=by
 by_cases h4:n=4
 ·subst h4
  go_enter Tryz.func164,Tryz.ntmps164
  go_wp2
  go_ret
  exact ⟨rfl,rfl⟩
 by_cases h5:n=5
 ·subst h5
  go_enter Tryz.func164,Tryz.ntmps164
  go_wp2
  go_ret
  exact ⟨rfl,rfl⟩
 have e:widF n=8:=by unfold widF;rw [if_neg h4,if_neg h5]
 rw [e]
 have k4:(n==4)=false:=by simpa using h4
 have k5:(n==5)=false:=by simpa using h5
 clear h4 h5 e
 go_enter Tryz.func164,Tryz.ntmps164
 go_wp2
 go_ret
 exact ⟨rfl,rfl⟩
theorem Qbg (f:Fmt) (A:Option Addr) (c:Nat) (FA:Nat->Option Addr) (FC:Nat->Nat) (t:ByteArray) (w:World) (ho:Kinds w A f.kinds FA FC) :
  Calls Tryz.prog 27 #[fmtG f A c,.string t] w fun e w'=>e=.returned (.int .i64 (ixF (Qav t) f.kinds))/\Below w.heap.size w w':=by
 have HO:=Hd ho
 have hn:=ho.1.2
 obtain ⟨m,q,ks,hd,tl,ct,sm⟩:=f
 unfold fmtG
 simp only at hn HO ⊢
 obtain ⟨n,hnn⟩:=ex_ (ks.length)
 have HN:=Hd hnn
 rw [hnn] at hn ⊢
 clear ho hnn
 go_enter Tryz.func27,Tryz.ntmps27
 go_wp2
 have hB:Below w.heap.size w (w.alloc (.cells #[.int .u8 m,.int .u8 q,.slice A n c,.string hd,.string tl,.string ct,.string sm] 24)):=by go_grown
 generalize w.alloc (.cells #[.int .u8 m,.int .u8 q,.slice A n c,.string hd,.string tl,.string ct,.string sm] 24)=w1 at hB ⊢
 go_loopw [10] (fun i wr=>∃ j:Nat,j<=n/\i=.int .i64 j/\Below w.heap.size w wr/\Hid (∀ x,x<j->Qav t (kA ks x)=false)) (fun i _=>n-(intOf i).toNat)
 case atStart=>exact ⟨0,Nat.zero_le _,rfl,hB,Hd (fun x h=>absurd h (Nat.not_lt_zero _))⟩
 case round=>
  clear hB
  obtain ⟨j,hj,rfl,hB,HJ⟩:=hrel
  rcases Nat.lt_or_ge j n with hlt | hge
  ·have hltk:j<ks.length:=by rw [HN.out];exact hlt
   obtain ⟨b,o,rfl,hb,x0,x1,x2,x3⟩:=(HO.out.below hB).cells hltk
   obtain ⟨⟨tg,fs,ms,un⟩,hx⟩:=ex_ (kA ks j)
   rw [hx] at x0 x1 x2 x3
   simp only at x0 x1 x2 x3
   generalize FA j=XA at x1
   generalize FC j=XC at x1
   have HX:=Hd hx
   have hbd:=Qap tg t
   have hBz:=hB.size
   by_cases hd':tg=t
   ·rw [decide_eq_true hd'] at hbd
    have HE:=Hd (show ixF (Qav t) ks=(j:Int) from ixF_hit hltk (by rw [kA_get hltk,HX.out];exact decide_eq_true hd') (fun x hx hxj=>by rw [kA_get hx];exact HJ.out x hxj))
    clear hd' hx hltk
    go_wp2
    go_ret
    exact ⟨congrArg (fun v=>Ending.returned (Value.int .i64 v)) HE.out.symm,hB.alloc hBz _⟩
   ·rw [decide_eq_false hd'] at hbd
    have HJ2:=Hd (show ∀ x,x<j+1->Qav t (kA ks x)=false from fun x hx=>by
     rcases Nat.lt_or_ge x j with h | h
     ·exact HJ.out x h
     ·obtain rfl:x=j:=by omega
      rw [HX.out];exact decide_eq_false hd')
    clear hd' hx hltk
    go_wp2
    go_roundw
    case rel=>exact ⟨j+1,by omega,by go_num,hB.alloc hBz _,HJ2⟩
    case measure=>simp [intOf];omega
  ·obtain rfl:j=n:=by omega
   have HE:=Hd (show ixF (Qav t) ks=-1 from ixF_no (fun x hx=>by rw [kA_get hx];exact HJ.out x (by rw [<- HN.out];exact hx)))
   go_wp2
   go_ret
   exact ⟨congrArg (fun v=>Ending.returned (Value.int .i64 v)) HE.out.symm,hB⟩
theorem QbQ (k:RKd) (A:Option Addr) (c:Nat) (t:ByteArray) (w:World) (ho:Cols w A k.fields) :
  Calls Tryz.prog 33 #[QaO k A c,.string t] w fun e w'=>e=.returned (.int .i64 (ixF (Qaj t) k.fields))/\Below w.heap.size w w':=by
 have HO:=Hd ho
 have hn:=ho.1.2
 obtain ⟨tg,ks,ms,un⟩:=k
 unfold QaO
 simp only at hn HO ⊢
 obtain ⟨n,hnn⟩:=ex_ (ks.length)
 have HN:=Hd hnn
 rw [hnn] at hn ⊢
 clear ho hnn
 go_enter Tryz.func33,Tryz.ntmps33
 go_wp2
 have hB:Below w.heap.size w (w.alloc (.cells #[.string tg,.slice A n c,.int .i64 ms,.string un] 52)):=by go_grown
 generalize w.alloc (.cells #[.string tg,.slice A n c,.int .i64 ms,.string un] 52)=w1 at hB ⊢
 go_loopw [10] (fun i wr=>∃ j:Nat,j<=n/\i=.int .i64 j/\Below w.heap.size w wr/\Hid (∀ x,x<j->Qaj t (cA ks x)=false)) (fun i _=>n-(intOf i).toNat)
 case atStart=>exact ⟨0,Nat.zero_le _,rfl,hB,Hd (fun x h=>absurd h (Nat.not_lt_zero _))⟩
 case round=>
  clear hB
  obtain ⟨j,hj,rfl,hB,HJ⟩:=hrel
  rcases Nat.lt_or_ge j n with hlt | hge
  ·have hltk:j<ks.length:=by rw [HN.out];exact hlt
   obtain ⟨b,o,rfl,hb,x0,x1,x2,x3,x4,x5,x6,x7⟩:=(HO.out.below hB).cells hltk
   obtain ⟨⟨nm,kd,wd,pl,fo,ri,fi,ne⟩,hx⟩:=ex_ (cA ks j)
   rw [hx] at x0 x1 x2 x3 x4 x5 x6 x7
   simp only at x0 x1 x2 x3 x4 x5 x6 x7
   have HX:=Hd hx
   have hbd:=Qap nm t
   have hBz:=hB.size
   by_cases hd':nm=t
   ·rw [decide_eq_true hd'] at hbd
    have HE:=Hd (show ixF (Qaj t) ks=(j:Int) from ixF_hit hltk (by rw [Qbr hltk,HX.out];exact decide_eq_true hd') (fun x hx hxj=>by rw [Qbr hx];exact HJ.out x hxj))
    clear hd' hx hltk
    go_wp2
    go_ret
    exact ⟨congrArg (fun v=>Ending.returned (Value.int .i64 v)) HE.out.symm,hB.alloc hBz _⟩
   ·rw [decide_eq_false hd'] at hbd
    have HJ2:=Hd (show ∀ x,x<j+1->Qaj t (cA ks x)=false from fun x hx=>by
     rcases Nat.lt_or_ge x j with h | h
     ·exact HJ.out x h
     ·obtain rfl:x=j:=by omega
      rw [HX.out];exact decide_eq_false hd')
    clear hd' hx hltk
    go_wp2
    go_roundw
    case rel=>exact ⟨j+1,by omega,by go_num,hB.alloc hBz _,HJ2⟩
    case measure=>simp [intOf];omega
  ·obtain rfl:j=n:=by omega
   have HE:=Hd (show ixF (Qaj t) ks=-1 from ixF_no (fun x hx=>by rw [Qbr hx];exact HJ.out x (by rw [<- HN.out];exact hx)))
   go_wp2
   go_ret
   exact ⟨congrArg (fun v=>Ending.returned (Value.int .i64 v)) HE.out.symm,hB⟩
theorem ristag_c (s:ByteArray) (w:World) (hs:s.size<=9223372036854775807):Calls Tryz.prog 98 #[.string s] w fun e w'=>w=w'/\e=.returned (.bool (decide (1<=s.size/\s.size<=6)&&tagL s.data.toList)):=by
 obtain ⟨R,hR⟩:=ex_ ((decide (1<=s.size/\s.size<=6)&&tagL s.data.toList))
 rw [hR]
 have HR:=Hd hR
 have hl:s.data.toList.length=s.size:=by simp
 have HBT:=Hd (show ∀ j (h:j<s.size),s.data.toList[j]'(by omega)=s[j] from fun j h=>rfl)
 clear hR
 go_enter Tryz.func98,Tryz.ntmps98
 go_wp2
 go_loopw [6] (fun i wr=>∃ j:Nat,j<=s.size/\i=.int .i64 j/\w=wr/\Hid (∀ x (h:x<s.size),x<j->tagC (s[x].toNat:Int)=true)) (fun i _=>s.size-(intOf i).toNat)
 case atStart=>exact ⟨0,Nat.zero_le _,rfl,rfl,Hd (fun x _ h=>absurd h (Nat.not_lt_zero _))⟩
 case round=>
  obtain ⟨j,hj,rfl,rfl,HJ⟩:=hrel
  rcases Nat.lt_or_ge j s.size with hlt | hge
  ·obtain ⟨x,hx⟩:∃ x:Nat,s[j].toNat=x:=⟨_,rfl⟩
   have HX:=Hd hx
   have HBAD:=Hd (show tagC (x:Int)=false->R=false from fun h=>by
    rw [<- HR.out]
    have:tagL s.data.toList=false:=by
     rw [Bool.eq_false_iff]
     intro h2
     have h3:=List.all_eq_true.1 h2 (s.data.toList[j]'(by omega)) (List.getElem_mem _)
     rw [HBT.out j hlt,HX.out,h] at h3
     cases h3
    rw [this,Bool.and_false])
   have HJ2:=Hd (show tagC (x:Int)=true->∀ y (h:y<s.size),y<j+1->tagC (s[y].toNat:Int)=true from fun h y hy hyj=>by
    rcases Nat.lt_or_ge y j with h' | h'
    ·exact HJ.out y hy h'
    ·obtain rfl:y=j:=by omega
     rw [HX.out];exact h)
   by_cases h0:x<48
   ·have f0:(x:Int)<65:=by omega
    have f1:¬ (57:Int)<(x:Int):=by omega
    have f2:(x:Int)<48:=by omega
    have ht:tagC (x:Int)=false:=by unfold tagC;simp;omega
    have HE:=Hd (HBAD.out ht)
    clear ht
    simp only [<- hx] at f0 f1 f2
    go_wp2
    go_ret
    exact ⟨rfl,by rw [HE.out];rfl⟩
   by_cases h1:x<=57
   ·have f0:(x:Int)<65:=by omega
    have f1:¬ (57:Int)<(x:Int):=by omega
    have f2:¬ (x:Int)<48:=by omega
    have ht:tagC (x:Int)=true:=by unfold tagC;simp;omega
    have HJ3:=Hd (HJ2.out ht)
    clear ht
    simp only [<- hx] at f0 f1 f2
    go_wp2
    go_roundw
    case rel=>exact ⟨j+1,by omega,by go_num,trivial,HJ3⟩
    case measure=>simp [intOf];omega
   by_cases h2:x<65
   ·have f0:(x:Int)<65:=by omega
    have f1:(57:Int)<(x:Int):=by omega
    have f2:¬ (x:Int)<48:=by omega
    have ht:tagC (x:Int)=false:=by unfold tagC;simp;omega
    have HE:=Hd (HBAD.out ht)
    clear ht
    simp only [<- hx] at f0 f1 f2
    go_wp2
    go_ret
    exact ⟨rfl,by rw [HE.out];rfl⟩
   by_cases h3:x<=90
   ·have f0:¬ (x:Int)<65:=by omega
    have f1:¬ (90:Int)<(x:Int):=by omega
    have ht:tagC (x:Int)=true:=by unfold tagC;simp;omega
    have HJ3:=Hd (HJ2.out ht)
    clear ht
    simp only [<- hx] at f0 f1
    go_wp2
    go_roundw
    case rel=>exact ⟨j+1,by omega,by go_num,trivial,HJ3⟩
    case measure=>simp [intOf];omega
   have f0:¬ (x:Int)<65:=by omega
   have f1:(90:Int)<(x:Int):=by omega
   have f2:¬ (x:Int)<48:=by omega
   have f3:(57:Int)<(x:Int):=by omega
   have ht:tagC (x:Int)=false:=by unfold tagC;simp;omega
   have HE:=Hd (HBAD.out ht)
   clear ht
   simp only [<- hx] at f0 f1 f2 f3
   go_wp2
   go_ret
   exact ⟨rfl,by rw [HE.out];rfl⟩
  ·obtain rfl:j=s.size:=by omega
   have HE:=Hd (show R=decide ((1:Int)<=(s.size:Int)/\(s.size:Int)<=6) by
    rw [<- HR.out]
    have:tagL s.data.toList=true:=List.all_eq_true.2 (fun y hy=>by
     obtain ⟨i,hi,rfl⟩:=List.getElem_of_mem hy
     exact HJ.out i (by omega) (by omega))
    rw [this,Bool.and_true]
    congr 1
    exact propext ⟨fun h=>⟨by omega,by omega⟩,fun h=>⟨by omega,by omega⟩⟩)
   have HW:=Hd (fun w=>QaB (s.size:Int) 1 6 w)
   obtain ⟨D,hD⟩:=ex_ (decide ((1:Int)<=(s.size:Int)/\(s.size:Int)<=6))
   rw [hD] at HW HE
   clear hD
   go_wp2_with fail
   refine (HW.out _).mono ?_
   rintro e w2 ⟨rfl,rfl⟩
   go_wp2
   go_ret
   exact ⟨rfl,by rw [HE.out];rfl⟩
end Go.Proofs.YtaiabjiehpcaoaaGreatDoor
