/- The walks of package amount's days: readDay, ReadDay. The walks of CheckFormat's parts: marks, forms, idle. -/
import Derived.Test.YtaiabjiehpcaoaaGreatDoorM2
import Derived.Test.YtaiabjiehpcaoaaGreatDoorA8
import Derived.Deep.RegionHeld3
import Derived.Deep.DeepCutAuto
import Derived.Test.YtaiabjiehpcaoaaGreatDoorE1
-- merged: M3 F3 F4
set_option maxHeartbeats 2000000
set_option maxRecDepth 100000
namespace Go.Proofs.YtaiabjiehpcaoaaGreatDoor
open Go.RowKit Limb Work Nmb
set_option linter.unusedVariables false
set_option linter.unusedSimpArgs false
def again (p:List UInt8):List UInt8:=p.take 4++[45]++(p.drop 4).take 2++[45]++p.drop 6
theorem readO4_no {pv:Int} {l:List UInt8} (h:pointB l=false):Qa1 4 pv l=none:=by
 show (if pointB l=true then _ else none)=none
 rw [if_neg (by rw [h];simp)]
theorem readO4_yes {pv:Int} {l:List UInt8} (h:pointB l=true):Qa1 4 pv l=dayO (numF (l.take 4)) (numF ((l.drop 5).take 2)) (numF (l.drop 8)):=by
 show (if pointB l=true then _ else none)=_
 rw [if_pos h]
theorem prt_three {a b c:Nat} (hc:0<c) {l:List UInt8} {xs:List Int} (h:prt [a,b,c] l=some xs):∃ x y z,xs=[x,y,z]/\(a<=4->0<=x/\x<=9999)/\(b<=4->0<=y/\y<=9999)/\(c<=4->0<=z/\z<=9999)/\(c<=2->z<=99)/\(b<=2->y<=99)/\(c<=1->z<=9):=by
 rw [prt3 hc] at h
 split at h
 ·rename_i hd
  obtain ⟨h0,h1,h2,h3⟩:=hd
  injection h with h
  have a1:=dv_lt h1
  have a2:=dv_lt h2
  have a3:=dv_lt h3
  have l1:(l.take a).length=a:=by simp;omega
  have l2:((l.drop a).take b).length=b:=by simp;omega
  have l3:(l.drop (a+b)).length=c:=by simp;omega
  rw [l1] at a1;rw [l2] at a2;rw [l3] at a3
  refine ⟨_,_,_,h.symm,fun hk=>?_,fun hk=>?_,fun hk=>?_,fun hk=>?_,fun hk=>?_,fun hk=>?_⟩
  ·have:10 ^ a<=10 ^ 4:=Nat.pow_le_pow_right (by decide) hk
   omega
  ·have:10 ^ b<=10 ^ 4:=Nat.pow_le_pow_right (by decide) hk
   omega
  ·have:10 ^ c<=10 ^ 4:=Nat.pow_le_pow_right (by decide) hk
   omega
  ·have:10 ^ c<=10 ^ 2:=Nat.pow_le_pow_right (by decide) hk
   omega
  ·have:10 ^ b<=10 ^ 2:=Nat.pow_le_pow_right (by decide) hk
   omega
  ·have:10 ^ c<=10 ^ 1:=Nat.pow_le_pow_right (by decide) hk
   omega
 ·cases h
theorem readO_1 (pv:Int) (l:List UInt8):Qa1 1 pv l=opt3 dayO (prt [4,2,2] l):=by
 rw [opt3_prt (by decide) l dayO (fun x y z h=>dayO_neg (by omega))];rfl
theorem dayO_is (y m d:Int):dayO y m d=if Qa7 y m d=true then some (dayR y m d) else none:=by
 unfold dayO
 cases h:Qa7 y m d with
 | true=>rw [if_pos rfl,if_pos rfl,dayR_yes h]
 | false=>rfl
theorem retO_day {y m d:Int} {w w':World} (hb:Below w.heap.size w w'):RetO (dayO y m d) w (.returned (.tuple #[.int .i64 (dayR y m d),.bool (Qa7 y m d)])) w':=by
 rw [dayO_is]
 cases h:Qa7 y m d with
 | true=>exact ⟨_,rfl,fun v hv=>Option.some.inj hv,hb⟩
 | false=>exact ⟨_,rfl,(fun v hv=>by cases hv),hb⟩
theorem row3 (w:World) (a b c:Nat) (t:TypeId):∀ j,(h:j < [a,b,c].length)->(w.alloc (.cells #[.int .i64 (a:Int),.int .i64 (b:Int),.int .i64 (c:Int)] t)).cell? ⟨w.heap.size,j,none⟩=some (.int .i64 (([a,b,c][j]:Nat):Int)):=by
 intro j hj
 refine (cell_of_row _ _ _ _ _ _ (Qac w _ rfl)).trans ?_
 match j,hj with
 | 0,_=>rfl
 | 1,_=>rfl
 | 2,_=>rfl
theorem widths3 {a b c:Nat} (ha:1<=a/\a<=4) (hb:1<=b/\b<=4) (hc:1<=c/\c<=4):widths [a,b,c]:=by
 intro j hj
 match j,hj with
 | 0,_=>exact ha
 | 1,_=>exact hb
 | 2,_=>exact hc
def rdN (form pv:Int) (l:List UInt8):Int:=if formB form=true/\(1<=pv/\pv<=9900) then (Qa1 form pv l).getD 0 else 0
def rdF (form pv:Int) (l:List UInt8):Int:=if formB form=false then 4 else if ¬ (1<=pv/\pv<=9900) then 1 else if (Qa1 form pv l).isSome=true then 0 else 10
end Go.Proofs.YtaiabjiehpcaoaaGreatDoor
namespace Go.Proofs.YtaiabjiehpcaoaaGreatDoor
open Go.RowKit Limb Nmb
set_option linter.unusedVariables false
set_option linter.unusedSimpArgs false
def RetI (v:Int) (w:World) (e:Ending) (w':World):Prop:=e=.returned (.int .i64 v)/\Below w.heap.size w w'
theorem QbS (n lo hi:Int) (w:World):Calls Tryz.prog 96 #[.int .i64 n,.int .i64 lo,.int .i64 hi] w fun e w'=>w=w'/\e=.returned (.bool (!decide (lo<=n/\n<=hi))):=by
 by_cases h:lo<=n/\n<=hi
 ·rw [decide_eq_true h];exact out_no n lo hi w h
 ·rw [decide_eq_false h];exact out_yes n lo hi w h
theorem fenc_fin:∀ n:Fin 128,Utf8.encode ((n.val:Nat):Int)=(⟨#[UInt8.ofNat n.val]⟩:ByteArray):=by decide +kernel
theorem fenc_ascii {g:UInt8} (h:g.toNat<128):Utf8.encode ((g.toNat:Nat):Int)=(⟨#[g]⟩:ByteArray):=by
 have:=fenc_fin ⟨g.toNat,h⟩
 rw [this]
 simp
theorem enc_small {b:Int} (h0:0<=b) (h1:b<128):Utf8.encode b=⟨#[UInt8.ofNat b.toNat]⟩:=by
 have h:Utf8.encode (((UInt8.ofNat b.toNat).toNat:Nat):Int)=⟨#[UInt8.ofNat b.toNat]⟩:=fenc_ascii (by simp;omega)
 have e:(((UInt8.ofNat b.toNat).toNat:Nat):Int)=b:=by simp;omega
 rw [e] at h
 exact h
theorem markf_c (b:Int) (w:World) (hb:0<=b/\b<=255):Calls Tryz.prog 91 #[.int .u8 b] w (RetB (QaR b) w):=by
 obtain ⟨b0,b1⟩:=hb
 have hcv:∀ w,(convert 5 9 (.int .u8 b)).run Tryz.prog w=.ok (.string (Utf8.encode b)) w:=fun w=>run_convert_int_string _ _ _ _ _ (by kernel_rfl) (by kernel_rfl)
 by_cases h1:b<32
 ·rw [show QaR b=true by unfold QaR;simp [h1]]
  generalize Utf8.encode b=s at hcv
  go_enter Tryz.func91,Tryz.ntmps91
  go_wp2
  go_ret
  exact ⟨rfl,Below.refl _ _⟩
 by_cases h2:126<b
 ·rw [show QaR b=true by unfold QaR;simp [h2]]
  generalize Utf8.encode b=s at hcv
  go_enter Tryz.func91,Tryz.ntmps91
  go_wp2
  go_ret
  exact ⟨rfl,Below.refl _ _⟩
 have hs:=enc_small b0 (by omega)
 have e8:(((UInt8.ofNat b.toNat).toNat:Nat):Int)=b:=by simp;omega
 have ht:tagL (Utf8.encode b).data.toList=tagC b:=by
  rw [hs]
  show ([UInt8.ofNat b.toNat].all fun c=>tagC (c.toNat:Int))=_
  simp only [List.all_cons,List.all_nil,Bool.and_true,e8]
 have hl:inL (Utf8.encode b).data.toList 97 122=decide (97<=b/\b<=122):=by
  rw [hs]
  show inL [UInt8.ofNat b.toNat] 97 122=_
  by_cases h:97<=b/\b<=122
  ·rw [decide_eq_true h]
   exact inL_mk (fun i hi=>by
    obtain rfl:i=0:=by simpa using hi
    show 97<=(((UInt8.ofNat b.toNat).toNat:Nat):Int)/\(((UInt8.ofNat b.toNat).toNat:Nat):Int)<=122
    rw [e8];exact h)
  ·rw [decide_eq_false h]
   exact inL_no (i:=0) (by simp) (fun k=>h (by
    have k':97<=(((UInt8.ofNat b.toNat).toNat:Nat):Int)/\(((UInt8.ofNat b.toNat).toNat:Nat):Int)<=122:=k
    rw [e8] at k';exact k'))
 have hsz:(Utf8.encode b).size=1:=by rw [hs];rfl
 generalize Utf8.encode b=s at hcv ht hl hsz
 have HT:=Hd (fun w=>istag_c s w (by omega))
 have HL:Hid (∀ w,Calls Tryz.prog 157 #[.string s,.int .u8 97,.int .u8 122] w fun e w'=>w=w'/\e=.returned (.bool (inL s.data.toList 97 122))):=Hd (fun w=>inb_c s 97 122 w (by omega))
 rw [ht] at HT
 rw [hl] at HL
 clear hs e8 ht hl hsz
 have hm:QaR b=(tagC b||decide (97<=b/\b<=122)||decide (b=45)||decide (b=46)):=by unfold QaR;simp [h1,h2]
 rw [hm]
 clear hm
 cases ht:tagC b with
 | true=>
  rw [ht] at HT
  clear ht
  go_enter Tryz.func91,Tryz.ntmps91
  go_wp2_with fail
  refine (HT.out _).mono ?_
  rintro e w2 ⟨rfl,hb2⟩
  go_wp2
  go_ret
  exact ⟨rfl,hb2⟩
 | false=>
  rw [ht] at HT
  clear ht
  by_cases h3:97<=b/\b<=122
  ·rw [decide_eq_true h3] at HL ⊢
   clear h3
   go_enter Tryz.func91,Tryz.ntmps91
   go_wp2_with fail
   refine (HT.out _).mono ?_
   rintro e w2 ⟨rfl,hb2⟩
   go_wp2_with fail
   refine (HL.out _).mono ?_
   rintro e w3 ⟨rfl,rfl⟩
   go_wp2
   go_ret
   exact ⟨rfl,hb2⟩
  ·rw [decide_eq_false h3] at HL ⊢
   clear h3
   go_enter Tryz.func91,Tryz.ntmps91
   go_wp2_with fail
   refine (HT.out _).mono ?_
   rintro e w2 ⟨rfl,hb2⟩
   go_wp2_with fail
   refine (HL.out _).mono ?_
   rintro e w3 ⟨rfl,rfl⟩
   by_cases h4:b=45
   ·subst h4
    go_wp2
    go_ret
    exact ⟨rfl,hb2⟩
   ·have h4':(b==45)=false:=by simpa using h4
    have H4:=Hd (decide_eq_false h4)
    clear h4
    by_cases h5:b=46
    ·subst h5
     go_wp2
     go_ret
     exact ⟨rfl,hb2⟩
    ·have h5':(b==46)=false:=by simpa using h5
     have H5:=Hd (decide_eq_false h5)
     clear h5
     go_wp2
     go_ret
     exact ⟨by rw [H4.out,H5.out];rfl,hb2⟩
theorem formw_c (n:Int) (w:World):Calls Tryz.prog 161 #[.int .i64 n] w fun e w'=>w=w'/\e=.returned (.int .i64 (formW n)):=by
 by_cases h1:n=1
 ·subst h1
  go_enter Tryz.func161,Tryz.ntmps161
  go_wp2
  go_ret
  exact ⟨rfl,rfl⟩
 by_cases h3:n=3
 ·subst h3
  go_enter Tryz.func161,Tryz.ntmps161
  go_wp2
  go_ret
  exact ⟨rfl,rfl⟩
 by_cases h4:n=4
 ·subst h4
  go_enter Tryz.func161,Tryz.ntmps161
  go_wp2
  go_ret
  exact ⟨rfl,rfl⟩
 by_cases h5:n=5
 ·subst h5
  go_enter Tryz.func161,Tryz.ntmps161
  go_wp2
  go_ret
  exact ⟨rfl,rfl⟩
 have e:formW n=0:=by unfold formW;rw [if_neg (by omega),if_neg h4,if_neg h5]
 rw [e]
 have k1:(n==1)=false:=by simpa using h1
 have k3:(n==3)=false:=by simpa using h3
 have k4:(n==4)=false:=by simpa using h4
 have k5:(n==5)=false:=by simpa using h5
 clear h1 h3 h4 h5 e
 go_enter Tryz.func161,Tryz.ntmps161
 go_wp2
 go_ret
 exact ⟨rfl,rfl⟩
theorem marks_c (f:Fmt) (A:Option Addr) (c:Nat) (w:World) (hm:0<=f.mark/\f.mark<=255) (hq:0<=f.quote/\f.quote<=255) :
  Calls Tryz.prog 52 #[fmtG f A c] w (RetI (QaE f.mark f.quote) w):=by
 obtain ⟨m,q,ks,hd,tl,ct,sm⟩:=f
 simp only at *
 unfold fmtG
 simp only
 by_cases h0:m=0
 ·subst h0
  by_cases h1:q=0
  ·subst h1
   go_enter Tryz.func52,Tryz.ntmps52
   go_wp2
   go_ret
   exact ⟨rfl,by go_grown⟩
  ·rw [show QaE 0 q=3 by unfold QaE;simp [h1]]
   have k1:(q !=0)=true:=by simpa using h1
   clear h1
   go_enter Tryz.func52,Tryz.ntmps52
   go_wp2
   go_ret
   exact ⟨rfl,by go_grown⟩
 have k0:(m !=0)=true:=by simpa using h0
 have k0':(m==0)=false:=by simpa using h0
 have HM:=Hd (fun w=>markf_c m w hm)
 have HQ:=Hd (fun w=>markf_c q w hq)
 have hF:=Qac w (.cells #[.int .u8 m,.int .u8 q,.slice A ks.length c,.string hd,.string tl,.string ct,.string sm] 24) rfl
 have hb0:Below w.heap.size w (w.alloc (.cells #[.int .u8 m,.int .u8 q,.slice A ks.length c,.string hd,.string tl,.string ct,.string sm] 24)):=by go_grown
 cases e1:QaR m with
 | true=>
  rw [e1] at HM
  rw [show QaE m q=12 by unfold QaE;simp [h0,e1]]
  clear e1 h0
  go_enter Tryz.func52,Tryz.ntmps52
  go_wp2_with fail
  refine (HM.out _).mono ?_
  rintro e w2 ⟨rfl,hb2⟩
  obtain ⟨⟨f0,f1,f2,f3,f4,f5,f6⟩,f7⟩:=Qai (Qaa hF hb2)
  have hB2:=Qab hb2 hb0 hb0.size
  go_wp2
  go_ret
  exact ⟨rfl,hB2⟩
 | false=>
  rw [e1] at HM
  by_cases h1:q=0
  ·subst h1
   rw [show QaE m 0=0 by unfold QaE;simp [h0,e1]]
   clear e1 h0
   go_enter Tryz.func52,Tryz.ntmps52
   go_wp2_with fail
   refine (HM.out _).mono ?_
   rintro e w2 ⟨rfl,hb2⟩
   obtain ⟨⟨f0,f1,f2,f3,f4,f5,f6⟩,f7⟩:=Qai (Qaa hF hb2)
   have hB2:=Qab hb2 hb0 hb0.size
   go_wp2
   go_ret
   exact ⟨rfl,hB2⟩
  ·have k1:(q !=0)=true:=by simpa using h1
   cases e2:QaR q with
   | true=>
    rw [e2] at HQ
    rw [show QaE m q=12 by unfold QaE;simp [h0,e1,h1,e2]]
    clear e1 h0 e2 h1
    go_enter Tryz.func52,Tryz.ntmps52
    go_wp2_with fail
    refine (HM.out _).mono ?_
    rintro e w2 ⟨rfl,hb2⟩
    obtain ⟨⟨f0,f1,f2,f3,f4,f5,f6⟩,f7⟩:=Qai (Qaa hF hb2)
    have hB2:=Qab hb2 hb0 hb0.size
    go_wp2_with fail
    refine (HQ.out _).mono ?_
    rintro e w3 ⟨rfl,hb3⟩
    have hB3:=Qab hb3 hB2 hB2.size
    obtain ⟨⟨f0,f1,f2,f3,f4,f5,f6⟩,f7⟩:=Qai (Qaa (Qaa hF hb2) hb3)
    go_wp2
    go_ret
    exact ⟨rfl,hB3⟩
   | false=>
    rw [e2] at HQ
    by_cases h3:m=q
    ·subst h3
     rw [show QaE m m=12 by unfold QaE;simp [h0]]
     clear e1 h0 e2 h1
     go_enter Tryz.func52,Tryz.ntmps52
     go_wp2_with fail
     refine (HM.out _).mono ?_
     rintro e w2 ⟨rfl,hb2⟩
     obtain ⟨⟨f0,f1,f2,f3,f4,f5,f6⟩,f7⟩:=Qai (Qaa hF hb2)
     have hB2:=Qab hb2 hb0 hb0.size
     go_wp2_with fail
     refine (HQ.out _).mono ?_
     rintro e w3 ⟨rfl,hb3⟩
     have hB3:=Qab hb3 hB2 hB2.size
     obtain ⟨⟨f0,f1,f2,f3,f4,f5,f6⟩,f7⟩:=Qai (Qaa (Qaa hF hb2) hb3)
     go_wp2
     go_ret
     exact ⟨rfl,hB3⟩
    ·have k3:(m==q)=false:=by simpa using h3
     rw [show QaE m q=0 by unfold QaE;simp [h0,e1,h1,e2,h3]]
     clear e1 h0 e2 h1 h3
     go_enter Tryz.func52,Tryz.ntmps52
     go_wp2_with fail
     refine (HM.out _).mono ?_
     rintro e w2 ⟨rfl,hb2⟩
     obtain ⟨⟨f0,f1,f2,f3,f4,f5,f6⟩,f7⟩:=Qai (Qaa hF hb2)
     have hB2:=Qab hb2 hb0 hb0.size
     go_wp2_with fail
     refine (HQ.out _).mono ?_
     rintro e w3 ⟨rfl,hb3⟩
     have hB3:=Qab hb3 hB2 hB2.size
     obtain ⟨⟨f0,f1,f2,f3,f4,f5,f6⟩,f7⟩:=Qai (Qaa (Qaa hF hb2) hb3)
     go_wp2
     go_ret
     exact ⟨rfl,hB3⟩
theorem idle_c (f:Fmt) (A:Option Addr) (c:Nat) (k:Col) (w:World) :
  Calls Tryz.prog 162 #[fmtG f A c,colG k] w (RetB (QaA f.mark k) w):=by
 obtain ⟨m,q,ks,hd,tl,ct,sm⟩:=f
 simp only at *
 unfold fmtG
 simp only
 obtain ⟨nm,kd,wd,pl,fo,ri,fi,ne⟩:=k
 unfold colG
 simp only
 by_cases h1:kd=2
 ·subst h1
  by_cases h3:fo=0
  ·subst h3
   by_cases h4:m=0
   ·subst h4
    rw [show QaA 0 ⟨nm,2,wd,pl,0,ri,fi,ne⟩=true by unfold QaA;simp []]
    go_enter Tryz.func162,Tryz.ntmps162
    go_wp2
    go_quiet (fail)
    go_wp2
    go_ret
    exact ⟨rfl,below_drewN (by go_grown) _⟩
   ·have h4a:(m==0)=false:=by simpa using h4
    cases ri with
    | true=>
     rw [show QaA m ⟨nm,2,wd,pl,0,true,fi,ne⟩=false by unfold QaA;simp [h4]]
     go_enter Tryz.func162,Tryz.ntmps162
     go_wp2
     go_quiet (fail)
     go_wp2
     go_ret
     exact ⟨rfl,below_drewN (by go_grown) _⟩
    | false=>
     by_cases h5:fi=0
     ·subst h5
      rw [show QaA m ⟨nm,2,wd,pl,0,false,0,ne⟩=true by unfold QaA;simp [h4]]
      go_enter Tryz.func162,Tryz.ntmps162
      go_wp2
      go_quiet (fail)
      go_wp2
      go_ret
      exact ⟨rfl,below_drewN (by go_grown) _⟩
     ·have h5a:(fi==0)=false:=by simpa using h5
      rw [show QaA m ⟨nm,2,wd,pl,0,false,fi,ne⟩=false by unfold QaA;simp [h4,h5]]
      go_enter Tryz.func162,Tryz.ntmps162
      go_wp2
      go_quiet (fail)
      go_wp2
      go_ret
      exact ⟨rfl,below_drewN (by go_grown) _⟩
  ·have h3a:(fo==0)=false:=by simpa using h3
   rw [show QaA m ⟨nm,2,wd,pl,fo,ri,fi,ne⟩=false by unfold QaA;simp [h3]]
   go_enter Tryz.func162,Tryz.ntmps162
   go_wp2
   go_quiet (fail)
   go_wp2
   go_ret
   exact ⟨rfl,below_drewN (by go_grown) _⟩
 by_cases h1b:kd=3
 ·subst h1b
  clear h1
  by_cases h2:pl=0
  ·subst h2
   cases ri with
   | true=>
    rw [show QaA m ⟨nm,3,wd,0,fo,true,fi,ne⟩=false by unfold QaA;simp []]
    go_enter Tryz.func162,Tryz.ntmps162
    go_wp2
    go_quiet (fail)
    go_wp2
    go_ret
    exact ⟨rfl,below_drewN (by go_grown) _⟩
   | false=>
    by_cases h5:fi=0
    ·subst h5
     rw [show QaA m ⟨nm,3,wd,0,fo,false,0,ne⟩=true by unfold QaA;simp []]
     go_enter Tryz.func162,Tryz.ntmps162
     go_wp2
     go_quiet (fail)
     go_wp2
     go_ret
     exact ⟨rfl,below_drewN (by go_grown) _⟩
    ·have h5a:(fi==0)=false:=by simpa using h5
     rw [show QaA m ⟨nm,3,wd,0,fo,false,fi,ne⟩=false by unfold QaA;simp [h5]]
     go_enter Tryz.func162,Tryz.ntmps162
     go_wp2
     go_quiet (fail)
     go_wp2
     go_ret
     exact ⟨rfl,below_drewN (by go_grown) _⟩
  ·have h2a:(pl==0)=false:=by simpa using h2
   rw [show QaA m ⟨nm,3,wd,pl,fo,ri,fi,ne⟩=false by unfold QaA;simp [h2]]
   go_enter Tryz.func162,Tryz.ntmps162
   go_wp2
   go_quiet (fail)
   go_wp2
   go_ret
   exact ⟨rfl,below_drewN (by go_grown) _⟩
 have h1a:(kd==2)=false:=by simpa using h1
 have h1c:(kd==3)=false:=by simpa using h1b
 by_cases h2:pl=0
 ·subst h2
  by_cases h3:fo=0
  ·subst h3
   by_cases h4:m=0
   ·subst h4
    rw [show QaA 0 ⟨nm,kd,wd,0,0,ri,fi,ne⟩=true by unfold QaA;simp [h1,h1b]]
    go_enter Tryz.func162,Tryz.ntmps162
    go_wp2
    go_quiet (fail)
    go_wp2
    go_ret
    exact ⟨rfl,below_drewN (by go_grown) _⟩
   ·have h4a:(m==0)=false:=by simpa using h4
    cases ri with
    | true=>
     rw [show QaA m ⟨nm,kd,wd,0,0,true,fi,ne⟩=false by unfold QaA;simp [h1,h1b,h4]]
     go_enter Tryz.func162,Tryz.ntmps162
     go_wp2
     go_quiet (fail)
     go_wp2
     go_ret
     exact ⟨rfl,below_drewN (by go_grown) _⟩
    | false=>
     by_cases h5:fi=0
     ·subst h5
      rw [show QaA m ⟨nm,kd,wd,0,0,false,0,ne⟩=true by unfold QaA;simp [h1,h1b,h4]]
      go_enter Tryz.func162,Tryz.ntmps162
      go_wp2
      go_quiet (fail)
      go_wp2
      go_ret
      exact ⟨rfl,below_drewN (by go_grown) _⟩
     ·have h5a:(fi==0)=false:=by simpa using h5
      rw [show QaA m ⟨nm,kd,wd,0,0,false,fi,ne⟩=false by unfold QaA;simp [h1,h1b,h4,h5]]
      go_enter Tryz.func162,Tryz.ntmps162
      go_wp2
      go_quiet (fail)
      go_wp2
      go_ret
      exact ⟨rfl,below_drewN (by go_grown) _⟩
  ·have h3a:(fo==0)=false:=by simpa using h3
   rw [show QaA m ⟨nm,kd,wd,0,fo,ri,fi,ne⟩=false by unfold QaA;simp [h1,h1b,h3]]
   go_enter Tryz.func162,Tryz.ntmps162
   go_wp2
   go_quiet (fail)
   go_wp2
   go_ret
   exact ⟨rfl,below_drewN (by go_grown) _⟩
 ·have h2a:(pl==0)=false:=by simpa using h2
  rw [show QaA m ⟨nm,kd,wd,pl,fo,ri,fi,ne⟩=false by unfold QaA;simp [h1,h1b,h2]]
  go_enter Tryz.func162,Tryz.ntmps162
  go_wp2
  go_quiet (fail)
  go_wp2
  go_ret
  exact ⟨rfl,below_drewN (by go_grown) _⟩
end Go.Proofs.YtaiabjiehpcaoaaGreatDoor
