/- The walks of CheckFormat's parts: marks, forms, idle. The walks of CheckFormat's parts: marks, what is idle, columns. (Printed by genF4.py.) -/
import Derived.Deep.DeepCutAuto
import Derived.Test.YtbfbgappinilmaaGreatDoorE2
import Derived.Test.YtbfbgappinilmaaGreatDoorK4
-- merged: F3 F4
namespace Go.Proofs.YtbfbgappinilmaaGreatDoor
open Go.RowKit Limb Nmb
set_option linter.unusedVariables false
set_option linter.unusedSimpArgs false
def RetI (v:Int) (w:World) (e:Ending) (w':World):Prop:=e=.returned (.int .i64 v)/\Below w.heap.size w w'
theorem fout_b (n lo hi:Int) (w:World):Calls Tryz.prog 22 #[.int .i64 n,.int .i64 lo,.int .i64 hi] w fun e w'=>w=w'/\e=.returned (.bool (!decide (lo<=n/\n<=hi))):=by
 by_cases h:lo<=n/\n<=hi
 ·rw [decide_eq_true h];exact out_no n lo hi w h
 ·rw [decide_eq_false h];exact out_yes n lo hi w h
theorem fenc_fin:∀ n:Fin 128,Utf8.encode ((n.val:Nat):Int)=(⟨#[UInt8.ofNat n.val]⟩:ByteArray):=by decide +kernel
theorem fenc_ascii {g:UInt8} (h:g.toNat<128):Utf8.encode ((g.toNat:Nat):Int)=(⟨#[g]⟩:ByteArray):=by
 have:=fenc_fin ⟨g.toNat,h⟩
 rw [this]
 simp
theorem enc_small {b:Int} (h0:0<=b) (h1:b<128):Utf8.encode b=⟨#[UInt8.ofNat b.toNat]⟩:=by
 have h:Utf8.encode (((UInt8.ofNat b.toNat).toNat:Nat):Int)=⟨#[UInt8.ofNat b.toNat]⟩:=fenc_ascii (by simp;omega)
 have e:(((UInt8.ofNat b.toNat).toNat:Nat):Int)=b:=by simp;omega
 rw [e] at h
 exact h
set_option maxHeartbeats 1000000 in
set_option maxRecDepth 100000 in
theorem markf_c (b:Int) (w:World) (hb:0<=b/\b<=255):Calls Tryz.prog 116 #[.int .u8 b] w (RetB (markF b) w):=by
 obtain ⟨b0,b1⟩:=hb
 have hcv:∀ w,(convert 5 9 (.int .u8 b)).run Tryz.prog w=.ok (.string (Utf8.encode b)) w:=fun w=>run_convert_int_string _ _ _ _ _ (by kernel_rfl) (by kernel_rfl)
 by_cases h1:b<32
 ·rw [show markF b=true by unfold markF;simp [h1]]
  generalize Utf8.encode b=s at hcv
  go_enter Tryz.func116,Tryz.ntmps116
  go_wp2
  go_ret
  exact ⟨rfl,Below.refl _ _⟩
 by_cases h2:126<b
 ·rw [show markF b=true by unfold markF;simp [h2]]
  generalize Utf8.encode b=s at hcv
  go_enter Tryz.func116,Tryz.ntmps116
  go_wp2
  go_ret
  exact ⟨rfl,Below.refl _ _⟩
 have hs:=enc_small b0 (by omega)
 have e8:(((UInt8.ofNat b.toNat).toNat:Nat):Int)=b:=by simp;omega
 have ht:tagL (Utf8.encode b).data.toList=tagC b:=by
  rw [hs]
  show ([UInt8.ofNat b.toNat].all fun c=>tagC (c.toNat:Int))=_
  simp only [List.all_cons,List.all_nil,Bool.and_true,e8]
 have hl:inL (Utf8.encode b).data.toList 97 122=decide (97<=b/\b<=122):=by
  rw [hs]
  show inL [UInt8.ofNat b.toNat] 97 122=_
  by_cases h:97<=b/\b<=122
  ·rw [decide_eq_true h]
   exact inL_mk (fun i hi=>by
    obtain rfl:i=0:=by simpa using hi
    show 97<=(((UInt8.ofNat b.toNat).toNat:Nat):Int)/\(((UInt8.ofNat b.toNat).toNat:Nat):Int)<=122
    rw [e8];exact h)
  ·rw [decide_eq_false h]
   exact inL_no (i:=0) (by simp) (fun k=>h (by
    have k':97<=(((UInt8.ofNat b.toNat).toNat:Nat):Int)/\(((UInt8.ofNat b.toNat).toNat:Nat):Int)<=122:=k
    rw [e8] at k';exact k'))
 have hsz:(Utf8.encode b).size=1:=by rw [hs];rfl
 generalize Utf8.encode b=s at hcv ht hl hsz
 have HT:=Lib.hid (fun w=>istag_c s w (by omega))
 have HL:Hid (∀ w,Calls Tryz.prog 111 #[.string s,.int .u8 97,.int .u8 122] w fun e w'=>w=w'/\e=.returned (.bool (inL s.data.toList 97 122))):=Lib.hid (fun w=>inb_c s 97 122 w (by omega))
 rw [ht] at HT
 rw [hl] at HL
 clear hs e8 ht hl hsz
 have hm:markF b=(tagC b||decide (97<=b/\b<=122)||decide (b=45)||decide (b=46)):=by unfold markF;simp [h1,h2]
 rw [hm]
 clear hm
 cases ht:tagC b with
 | true=>
  rw [ht] at HT
  clear ht
  go_enter Tryz.func116,Tryz.ntmps116
  go_wp2_with fail
  refine (HT.out _).mono ?_
  rintro e w2 ⟨rfl,hb2⟩
  go_wp2
  go_ret
  exact ⟨rfl,hb2⟩
 | false=>
  rw [ht] at HT
  clear ht
  by_cases h3:97<=b/\b<=122
  ·rw [decide_eq_true h3] at HL ⊢
   clear h3
   go_enter Tryz.func116,Tryz.ntmps116
   go_wp2_with fail
   refine (HT.out _).mono ?_
   rintro e w2 ⟨rfl,hb2⟩
   go_wp2_with fail
   refine (HL.out _).mono ?_
   rintro e w3 ⟨rfl,rfl⟩
   go_wp2
   go_ret
   exact ⟨rfl,hb2⟩
  ·rw [decide_eq_false h3] at HL ⊢
   clear h3
   go_enter Tryz.func116,Tryz.ntmps116
   go_wp2_with fail
   refine (HT.out _).mono ?_
   rintro e w2 ⟨rfl,hb2⟩
   go_wp2_with fail
   refine (HL.out _).mono ?_
   rintro e w3 ⟨rfl,rfl⟩
   by_cases h4:b=45
   ·subst h4
    go_wp2
    go_ret
    exact ⟨rfl,hb2⟩
   ·have h4':(b==45)=false:=by simpa using h4
    have H4:=Lib.hid (decide_eq_false h4)
    clear h4
    by_cases h5:b=46
    ·subst h5
     go_wp2
     go_ret
     exact ⟨rfl,hb2⟩
    ·have h5':(b==46)=false:=by simpa using h5
     have H5:=Lib.hid (decide_eq_false h5)
     clear h5
     go_wp2
     go_ret
     exact ⟨by rw [H4.out,H5.out];rfl,hb2⟩
theorem formw_c (n:Int) (w:World):Calls Tryz.prog 149 #[.int .i64 n] w fun e w'=>w=w'/\e=.returned (.int .i64 (formW n)):=by
 by_cases h1:n=1
 ·subst h1
  go_enter Tryz.func149,Tryz.ntmps149
  go_wp2
  go_ret
  exact ⟨rfl,rfl⟩
 by_cases h3:n=3
 ·subst h3
  go_enter Tryz.func149,Tryz.ntmps149
  go_wp2
  go_ret
  exact ⟨rfl,rfl⟩
 by_cases h4:n=4
 ·subst h4
  go_enter Tryz.func149,Tryz.ntmps149
  go_wp2
  go_ret
  exact ⟨rfl,rfl⟩
 by_cases h5:n=5
 ·subst h5
  go_enter Tryz.func149,Tryz.ntmps149
  go_wp2
  go_ret
  exact ⟨rfl,rfl⟩
 have e:formW n=0:=by unfold formW;rw [if_neg (by omega),if_neg h4,if_neg h5]
 rw [e]
 have k1:(n==1)=false:=by simpa using h1
 have k3:(n==3)=false:=by simpa using h3
 have k4:(n==4)=false:=by simpa using h4
 have k5:(n==5)=false:=by simpa using h5
 clear h1 h3 h4 h5 e
 go_enter Tryz.func149,Tryz.ntmps149
 go_wp2
 go_ret
 exact ⟨rfl,rfl⟩
set_option maxHeartbeats 1000000 in
set_option maxRecDepth 100000 in
theorem marks_c (f:Fmt) (A:Option Addr) (c:Nat) (w:World) (hm:0<=f.mark/\f.mark<=255) (hq:0<=f.quote/\f.quote<=255) :
  Calls Tryz.prog 73 #[fmtG f A c] w (RetI (marksF f.mark f.quote) w):=by
 obtain ⟨m,q,ks,hd,tl,ct,sm⟩:=f
 simp only at *
 unfold fmtG
 simp only
 by_cases h0:m=0
 ·subst h0
  by_cases h1:q=0
  ·subst h1
   go_enter Tryz.func73,Tryz.ntmps73
   go_wp2
   go_ret
   exact ⟨rfl,by go_grown⟩
  ·rw [show marksF 0 q=3 by unfold marksF;simp [h1]]
   have k1:(q !=0)=true:=by simpa using h1
   clear h1
   go_enter Tryz.func73,Tryz.ntmps73
   go_wp2
   go_ret
   exact ⟨rfl,by go_grown⟩
 have k0:(m !=0)=true:=by simpa using h0
 have k0':(m==0)=false:=by simpa using h0
 have HM:=Lib.hid (fun w=>markf_c m w hm)
 have HQ:=Lib.hid (fun w=>markf_c q w hq)
 have hF:=heap_new w (.cells #[.int .u8 m,.int .u8 q,.slice A ks.length c,.string hd,.string tl,.string ct,.string sm] 44) rfl
 have hb0:Below w.heap.size w (w.alloc (.cells #[.int .u8 m,.int .u8 q,.slice A ks.length c,.string hd,.string tl,.string ct,.string sm] 44)):=by go_grown
 cases e1:markF m with
 | true=>
  rw [e1] at HM
  rw [show marksF m q=12 by unfold marksF;simp [h0,e1]]
  clear e1 h0
  go_enter Tryz.func73,Tryz.ntmps73
  go_wp2_with fail
  refine (HM.out _).mono ?_
  rintro e w2 ⟨rfl,hb2⟩
  obtain ⟨⟨f0,f1,f2,f3,f4,f5,f6⟩,f7⟩:=obox7 (heap_below hF hb2)
  have hB2:=below_then hb2 hb0 hb0.size
  go_wp2
  go_ret
  exact ⟨rfl,hB2⟩
 | false=>
  rw [e1] at HM
  by_cases h1:q=0
  ·subst h1
   rw [show marksF m 0=0 by unfold marksF;simp [h0,e1]]
   clear e1 h0
   go_enter Tryz.func73,Tryz.ntmps73
   go_wp2_with fail
   refine (HM.out _).mono ?_
   rintro e w2 ⟨rfl,hb2⟩
   obtain ⟨⟨f0,f1,f2,f3,f4,f5,f6⟩,f7⟩:=obox7 (heap_below hF hb2)
   have hB2:=below_then hb2 hb0 hb0.size
   go_wp2
   go_ret
   exact ⟨rfl,hB2⟩
  ·have k1:(q !=0)=true:=by simpa using h1
   cases e2:markF q with
   | true=>
    rw [e2] at HQ
    rw [show marksF m q=12 by unfold marksF;simp [h0,e1,h1,e2]]
    clear e1 h0 e2 h1
    go_enter Tryz.func73,Tryz.ntmps73
    go_wp2_with fail
    refine (HM.out _).mono ?_
    rintro e w2 ⟨rfl,hb2⟩
    obtain ⟨⟨f0,f1,f2,f3,f4,f5,f6⟩,f7⟩:=obox7 (heap_below hF hb2)
    have hB2:=below_then hb2 hb0 hb0.size
    go_wp2_with fail
    refine (HQ.out _).mono ?_
    rintro e w3 ⟨rfl,hb3⟩
    have hB3:=below_then hb3 hB2 hB2.size
    obtain ⟨⟨f0,f1,f2,f3,f4,f5,f6⟩,f7⟩:=obox7 (heap_below (heap_below hF hb2) hb3)
    go_wp2
    go_ret
    exact ⟨rfl,hB3⟩
   | false=>
    rw [e2] at HQ
    by_cases h3:m=q
    ·subst h3
     rw [show marksF m m=12 by unfold marksF;simp [h0]]
     clear e1 h0 e2 h1
     go_enter Tryz.func73,Tryz.ntmps73
     go_wp2_with fail
     refine (HM.out _).mono ?_
     rintro e w2 ⟨rfl,hb2⟩
     obtain ⟨⟨f0,f1,f2,f3,f4,f5,f6⟩,f7⟩:=obox7 (heap_below hF hb2)
     have hB2:=below_then hb2 hb0 hb0.size
     go_wp2_with fail
     refine (HQ.out _).mono ?_
     rintro e w3 ⟨rfl,hb3⟩
     have hB3:=below_then hb3 hB2 hB2.size
     obtain ⟨⟨f0,f1,f2,f3,f4,f5,f6⟩,f7⟩:=obox7 (heap_below (heap_below hF hb2) hb3)
     go_wp2
     go_ret
     exact ⟨rfl,hB3⟩
    ·have k3:(m==q)=false:=by simpa using h3
     rw [show marksF m q=0 by unfold marksF;simp [h0,e1,h1,e2,h3]]
     clear e1 h0 e2 h1 h3
     go_enter Tryz.func73,Tryz.ntmps73
     go_wp2_with fail
     refine (HM.out _).mono ?_
     rintro e w2 ⟨rfl,hb2⟩
     obtain ⟨⟨f0,f1,f2,f3,f4,f5,f6⟩,f7⟩:=obox7 (heap_below hF hb2)
     have hB2:=below_then hb2 hb0 hb0.size
     go_wp2_with fail
     refine (HQ.out _).mono ?_
     rintro e w3 ⟨rfl,hb3⟩
     have hB3:=below_then hb3 hB2 hB2.size
     obtain ⟨⟨f0,f1,f2,f3,f4,f5,f6⟩,f7⟩:=obox7 (heap_below (heap_below hF hb2) hb3)
     go_wp2
     go_ret
     exact ⟨rfl,hB3⟩
set_option maxHeartbeats 2000000 in
set_option maxRecDepth 100000 in
theorem idle_c (f:Fmt) (A:Option Addr) (c:Nat) (k:Col) (w:World) :
  Calls Tryz.prog 150 #[fmtG f A c,colG k] w (RetB (idleB f.mark k) w):=by
 obtain ⟨m,q,ks,hd,tl,ct,sm⟩:=f
 simp only at *
 unfold fmtG
 simp only
 obtain ⟨nm,kd,wd,pl,fo,ri,fi,ne⟩:=k
 unfold colG
 simp only
 by_cases h1:kd=2
 ·subst h1
  by_cases h3:fo=0
  ·subst h3
   by_cases h4:m=0
   ·subst h4
    rw [show idleB 0 ⟨nm,2,wd,pl,0,ri,fi,ne⟩=true by unfold idleB;simp []]
    go_enter Tryz.func150,Tryz.ntmps150
    go_wp2
    go_quiet (fail)
    go_wp2
    go_ret
    exact ⟨rfl,below_drewN (by go_grown) _⟩
   ·have h4a:(m==0)=false:=by simpa using h4
    cases ri with
    | true=>
     rw [show idleB m ⟨nm,2,wd,pl,0,true,fi,ne⟩=false by unfold idleB;simp [h4]]
     go_enter Tryz.func150,Tryz.ntmps150
     go_wp2
     go_quiet (fail)
     go_wp2
     go_ret
     exact ⟨rfl,below_drewN (by go_grown) _⟩
    | false=>
     by_cases h5:fi=0
     ·subst h5
      rw [show idleB m ⟨nm,2,wd,pl,0,false,0,ne⟩=true by unfold idleB;simp [h4]]
      go_enter Tryz.func150,Tryz.ntmps150
      go_wp2
      go_quiet (fail)
      go_wp2
      go_ret
      exact ⟨rfl,below_drewN (by go_grown) _⟩
     ·have h5a:(fi==0)=false:=by simpa using h5
      rw [show idleB m ⟨nm,2,wd,pl,0,false,fi,ne⟩=false by unfold idleB;simp [h4,h5]]
      go_enter Tryz.func150,Tryz.ntmps150
      go_wp2
      go_quiet (fail)
      go_wp2
      go_ret
      exact ⟨rfl,below_drewN (by go_grown) _⟩
  ·have h3a:(fo==0)=false:=by simpa using h3
   rw [show idleB m ⟨nm,2,wd,pl,fo,ri,fi,ne⟩=false by unfold idleB;simp [h3]]
   go_enter Tryz.func150,Tryz.ntmps150
   go_wp2
   go_quiet (fail)
   go_wp2
   go_ret
   exact ⟨rfl,below_drewN (by go_grown) _⟩
 by_cases h1b:kd=3
 ·subst h1b
  clear h1
  by_cases h2:pl=0
  ·subst h2
   cases ri with
   | true=>
    rw [show idleB m ⟨nm,3,wd,0,fo,true,fi,ne⟩=false by unfold idleB;simp []]
    go_enter Tryz.func150,Tryz.ntmps150
    go_wp2
    go_quiet (fail)
    go_wp2
    go_ret
    exact ⟨rfl,below_drewN (by go_grown) _⟩
   | false=>
    by_cases h5:fi=0
    ·subst h5
     rw [show idleB m ⟨nm,3,wd,0,fo,false,0,ne⟩=true by unfold idleB;simp []]
     go_enter Tryz.func150,Tryz.ntmps150
     go_wp2
     go_quiet (fail)
     go_wp2
     go_ret
     exact ⟨rfl,below_drewN (by go_grown) _⟩
    ·have h5a:(fi==0)=false:=by simpa using h5
     rw [show idleB m ⟨nm,3,wd,0,fo,false,fi,ne⟩=false by unfold idleB;simp [h5]]
     go_enter Tryz.func150,Tryz.ntmps150
     go_wp2
     go_quiet (fail)
     go_wp2
     go_ret
     exact ⟨rfl,below_drewN (by go_grown) _⟩
  ·have h2a:(pl==0)=false:=by simpa using h2
   rw [show idleB m ⟨nm,3,wd,pl,fo,ri,fi,ne⟩=false by unfold idleB;simp [h2]]
   go_enter Tryz.func150,Tryz.ntmps150
   go_wp2
   go_quiet (fail)
   go_wp2
   go_ret
   exact ⟨rfl,below_drewN (by go_grown) _⟩
 have h1a:(kd==2)=false:=by simpa using h1
 have h1c:(kd==3)=false:=by simpa using h1b
 by_cases h2:pl=0
 ·subst h2
  by_cases h3:fo=0
  ·subst h3
   by_cases h4:m=0
   ·subst h4
    rw [show idleB 0 ⟨nm,kd,wd,0,0,ri,fi,ne⟩=true by unfold idleB;simp [h1,h1b]]
    go_enter Tryz.func150,Tryz.ntmps150
    go_wp2
    go_quiet (fail)
    go_wp2
    go_ret
    exact ⟨rfl,below_drewN (by go_grown) _⟩
   ·have h4a:(m==0)=false:=by simpa using h4
    cases ri with
    | true=>
     rw [show idleB m ⟨nm,kd,wd,0,0,true,fi,ne⟩=false by unfold idleB;simp [h1,h1b,h4]]
     go_enter Tryz.func150,Tryz.ntmps150
     go_wp2
     go_quiet (fail)
     go_wp2
     go_ret
     exact ⟨rfl,below_drewN (by go_grown) _⟩
    | false=>
     by_cases h5:fi=0
     ·subst h5
      rw [show idleB m ⟨nm,kd,wd,0,0,false,0,ne⟩=true by unfold idleB;simp [h1,h1b,h4]]
      go_enter Tryz.func150,Tryz.ntmps150
      go_wp2
      go_quiet (fail)
      go_wp2
      go_ret
      exact ⟨rfl,below_drewN (by go_grown) _⟩
     ·have h5a:(fi==0)=false:=by simpa using h5
      rw [show idleB m ⟨nm,kd,wd,0,0,false,fi,ne⟩=false by unfold idleB;simp [h1,h1b,h4,h5]]
      go_enter Tryz.func150,Tryz.ntmps150
      go_wp2
      go_quiet (fail)
      go_wp2
      go_ret
      exact ⟨rfl,below_drewN (by go_grown) _⟩
  ·have h3a:(fo==0)=false:=by simpa using h3
   rw [show idleB m ⟨nm,kd,wd,0,fo,ri,fi,ne⟩=false by unfold idleB;simp [h1,h1b,h3]]
   go_enter Tryz.func150,Tryz.ntmps150
   go_wp2
   go_quiet (fail)
   go_wp2
   go_ret
   exact ⟨rfl,below_drewN (by go_grown) _⟩
 ·have h2a:(pl==0)=false:=by simpa using h2
  rw [show idleB m ⟨nm,kd,wd,pl,fo,ri,fi,ne⟩=false by unfold idleB;simp [h1,h1b,h2]]
  go_enter Tryz.func150,Tryz.ntmps150
  go_wp2
  go_quiet (fail)
  go_wp2
  go_ret
  exact ⟨rfl,below_drewN (by go_grown) _⟩
end Go.Proofs.YtbfbgappinilmaaGreatDoor
