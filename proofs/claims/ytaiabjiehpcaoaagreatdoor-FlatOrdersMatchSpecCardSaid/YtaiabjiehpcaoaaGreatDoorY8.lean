
/- The walk of the reference's told. (Printed by genY8.py.) -/
import Derived.Test.YtaiabjiehpcaoaaGreatDoorC5
import Derived.Test.YtaiabjiehpcaoaaGreatDoorT14
import Derived.Test.YtaiabjiehpcaoaaGreatDoorRX
import Derived.Deep.CutRange
set_option maxHeartbeats 40000000
set_option maxRecDepth 100000
namespace Go.Proofs.YtaiabjiehpcaoaaGreatDoor
open Go.RowKit Limb Nmb Work
set_option linter.unusedVariables false
set_option linter.unusedSimpArgs false
def toldL (r:Int×Int×Int):List UInt8:=if r.2.2=0 then textL r.1 r.2.1.toNat else []
theorem ybig_sign {w:World} {s:Bool} {A:Option Addr} {n c:Nat} {z:Int} (h:Big .i64 3 B6 w s A n c z):s=decide (z<0):=by
 obtain ⟨l,_,_,_,_,nl,sl,rfl⟩:=h
 have h1:=sg_neg (b:=B6) (by decide) nl sl
 cases s
 ·exact (decide_eq_false (fun h=>by cases h1.1 h)).symm
 ·exact (decide_eq_true (h1.2 rfl)).symm
theorem ybig_abs {w:World} {s:Bool} {A:Option Addr} {n c:Nat} {z:Int} (h:Big .i64 3 B6 w s A n c z):Big .i64 3 B6 w false A n c ((z.natAbs:Nat):Int):=by
 obtain ⟨l,hd,h1,h2,h3,h4,h5,rfl⟩:=h
 exact ⟨l,hd,h1,h2,h3,h4,(fun h=>by cases h),by rw [Qau];rfl⟩
theorem ybig_neg {w:World} {s:Bool} {A:Option Addr} {n c:Nat} {z:Int} (h:Big .i64 3 B6 w s A n c z) (hz:0<z):Big .i64 3 B6 w true A n c (-z):=by
 have hs:=ybig_sign h
 rw [decide_eq_false (by omega)] at hs
 subst hs
 obtain ⟨l,hd,h1,h2,h3,h4,h5,rfl⟩:=h
 exact ⟨l,hd,h1,h2,h3,h4,(fun _ e=>by subst e;simp [sg,val] at hz),rfl⟩
theorem ten_190:10<10 ^ 190:=Nat.lt_of_lt_of_le (show 10<10 ^ 2 by omega) (Nat.pow_le_pow_right (by omega) (by omega))
theorem abs_190 {v:Int} (h : -10000000000000000000000000000000000000000<=v/\v<=10000000000000000000000000000000000000000):v.natAbs<10 ^ 190 :=
 Nat.lt_of_lt_of_le (show v.natAbs<10 ^ 41 by omega) (Nat.pow_le_pow_right (by omega) (by omega))
theorem told_c (w:World) {s:Bool} {A:Option Addr} {n c:Nat} {z:Int} (h:Big .i64 3 B6 w s A n c z) (hz : -10000000000000000000000000000000000000000<=z/\z<=10000000000000000000000000000000000000000) (ht:Tab w) :
  Calls Tryz.prog 45 #[.agg #[.bool s,.slice A n c]] w (RetST (toldL (fewF z 9)) (fewF z 9).2.2 w):=by
 obtain ⟨R,hR⟩:=ex_ (fewF z 9)
 have HR:=Hd hR
 rw [hR]
 have HZ:=Hd hz
 have HTB:=Hd ht
 have hN0:=Qac w (.cells #[.bool s,.slice A n c] 77) rfl
 have hB0:Below w.heap.size w (w.alloc (.cells #[.bool s,.slice A n c] 77)):=by go_grown
 have HG0:=Hd (h.alloc (.cells #[.bool s,.slice A n c] 77))
 clear hR h hz ht
 go_enter Tryz.func45,Tryz.ntmps45
 obtain ⟨N,hN⟩:=ex_ (w.heap.size)
 rw [hN] at hN0
 have HBN:Hid (Below N w (w.alloc (.cells #[.bool s,.slice A n c] 77))):=Hd (by rw [<- hN];exact hB0)
 have HNN:=Hd hN
 have HN0:=Hd hN0
 clear hB0 hN0
 go_wp2_with fail
 try rw [hN]
 generalize w.alloc (.cells #[.bool s,.slice A n c] 77)=w3 at HG0 HBN HN0 ⊢
 clear hN
 go_loopw [4] (fun pl wr=>∃ (k:Nat) (v:Int) (s:Bool) (A:Option Addr) (n c:Nat),k<=9/\pl=.int .i64 (k:Int)/\Hid (fewF v k=R)/\Hid (Big .i64 3 B6 wr s A n c v)/\Hid (-10000000000000000000000000000000000000000<=v/\v<=10000000000000000000000000000000000000000)/\Hid (wr.heap[N]?=some (.cells #[.bool s,.slice A n c] 77 (0,0)))/\Hid (Below N w wr)) (fun pl _=>(intOf pl).toNat)
 case atStart=>exact ⟨9,z,s,A,n,c,by decide,rfl,HR,HG0,HZ,HN0,HBN⟩
 case round=>
  clear HN0 HG0 HBN HR HZ
  obtain ⟨k,v,s,A,n,c,hk,rfl,HR,HG,HZ,HN,HB⟩:=hrel
  have hzr:N<=wr.heap.size:=Nat.le_of_lt (Qan HN.out)
  obtain ⟨a0,a1,a2,a3,a5⟩:=box2 HN.out
  rcases k with _ | k
  ·have HE:=Hd (show made v ((0:Nat):Int)=R from HR.out)
   go_wp2_with fail
   refine (small_r _ 1000000000000000 HG.out (by omega)).mono ?_
   rintro e w14 ⟨rfl,hb14⟩
   have hB14:=Qab hb14 HB.out hzr
   by_cases hfit:v.natAbs<=1000000000000000
   ·have HV1:=Hd (show fitV v 1000000000000000=v from if_pos hfit)
    have HV2:=Hd (show fitB v 1000000000000000=true from decide_eq_true hfit)
    have HE2:=Hd (show R=(v,((0:Nat):Int),0) by rw [<- HE.out];exact if_pos hfit)
    have HTX:=Hd (rtext_c v ((0:Nat):Int) w14 (HTB.out.below (by rw [HNN.out];exact hB14)))
    have hdb:=decB_mk (u:=v) (p:=((0:Nat):Int)) (by omega)
    rw [show QbV v ((0:Nat):Int)=textL v (((0:Nat):Int):Int).toNat from if_pos hdb,show decF v ((0:Nat):Int)=0 from if_pos hdb] at HTX
    rw [HV1.out,HV2.out]
    clear hfit hdb
    go_wp2_with fail
    refine HTX.out.mono ?_
    rintro e w15 ⟨S,rfl,hS,hb15⟩
    have HS:=Hd hS
    have hB15:=Qab hb15 hB14 (Nat.le_trans hzr hb14.size)
    clear hS
    go_wp2
    go_ret2
    exact ⟨S,by rw [HE2.out];rfl,by rw [HE2.out,HS.out];rfl,by rw [HNN.out];exact hB15⟩
   ·have HV2:=Hd (show fitB v 1000000000000000=false from decide_eq_false hfit)
    have HE2:=Hd (show R=(0,0,1) by rw [<- HE.out];exact if_neg hfit)
    rw [HV2.out]
    clear hfit
    go_wp2
    go_ret2
    exact ⟨⟨#[]⟩,by rw [HE2.out];rfl,by rw [HE2.out];rfl,by rw [HNN.out];exact hB14⟩
  ·have SZ:=Hd (abs_190 HZ.out)
   have HSG:=Hd (ybig_sign HG.out)
   go_upto_region 3 with fail
   go_cut [5,6] from 11 to 34 (fun c5 c6 wx=>∃ (h k2:Nat) (s3:Bool) (A3:Option Addr) (n3 c3:Nat) (s4:Bool) (A4:Option Addr) (n4 c4:Nat),c5=.pointer (some ⟨h,0,none⟩)/\c6=.pointer (some ⟨k2,0,none⟩)/\N<h/\wx.heap[h]?=some (.cells #[.bool s3,.slice A3 n3 c3] 77 (0,0))/\wx.heap[k2]?=some (.cells #[.bool s4,.slice A4 n4 c4] 77 (0,0))/\Big .i64 3 B6 wx s3 A3 n3 c3 ((v.natAbs/10:Nat):Int)/\Big .i64 3 B6 wx s4 A4 n4 c4 ((v.natAbs%10:Nat):Int)/\Big .i64 3 B6 wx s A n c v/\wx.heap[N]?=some (.cells #[.bool s,.slice A n c] 77 (0,0))/\Below N w wx)
   case first=>
    have hA0:=ybig_abs HG.out
    have hN0:=HN.out
    have hB0:=HB.out
    have g0:=a0
    have g1:=a1
    have hltg:=Qan hN0
    go_region_held3 (fun w'=>w'.cell? ⟨N,0,none⟩=some (.bool s)/\w'.cell? ⟨N,1,none⟩=some (.slice A n c))
     (first | (with_reducible exact ⟨g70,g71⟩) | (with_reducible exact ⟨g80,g81⟩) | (with_reducible exact ⟨g0,g1⟩) | (refine cell_heap (T:=77) ?_;(repeat' (first | (with_reducible assumption) | (with_reducible refine Qbb ?_) | (with_reducible refine QbI ?_ (by (first | omega | (dsimp only;omega) | (simp only [World.size_alloc,World.size_drew,World.size_setCell]<;>omega)))) | (with_reducible refine Qaf ?_ (by (first | omega | (dsimp only;omega) | (simp only [World.size_alloc,World.size_drew,World.size_setCell]<;>omega))) _) | (with_reducible refine Qac _ _ ?_;(first | omega | (dsimp only;omega) | (simp only [World.size_alloc,World.size_drew,World.size_setCell]<;>omega));done) | (with_reducible refine QbJ ?_) | (with_reducible refine Qad ?_ _)));done) | (go_keep;done))
     (first
      | (go_at_call 83;refine (of_r 10 _ (by decide)).mono ?_;rintro e w7 ⟨s7,A7,n7,c7,rfl,hv7,hb7⟩;have hv7:Big .i64 3 B6 w7 s7 A7 n7 c7 ((10:Nat):Int):=hv7;have hb67:Below wr.heap.size wr w7:=Qab hb7 (by go_grown) (by first | exact Nat.le_refl _ | (simp only [World.size_alloc,World.size_drew];omega));have hN7x:=Qaa hN0 hb67;have hv7a:=hA0.below hb67;have hvT7:=HG.out.below hb67;have hbel7:=Qab hb67 hB0 hzr;obtain ⟨g70,g71,-,-,hlt7⟩:=box2 hN7x;(first | have hN7:=news2d hb7 | have hN7:=news1d hb7 | have hN7:=True.intro))
      | (go_at_call 82;refine (divmod_r _ v.natAbs 10 (by first | with_reducible exact hv7a | with_reducible exact hv7a.alloc _ | with_reducible exact (hv7a.alloc _).alloc _) (by first | with_reducible exact hv7 | with_reducible exact hv7.alloc _ | with_reducible exact (hv7.alloc _).alloc _) SZ.out ten_190 (by decide)).mono ?_;rintro e w8 ⟨s3,A3,n3,c3,s4,A4,n4,c4,rfl,hv3,hv4,hb8⟩;have hb78:Below w7.heap.size w7 w8:=Qab hb8 (by go_grown) (by first | exact Nat.le_refl _ | (simp only [World.size_alloc];omega));have hN8x:=Qaa hN7x hb78;have hvT8:=hvT7.below hb78;have hbel8:=Qab hb78 hbel7 (Nat.le_of_lt hlt7);have hl78:=hb78.size;obtain ⟨g80,g81,-,-,hlt8⟩:=box2 hN8x;(first | (obtain ⟨hP7,hQ7⟩:=hN7;have hP8:=Qaa hP7 hb78;have hQ8:=Qaa hQ7 hb78;have hlP:=Qan hP7;have hlQ:=Qan hQ7;obtain ⟨p80,p81,p82,p83,p84⟩:=box2 hP8;obtain ⟨q80,q81,q82,q83,q84⟩:=box2 hQ8) | (have hP8:=Qaa hN7 hb78;have hlP:=Qan hN7;obtain ⟨p80,p81,p82,p83,p84⟩:=box2 hP8;(try (have hQ8:=news1 hb8;obtain ⟨q80,q81,q82,q83,q84⟩:=box2 hQ8))) | (have hPQ:=news2 hb8;obtain ⟨hP8,hQ8⟩:=hPQ;obtain ⟨p80,p81,p82,p83,p84⟩:=box2 hP8;obtain ⟨q80,q81,q82,q83,q84⟩:=box2 hQ8) | (have hP8:=news1 hb8;obtain ⟨p80,p81,p82,p83,p84⟩:=box2 hP8) | skip)))
    all_goals
     go_wp2_with fail
     go_meet
     exact ⟨_,_,s3,A3,n3,c3,s4,A4,n4,c4,rfl,rfl,(by (first | omega | (dsimp only;omega) | (simp only [World.size_alloc,World.size_drew,World.size_setCell]<;>omega))),(by (repeat' (first | (with_reducible assumption) | (with_reducible refine Qbb (x:=.bool false) (y:=.slice none 0 0) ?_) | (with_reducible refine QbI ?_ (by (first | omega | (dsimp only;omega) | (simp only [World.size_alloc,World.size_drew,World.size_setCell]<;>omega)))) | (with_reducible refine Qaf ?_ (by (first | omega | (dsimp only;omega) | (simp only [World.size_alloc,World.size_drew,World.size_setCell]<;>omega))) _) | (with_reducible refine Qac _ _ ?_;(first | omega | (dsimp only;omega) | (simp only [World.size_alloc,World.size_drew,World.size_setCell]<;>omega));done) | (with_reducible refine QbJ ?_) | (with_reducible refine Qad ?_ _)))),(by (repeat' (first | (with_reducible assumption) | (with_reducible refine Qbb (x:=.bool false) (y:=.slice none 0 0) ?_) | (with_reducible refine QbI ?_ (by (first | omega | (dsimp only;omega) | (simp only [World.size_alloc,World.size_drew,World.size_setCell]<;>omega)))) | (with_reducible refine Qaf ?_ (by (first | omega | (dsimp only;omega) | (simp only [World.size_alloc,World.size_drew,World.size_setCell]<;>omega))) _) | (with_reducible refine Qac _ _ ?_;(first | omega | (dsimp only;omega) | (simp only [World.size_alloc,World.size_drew,World.size_setCell]<;>omega));done) | (with_reducible refine QbJ ?_) | (with_reducible refine Qad ?_ _)))),(by (repeat' (first | (with_reducible assumption) | (with_reducible refine Qbb (x:=.bool false) (y:=.slice none 0 0) ?_) | (with_reducible refine QbI ?_ (by (first | omega | (dsimp only;omega) | (simp only [World.size_alloc,World.size_drew,World.size_setCell]<;>omega)))) | (with_reducible refine Qaf ?_ (by (first | omega | (dsimp only;omega) | (simp only [World.size_alloc,World.size_drew,World.size_setCell]<;>omega))) _) | (with_reducible refine Qac _ _ ?_;(first | omega | (dsimp only;omega) | (simp only [World.size_alloc,World.size_drew,World.size_setCell]<;>omega));done) | (with_reducible refine QbJ ?_) | (with_reducible refine Qad ?_ _) | (with_reducible refine Big.box2 (cs:=#[.bool false,.slice none 0 0]) (T:=77) ?_ ?_ (by decide) _ _) | (with_reducible refine Big.alloc ?_ _)))),(by (repeat' (first | (with_reducible assumption) | (with_reducible refine Qbb (x:=.bool false) (y:=.slice none 0 0) ?_) | (with_reducible refine QbI ?_ (by (first | omega | (dsimp only;omega) | (simp only [World.size_alloc,World.size_drew,World.size_setCell]<;>omega)))) | (with_reducible refine Qaf ?_ (by (first | omega | (dsimp only;omega) | (simp only [World.size_alloc,World.size_drew,World.size_setCell]<;>omega))) _) | (with_reducible refine Qac _ _ ?_;(first | omega | (dsimp only;omega) | (simp only [World.size_alloc,World.size_drew,World.size_setCell]<;>omega));done) | (with_reducible refine QbJ ?_) | (with_reducible refine Qad ?_ _) | (with_reducible refine Big.box2 (cs:=#[.bool false,.slice none 0 0]) (T:=77) ?_ ?_ (by decide) _ _) | (with_reducible refine Big.alloc ?_ _)))),(by (repeat' (first | (with_reducible assumption) | (with_reducible refine Qbb (x:=.bool false) (y:=.slice none 0 0) ?_) | (with_reducible refine QbI ?_ (by (first | omega | (dsimp only;omega) | (simp only [World.size_alloc,World.size_drew,World.size_setCell]<;>omega)))) | (with_reducible refine Qaf ?_ (by (first | omega | (dsimp only;omega) | (simp only [World.size_alloc,World.size_drew,World.size_setCell]<;>omega))) _) | (with_reducible refine Qac _ _ ?_;(first | omega | (dsimp only;omega) | (simp only [World.size_alloc,World.size_drew,World.size_setCell]<;>omega));done) | (with_reducible refine QbJ ?_) | (with_reducible refine Qad ?_ _) | (with_reducible refine Big.box2 (cs:=#[.bool false,.slice none 0 0]) (T:=77) ?_ ?_ (by decide) _ _) | (with_reducible refine Big.alloc ?_ _)))),(by (repeat' (first | (with_reducible assumption) | (with_reducible refine Qbb (x:=.bool false) (y:=.slice none 0 0) ?_) | (with_reducible refine QbI ?_ (by (first | omega | (dsimp only;omega) | (simp only [World.size_alloc,World.size_drew,World.size_setCell]<;>omega)))) | (with_reducible refine Qaf ?_ (by (first | omega | (dsimp only;omega) | (simp only [World.size_alloc,World.size_drew,World.size_setCell]<;>omega))) _) | (with_reducible refine Qac _ _ ?_;(first | omega | (dsimp only;omega) | (simp only [World.size_alloc,World.size_drew,World.size_setCell]<;>omega));done) | (with_reducible refine QbJ ?_) | (with_reducible refine Qad ?_ _)))),(by go_grown)⟩
   case rest=>
    obtain ⟨h,k2,s3,A3,n3,c3,s4,A4,n4,c4,rfl,rfl,hgh,hH,hQ,hv3,hv4,hG8,hN8,hB8⟩:=hcut
    clear a0 a1 a2 a3 a5 SZ HN HB hzr
    have hz8:=hB8.size
    obtain ⟨q0,q1,-,-,-⟩:=box2 hQ
    by_cases hm:v%10=0
    case neg=>
     have HE:=Hd (show made v ((k+1:Nat):Int)=R by rw [<- HR.out,few_stop hm])
     have HS:=Hd (show (if ((v.natAbs%10:Nat):Int)<0 then (-1:Int) else if ((v.natAbs%10:Nat):Int)=0 then 0 else 1)=1 by rw [if_neg (by omega),if_neg (fun e=>hm ((mod_abs v).1 e))])
     go_wp2_with fail
     refine (sign_r hv4).mono ?_
     rintro e w10 ⟨hb10,rfl⟩
     rw [HS.out]
     have HG10:=Hd (hG8.below hb10)
     have hN10:=Qaa hN8 hb10
     have hB10:=Qab hb10 hB8 (Nat.le_of_lt (Qan hN8))
     obtain ⟨a0,a1,-,-,a5⟩:=box2 hN10
     clear hH hQ hv3 hv4 hN8 hB8 q0 q1 hb10 hz8 hm
     go_wp2_with fail
     refine (small_r _ 1000000000000000 (HG10.out) (by omega)).mono ?_
     rintro e w14 ⟨rfl,hb14⟩
     have hB14:=Qab hb14 hB10 (Nat.le_of_lt (Qan hN10))
     by_cases hfit:v.natAbs<=1000000000000000
     ·have HV1:=Hd (show fitV v 1000000000000000=v from if_pos hfit)
      have HV2:=Hd (show fitB v 1000000000000000=true from decide_eq_true hfit)
      have HE2:=Hd (show R=(v,((k+1:Nat):Int),0) by rw [<- HE.out];exact if_pos hfit)
      have HTX:=Hd (rtext_c v ((k+1:Nat):Int) w14 (HTB.out.below (by rw [HNN.out];exact hB14)))
      have hdb:=decB_mk (u:=v) (p:=((k+1:Nat):Int)) (by omega)
      rw [show QbV v ((k+1:Nat):Int)=textL v (((k+1:Nat):Int):Int).toNat from if_pos hdb,show decF v ((k+1:Nat):Int)=0 from if_pos hdb] at HTX
      rw [HV1.out,HV2.out]
      clear hfit hdb
      go_wp2_with fail
      refine HTX.out.mono ?_
      rintro e w15 ⟨S,rfl,hS,hb15⟩
      have HS:=Hd hS
      have hB15:=Qab hb15 hB14 (Nat.le_trans (Nat.le_of_lt (Qan hN10)) hb14.size)
      clear hS
      go_wp2
      go_ret2
      exact ⟨S,by rw [HE2.out];rfl,by rw [HE2.out,HS.out];rfl,by rw [HNN.out];exact hB15⟩
     ·have HV2:=Hd (show fitB v 1000000000000000=false from decide_eq_false hfit)
      have HE2:=Hd (show R=(0,0,1) by rw [<- HE.out];exact if_neg hfit)
      rw [HV2.out]
      clear hfit
      go_wp2
      go_ret2
      exact ⟨⟨#[]⟩,by rw [HE2.out];rfl,by rw [HE2.out];rfl,by rw [HNN.out];exact hB14⟩
    have HS:=Hd (show (if ((v.natAbs%10:Nat):Int)<0 then (-1:Int) else if ((v.natAbs%10:Nat):Int)=0 then 0 else 1)=0 by rw [(mod_abs v).2 hm];rfl)
    have HF:=Hd (show fewF (v/10) k=R by rw [<- HR.out,few_step hm])
    have HZ2:=Hd (show -10000000000000000000000000000000000000000<=v/10/\v/10<=10000000000000000000000000000000000000000 by have:=HZ.out;omega)
    obtain ⟨hd1,hd2⟩:=div_abs hm
    go_wp2_with fail
    refine (sign_r hv4).mono ?_
    rintro e w10 ⟨hb10,rfl⟩
    rw [HS.out]
    have hH10:=Qaa hH hb10
    have hN10:=Qaa hN8 hb10
    have hv10:=hv3.below hb10
    have hB10:=Qab hb10 hB8 (Nat.le_of_lt (Qan hN8))
    clear hH hQ hv3 hv4 hN8 hB8 q0 q1 hb10 hz8
    obtain ⟨h0,h1,h2,h3,hlh⟩:=box2 hH10
    obtain ⟨a0,a1,a2,a3,a5⟩:=box2 hN10
    by_cases hv:v<0
    ·have hs:=HSG.out
     clear HSG
     rw [decide_eq_true hv] at hs
     subst hs
     have hq0:0<((v.natAbs/10:Nat):Int):=by omega
     have HSQ:=Hd (show (if ((v.natAbs/10:Nat):Int)<0 then (-1:Int) else if ((v.natAbs/10:Nat):Int)=0 then 0 else 1)=1 by rw [if_neg (by omega),if_neg (by omega)])
     have HD:=Hd (hd1 hv)
     have HQ0:=Hd hq0
     clear hd1 hd2 hv hm hq0
     go_wp2_with fail
     refine (sign_r hv10).mono ?_
     rintro e w11 ⟨hb11,rfl⟩
     rw [HSQ.out]
     have hH11:=Qaa hH10 hb11
     have hN11:=Qaa hN10 hb11
     have hv11:Big .i64 3 B6 w11 true A3 n3 c3 (v/10):=by rw [<- HD.out];exact ybig_neg (hv10.below hb11) HQ0.out
     have hB11:=Qab hb11 hB10 (Nat.le_of_lt (Qan hN10))
     clear hH10 hN10 hv10 hB10 hb11 h0 h1 h2 h3 hlh a0 a1 a2 a3 a5
     obtain ⟨h0,h1,h2,h3,hlh⟩:=box2 hH11
     obtain ⟨a0,a1,a2,a3,a5⟩:=box2 hN11
     go_upto_region 6 with fail
     clear h0 h1 h2 h3 hlh a0 a1 a2 a3 a5
     have HW12:w11=w11:=rfl
     clear HW12
     have hH12:(w11.setCell ⟨h,0,none⟩ (.bool true)).heap[h]?=some (.cells #[.bool true,.slice A3 n3 c3] 77 (0,0)):=by simpa using Qae hH11 0 (.bool true)
     have hN12:=Qaf hN11 (p:=⟨h,0,none⟩) (by dsimp only;omega) (.bool true)
     have HV12:=Hd (show Big .i64 3 B6 (w11.setCell ⟨h,0,none⟩ (.bool true)) true A3 n3 c3 (v/10) from hv11.far hH11 (by decide) (.bool true))
     have hB12:=hB11.setCell (p:=⟨h,0,none⟩) (by dsimp only;omega) (.bool true)
     generalize w11.setCell ⟨h,0,none⟩ (.bool true)=w12 at hH12 hN12 HV12 hB12 ⊢
     clear hH11 hN11 hv11 hB11
     obtain ⟨h0,h1,h2,h3,h4⟩:=box2 hH12
     obtain ⟨a0,a1,a2,a3,a4⟩:=box2 hN12
     have HN12:=Hd hN12;have HB12:=Hd hB12
     have hwk:IntKind.i64.wrap ((((k+1:Nat):Nat):Int)-1)=(k:Int):=by rw [IntWalk.i64_in _ (by omega)];omega
     clear hH12 hN12 hB12
     go_wp2_with fail
     go_roundw
     case rel=>
      exact ⟨k,v/10,true,A3,n3,c3,by omega,by go_num,HF,Hd (HV12.out.box2 HN12.out (by decide) _ _),HZ2,Hd (Qae (Qae HN12.out 0 _) 1 _),Hd ((HB12.out.setCell (p:=⟨N,0,none⟩) (Nat.le_refl _) _).setCell (p:=⟨N,1,none⟩) (Nat.le_refl _) _)⟩
     case measure=>simp [intOf]
    ·have hs:=HSG.out
     clear HSG
     rw [decide_eq_false hv] at hs
     subst hs
     have HD:=Hd (hd2 (by omega))
     have hs3:=ybig_sign hv10
     rw [decide_eq_false (by omega)] at hs3
     subst hs3
     have hv11:Big .i64 3 B6 w10 false A3 n3 c3 (v/10):=by rw [<- HD.out];exact hv10
     have hH11:=hH10
     have hN11:=hN10
     have hB11:=hB10
     clear hd1 hd2 hv hm hH10 hN10 hv10 hB10
     go_upto_region 6 with fail
     clear h0 h1 h2 h3 hlh a0 a1 a2 a3 a5
     have HW12:w10=w10:=rfl
     clear HW12
     have hH12:(w10.setCell ⟨h,0,none⟩ (.bool false)).heap[h]?=some (.cells #[.bool false,.slice A3 n3 c3] 77 (0,0)):=by simpa using Qae hH11 0 (.bool false)
     have hN12:=Qaf hN11 (p:=⟨h,0,none⟩) (by dsimp only;omega) (.bool false)
     have HV12:=Hd (show Big .i64 3 B6 (w10.setCell ⟨h,0,none⟩ (.bool false)) false A3 n3 c3 (v/10) from hv11.far hH11 (by decide) (.bool false))
     have hB12:=hB11.setCell (p:=⟨h,0,none⟩) (by dsimp only;omega) (.bool false)
     generalize w10.setCell ⟨h,0,none⟩ (.bool false)=w12 at hH12 hN12 HV12 hB12 ⊢
     clear hH11 hN11 hv11 hB11
     obtain ⟨h0,h1,h2,h3,h4⟩:=box2 hH12
     obtain ⟨a0,a1,a2,a3,a4⟩:=box2 hN12
     have HN12:=Hd hN12;have HB12:=Hd hB12
     have hwk:IntKind.i64.wrap ((((k+1:Nat):Nat):Int)-1)=(k:Int):=by rw [IntWalk.i64_in _ (by omega)];omega
     clear hH12 hN12 hB12
     go_wp2_with fail
     go_roundw
     case rel=>
      exact ⟨k,v/10,false,A3,n3,c3,by omega,by go_num,HF,Hd (HV12.out.box2 HN12.out (by decide) _ _),HZ2,Hd (Qae (Qae HN12.out 0 _) 1 _),Hd ((HB12.out.setCell (p:=⟨N,0,none⟩) (Nat.le_refl _) _).setCell (p:=⟨N,1,none⟩) (Nat.le_refl _) _)⟩
     case measure=>simp [intOf]
end Go.Proofs.YtaiabjiehpcaoaaGreatDoor
