/- The walks of package whole: Plus and what stands on it. The walks of package whole: Sign, Minus, Abs, Less, Compare, Odd, Int. The walk of package whole: Times. -/
import Derived.Test.YtbfbgappinilmaaGreatDoorW3
import Derived.Deep.RegionHeld3
-- merged: W4 W5 W6
namespace Go.Proofs.YtbfbgappinilmaaGreatDoor
open Go.RowKit Limb
theorem plus_same {s:Bool} {x y:Nat} : sg s (x+y)=sg s x+sg s y:=by unfold sg;split<;>omega
theorem Row.slice {E:TypeId} {B:Nat} {w:World} {v:Value} {os:List Nat} (h:Row E B w v os):∃ A c,v=.slice A os.length c:=own_slice h
theorem sg_less {s t:Bool} {x y:Nat} (h:s≠t) (hle:y<=x):sg s (x-y)=sg s x+sg t y:=by cases s<;>cases t<;>simp_all [sg]<;>omega
theorem sg_less' {s t:Bool} {x y:Nat} (h:s≠t) (hle:x<=y):sg t (y-x)=sg s x+sg t y:=by cases s<;>cases t<;>simp_all [sg]<;>omega
theorem len_of_val {b:Nat} (hb:1<b) {l m:List Nat} (gl:Digs b l) (nm:Norm m) (h:val b m<=val b l):m.length<=l.length:=by
 rcases Nat.lt_or_ge l.length m.length with k | k
 ·have:=val_lt_of_len hb gl nm k;omega
 ·exact k
set_option maxHeartbeats 4000000 in
set_option maxRecDepth 100000 in
theorem plus_c (w:World) {s t:Bool} {A B:Option Addr} {n c k d:Nat} {x y:Int} (ha:Big .u32 127 B32 w s A n c x) (hb:Big .u32 127 B32 w t B k d y) (sx:Small x) (sy:Small y) :
  Calls Tryz.prog 54 #[.agg #[.bool s,.slice A n c],.agg #[.bool t,.slice B k d]] w (Makes .u32 127 B32 w (x+y)):=by
 obtain ⟨l,hd,hnc,hcm,gl,nl,sl,hx⟩:=ha
 obtain ⟨m,he,hkd,hdm,gm,nm,sm,hy⟩:=hb
 have hn:n<=1000:=by rw [<- hd.1];rw [hx] at sx;have:=small_len32 nl sx;omega
 have hk:k<=1000:=by rw [<- he.1];rw [hy] at sy;have:=small_len32 nm sy;omega
 have HX:=Lib.hid hx;have HY:=Lib.hid hy;clear hx hy
 have HL:=Lib.hid hd.1;have HM:=Lib.hid he.1
 clear sx sy
 by_cases hst:s=t
 ·subst hst
  have hs:(s==s)=true:=by simp
  go_enter Tryz.func54,Tryz.ntmps54
  go_wp2_with fail
  generalize hw:((w.alloc (.cells #[.bool s,.slice A n c] 73)).alloc (.cells #[.bool s,.slice B k d] 73)).alloc (.cells #[.bool false,.slice none 0 0] 73)=w3
  have hB1:w3.heap[w.heap.size]?=some (.cells #[.bool s,.slice A n c] 73 (0,0)):=by rw [<- hw];exact heap_old (heap_old (heap_new _ _ rfl) _) _
  have hB2:w3.heap[w.heap.size+1]?=some (.cells #[.bool s,.slice B k d] 73 (0,0)):=by rw [<- hw];exact heap_old (heap_new _ _ (by simp)) _
  have hB3:w3.heap[w.heap.size+1+1]?=some (.cells #[.bool false,.slice none 0 0] 73 (0,0)):=by rw [<- hw];exact heap_new _ _ (by simp)
  have hbel:Below w.heap.size w w3:=by rw [<- hw];go_grown
  have hd3:Dig w3 .u32 127 A n l:=by rw [<- hw];exact ((hd.alloc _).alloc _).alloc _
  have he3:Dig w3 .u32 127 B k m:=by rw [<- hw];exact ((he.alloc _).alloc _).alloc _
  clear hw hd he
  obtain ⟨c10,c11,f10,f11,z1⟩:=box2 hB1
  obtain ⟨c20,c21,f20,f21,z2⟩:=box2 hB2
  obtain ⟨c30,c31,f30,f31,z3⟩:=box2 hB3
  go_region_held3 (fun w'=>w'.cell? ⟨w.heap.size,0,none⟩=some (.bool s)/\w'.cell? ⟨w.heap.size,1,none⟩=some (.slice A n c)/\w'.cell? ⟨w.heap.size+1,1,none⟩=some (.slice B k d)) (first | (go_keep;done) | (refine ⟨cell_past2 r10 ?_,cell_past2 r11 ?_,cell_past2 r21 ?_⟩<;>omega))
   (first
    | (go_at_call 93;refine (sum_c l m A B n c k d _ hd3.drew he3.drew gl gm hn hk).mono ?_;rintro e w4 ⟨v,os,rfl,hrow,_,_,gos,hval,hb4⟩;(have HV:=Lib.hid hval);clear hval;obtain ⟨A1,d1,rfl⟩:=hrow.slice;(have q1:=box2 (heap_below (w:=w3.drew) hB1 hb4));(have q2:=box2 (heap_below (w:=w3.drew) hB2 hb4));obtain ⟨r10,r11,-,-,-⟩:=q1;obtain ⟨r20,r21,-,-,-⟩:=q2)
    | (go_at_call 68;refine (made_c os s A1 os.length d1 _ (Dig.of_own hrow) (own_cap hrow).1 (own_cap hrow).2 gos).mono ?_;rintro e w5 ⟨s5,A5,n5,c5,rfl,hv5,hb5⟩;(have hB5:=heap_below (heap_below (w:=w3.drew) hB3 hb4) hb5);obtain ⟨g0,g1,g2,g3,g4⟩:=box2 hB5;(have q1:=box2 (heap_below (heap_below (w:=w3.drew) hB1 hb4) hb5));(have q2:=box2 (heap_below (heap_below (w:=w3.drew) hB2 hb4) hb5));obtain ⟨r10,r11,-,-,-⟩:=q1;obtain ⟨r20,r21,-,-,-⟩:=q2))
  go_wp2
  refine bodyPost_ret (v:=.agg #[.bool s5,.slice A5 n5 c5]) (by simp [results,Tryz.results54,go_sem,g0,g1]) rfl ⟨s5,A5,n5,c5,rfl,?_,?_⟩
  ·have e:sg s (val B32 os)=x+y:=by have hx:=HX.out;have hy:=HY.out;have hv:=HV.out;rw [hv,hx,hy,plus_same]
   rw [e] at hv5
   exact hv5.box2 hB5 (by decide) _ _
  ·go_grown
   exact below_then hb5 (below_then hb4 (w:=w) (B:=w.heap.size) (hbel.drew) (by simp;omega)) (by have:=hb4.size;simp at this;omega)
 ·have hs:(s==t)=false:=by simp [hst]
  go_enter Tryz.func54,Tryz.ntmps54
  go_wp2_with fail
  generalize hw:((w.alloc (.cells #[.bool s,.slice A n c] 73)).alloc (.cells #[.bool t,.slice B k d] 73)).alloc (.cells #[.bool false,.slice none 0 0] 73)=w3
  have hB1:w3.heap[w.heap.size]?=some (.cells #[.bool s,.slice A n c] 73 (0,0)):=by rw [<- hw];exact heap_old (heap_old (heap_new _ _ rfl) _) _
  have hB2:w3.heap[w.heap.size+1]?=some (.cells #[.bool t,.slice B k d] 73 (0,0)):=by rw [<- hw];exact heap_old (heap_new _ _ (by simp)) _
  have hB3:w3.heap[w.heap.size+1+1]?=some (.cells #[.bool false,.slice none 0 0] 73 (0,0)):=by rw [<- hw];exact heap_new _ _ (by simp)
  have hbel:Below w.heap.size w w3:=by rw [<- hw];go_grown
  have hd3:Dig w3 .u32 127 A n l:=by rw [<- hw];exact ((hd.alloc _).alloc _).alloc _
  have he3:Dig w3 .u32 127 B k m:=by rw [<- hw];exact ((he.alloc _).alloc _).alloc _
  clear hw hd he
  obtain ⟨c10,c11,f10,f11,z1⟩:=box2 hB1
  obtain ⟨c20,c21,f20,f21,z2⟩:=box2 hB2
  obtain ⟨c30,c31,f30,f31,z3⟩:=box2 hB3
  refine (compare_c l m A B n c k d _ hd3 hnc hcm he3 hkd hdm gl gm nl nm).mono ?_
  rintro e w4 ⟨r,rfl,hr,q,rfl⟩
  rcases Nat.lt_or_ge (val B32 l) (val B32 m) with hlt | hge
  ·have hr0:r<0:=hr.1.2 hlt
   have hkn:n<=k:=by have:=len_of_val (b:=B32) (by decide) gm nl (by omega:val B32 l<=val B32 m);rw [HL.out,HM.out] at this;exact this
   clear hr
   have HLT:=Lib.hid hlt;clear hlt
   go_wp2_with fail
   go_region_held3 (fun w'=>w'.cell? ⟨w.heap.size+1,0,none⟩=some (.bool t)/\w'.cell? ⟨w.heap.size,1,none⟩=some (.slice A n c)/\w'.cell? ⟨w.heap.size+1,1,none⟩=some (.slice B k d)) (first | (go_keep;done) | (refine ⟨cell_past2 r20 ?_,cell_past2 r11 ?_,cell_past2 r21 ?_⟩<;>omega))
    (first
     | (go_at_call 95;refine (less_c m l B A k d n c _ (by exact he3) (by exact hd3) gm gl (by omega) hkn (Nat.le_of_lt HLT.out)).mono ?_;rintro e w4 ⟨v,os,rfl,hrow,gos,_,hval,hb4⟩;(have HV:=Lib.hid hval);clear hval;obtain ⟨A1,d1,rfl⟩:=hrow.slice;(have q1:=box2 (heap_below (w:=(w3.drewN q).drew) hB1 hb4));(have q2:=box2 (heap_below (w:=(w3.drewN q).drew) hB2 hb4));obtain ⟨r10,r11,-,-,-⟩:=q1;obtain ⟨r20,r21,-,-,-⟩:=q2)
     | (go_at_call 68;refine (made_c os t A1 os.length d1 _ (Dig.of_own hrow) (own_cap hrow).1 (own_cap hrow).2 gos).mono ?_;rintro e w5 ⟨s5,A5,n5,c5,rfl,hv5,hb5⟩;(have hB5:=heap_below (heap_below (w:=(w3.drewN q).drew) hB3 hb4) hb5);obtain ⟨g0,g1,g2,g3,g4⟩:=box2 hB5;(have q1:=box2 (heap_below (heap_below (w:=(w3.drewN q).drew) hB1 hb4) hb5));(have q2:=box2 (heap_below (heap_below (w:=(w3.drewN q).drew) hB2 hb4) hb5));obtain ⟨r10,r11,-,-,-⟩:=q1;obtain ⟨r20,r21,-,-,-⟩:=q2))
   go_wp2
   refine bodyPost_ret (v:=.agg #[.bool s5,.slice A5 n5 c5]) (by simp [results,Tryz.results54,go_sem,g0,g1]) rfl ⟨s5,A5,n5,c5,rfl,?_,?_⟩
   ·have e:sg t (val B32 os)=x+y:=by have hx:=HX.out;have hy:=HY.out;have hv:=HV.out;rw [hv,hx,hy];exact sg_less' hst (Nat.le_of_lt HLT.out)
    rw [e] at hv5
    exact hv5.box2 hB5 (by decide) _ _
   ·go_grown
    exact below_then hb5 (below_then hb4 (w:=w) (B:=w.heap.size) ((below_drewN hbel q).drew) (by simp;omega)) (by have:=hb4.size;simp at this;omega)
  ·have hr0 : 0 ≤ r := by have h := hr.1; have h2 : ¬ r < 0 := fun h3 => by have := h.1 h3; omega
                          omega
   have hkn:k<=n:=by have:=len_of_val (b:=B32) (by decide) gl nm hge;rw [HL.out,HM.out] at this;exact this
   clear hr
   have HLT:=Lib.hid hge;clear hge
   go_wp2_with fail
   go_region_held3 (fun w'=>w'.cell? ⟨w.heap.size,0,none⟩=some (.bool s)/\w'.cell? ⟨w.heap.size,1,none⟩=some (.slice A n c)/\w'.cell? ⟨w.heap.size+1,1,none⟩=some (.slice B k d)) (first | (go_keep;done) | (refine ⟨cell_past2 r10 ?_,cell_past2 r11 ?_,cell_past2 r21 ?_⟩<;>omega))
    (first
     | (go_at_call 95;refine (less_c l m A B n c k d _ (by exact hd3) (by exact he3) gl gm (by omega) hkn HLT.out).mono ?_;rintro e w4 ⟨v,os,rfl,hrow,gos,_,hval,hb4⟩;(have HV:=Lib.hid hval);clear hval;obtain ⟨A1,d1,rfl⟩:=hrow.slice;(have q1:=box2 (heap_below (w:=(w3.drewN q).drew) hB1 hb4));(have q2:=box2 (heap_below (w:=(w3.drewN q).drew) hB2 hb4));obtain ⟨r10,r11,-,-,-⟩:=q1;obtain ⟨r20,r21,-,-,-⟩:=q2)
     | (go_at_call 68;refine (made_c os s A1 os.length d1 _ (Dig.of_own hrow) (own_cap hrow).1 (own_cap hrow).2 gos).mono ?_;rintro e w5 ⟨s5,A5,n5,c5,rfl,hv5,hb5⟩;(have hB5:=heap_below (heap_below (w:=(w3.drewN q).drew) hB3 hb4) hb5);obtain ⟨g0,g1,g2,g3,g4⟩:=box2 hB5;(have q1:=box2 (heap_below (heap_below (w:=(w3.drewN q).drew) hB1 hb4) hb5));(have q2:=box2 (heap_below (heap_below (w:=(w3.drewN q).drew) hB2 hb4) hb5));obtain ⟨r10,r11,-,-,-⟩:=q1;obtain ⟨r20,r21,-,-,-⟩:=q2))
   go_wp2
   refine bodyPost_ret (v:=.agg #[.bool s5,.slice A5 n5 c5]) (by simp [results,Tryz.results54,go_sem,g0,g1]) rfl ⟨s5,A5,n5,c5,rfl,?_,?_⟩
   ·have e:sg s (val B32 os)=x+y:=by have hx:=HX.out;have hy:=HY.out;have hv:=HV.out;rw [hv,hx,hy];exact sg_less hst HLT.out
    rw [e] at hv5
    exact hv5.box2 hB5 (by decide) _ _
   ·go_grown
    exact below_then hb5 (below_then hb4 (w:=w) (B:=w.heap.size) ((below_drewN hbel q).drew) (by simp;omega)) (by have:=hb4.size;simp at this;omega)
theorem Big.sign {K:IntKind} {E:TypeId} {b:Nat} {w:World} {s:Bool} {A:Option Addr} {n c:Nat} {z:Int} (hb:0<b) (h:Big K E b w s A n c z):(s=true/\z.sign=-1)∨(s=false/\n=0/\z.sign=0)∨(s=false/\0<n/\z.sign=1):=by
 obtain ⟨l,hd,_,_,_,nl,sl,rfl⟩:=h
 have hl:=hd.1
 cases s with
 | true=>
  have:=val_pos hb nl (sl rfl)
  exact .inl ⟨rfl,by simp only [sg,if_true];exact Int.sign_eq_neg_one_of_neg (by omega)⟩
 | false=>
  rcases Nat.eq_zero_or_pos n with h0 | h0
  ·subst h0
   rw [List.length_eq_zero_iff] at hl
   subst hl
   exact .inr (.inl ⟨rfl,rfl,by simp [sg,val]⟩)
  ·have:=val_pos hb nl (by intro e;subst e;simp at hl;omega)
   exact .inr (.inr ⟨rfl,h0,by simp only [sg];exact Int.sign_eq_one_of_pos (by simpa using this)⟩)
theorem sign_c (w:World) {s:Bool} {A:Option Addr} {n c:Nat} {z:Int} (h:Big .u32 127 B32 w s A n c z) :
  Calls Tryz.prog 100 #[.agg #[.bool s,.slice A n c]] w fun e w'=>e=.returned (.int .i64 z.sign)/\Below w.heap.size w w':=by
 rcases h.sign (by decide) with ⟨rfl,e⟩|⟨rfl,rfl,e⟩|⟨rfl,h0,e⟩
 ·rw [e]
  go_enter Tryz.func100,Tryz.ntmps100
  go_wp2
  go_ret
  exact ⟨rfl,by go_grown⟩
 ·rw [e]
  go_enter Tryz.func100,Tryz.ntmps100
  go_wp2
  go_ret
  exact ⟨rfl,by go_grown⟩
 ·rw [e]
  go_enter Tryz.func100,Tryz.ntmps100
  go_wp2
  go_ret
  exact ⟨rfl,by go_grown⟩
theorem sg_not {s:Bool} {x:Nat} : sg (!s) x=- sg s x:=by cases s<;>simp [sg]
set_option maxHeartbeats 1000000 in
theorem minus_c (w:World) {s:Bool} {A:Option Addr} {n c:Nat} {z:Int} (h:Big .u32 127 B32 w s A n c z) :
  Calls Tryz.prog 112 #[.agg #[.bool s,.slice A n c]] w (Makes .u32 127 B32 w (-z)):=by
 obtain ⟨l,hd,hnc,hcm,gl,nl,sl,rfl⟩:=h
 go_enter Tryz.func112,Tryz.ntmps112
 go_wp2_with fail
 refine (made_c l (!s) A n c _ ((hd.alloc _).alloc _) hnc hcm gl).mono ?_
 rintro e w1 ⟨s1,A1,n1,c1,rfl,hv,hb⟩
 have hB:=heap_below (heap_new (w.alloc _) _ rfl) hb
 simp only [World.size_alloc] at hB
 obtain ⟨g0,g1,g2,g3,g4⟩:=box2 hB
 go_wp2
 refine bodyPost_ret (v:=.agg #[.bool s1,.slice A1 n1 c1]) (by simp [results,Tryz.results112,go_sem,g0,g1]) rfl ⟨s1,A1,n1,c1,rfl,?_,?_⟩
 ·rw [<- sg_not]
  exact hv.box2 hB (by decide) _ _
 ·go_grown
  exact below_then hb (by go_grown) (by simp only [World.size_alloc];omega)
theorem natAbs_sg (s:Bool) (x:Nat):((sg s x).natAbs:Int)=sg false x:=by rw [sg_natAbs];rfl
set_option maxHeartbeats 1000000 in
theorem abs_c (w:World) {s:Bool} {A:Option Addr} {n c:Nat} {z:Int} (h:Big .u32 127 B32 w s A n c z) :
  Calls Tryz.prog 28 #[.agg #[.bool s,.slice A n c]] w (Makes .u32 127 B32 w (z.natAbs:Int)):=by
 obtain ⟨l,hd,hnc,hcm,gl,nl,sl,rfl⟩:=h
 go_enter Tryz.func28,Tryz.ntmps28
 go_wp2_with fail
 refine (made_c l false A n c _ ((hd.alloc _).alloc _) hnc hcm gl).mono ?_
 rintro e w1 ⟨s1,A1,n1,c1,rfl,hv,hb⟩
 have hB:=heap_below (heap_new (w.alloc _) _ rfl) hb
 simp only [World.size_alloc] at hB
 obtain ⟨g0,g1,g2,g3,g4⟩:=box2 hB
 go_wp2
 refine bodyPost_ret (v:=.agg #[.bool s1,.slice A1 n1 c1]) (by simp [results,Tryz.results28,go_sem,g0,g1]) rfl ⟨s1,A1,n1,c1,rfl,?_,?_⟩
 ·rw [natAbs_sg]
  exact hv.box2 hB (by decide) _ _
 ·go_grown
  exact below_then hb (by go_grown) (by simp only [World.size_alloc];omega)
theorem Small.neg {z:Int} (h:Small z):Small (-z):=by unfold Small at *;omega
set_option maxHeartbeats 2000000 in
set_option maxRecDepth 100000 in
theorem lessI_c (w:World) {s t:Bool} {A B:Option Addr} {n c k d:Nat} {x y:Int} (ha:Big .u32 127 B32 w s A n c x) (hb:Big .u32 127 B32 w t B k d y) (sx:Small x) (sy:Small y) :
  Calls Tryz.prog 99 #[.agg #[.bool s,.slice A n c],.agg #[.bool t,.slice B k d]] w (Makes .u32 127 B32 w (x-y)):=by
 go_enter Tryz.func99,Tryz.ntmps99
 go_wp2_with fail
 have HW:=boxes3 w (.bool s) (.slice A n c) (.bool t) (.slice B k d) (.bool false) (.slice none 0 0) 73 73 73
 generalize ((w.alloc (.cells #[.bool s,.slice A n c] 73)).alloc (.cells #[.bool t,.slice B k d] 73)).alloc (.cells #[.bool false,.slice none 0 0] 73)=w3 at HW ⊢
 obtain ⟨hB1,hB2,hB3,hbel⟩:=HW _ rfl
 clear HW
 have hz3:=hbel.size
 have ha3:=ha.below hbel
 have hb3:=hb.below hbel
 obtain ⟨c10,c11,-,-,-⟩:=box2 hB1
 obtain ⟨c20,c21,-,-,-⟩:=box2 hB2
 go_region_held3 (fun w'=>w'.cell? ⟨w.heap.size,0,none⟩=some (.bool s)/\w'.cell? ⟨w.heap.size,1,none⟩=some (.slice A n c)/\w'.cell? ⟨w.heap.size+1,0,none⟩=some (.bool t)/\w'.cell? ⟨w.heap.size+1,1,none⟩=some (.slice B k d))
  (first | (go_keep;done) | (refine ⟨cell_past2 r10 ?_,cell_past2 r11 ?_,cell_past2 r20 ?_,cell_past2 r21 ?_⟩<;>omega))
  (first
   | (go_at_call 112;refine (minus_c _ hb3.drew).mono ?_;rintro e w4 ⟨s4,A4,n4,c4,rfl,hv4,hb4⟩;(have q1:=box2 (heap_below (w:=w3.drew) hB1 hb4));(have q2:=box2 (heap_below (w:=w3.drew) hB2 hb4));obtain ⟨r10,r11,-,-,-⟩:=q1;obtain ⟨r20,r21,-,-,-⟩:=q2)
   | (go_at_call 54;refine (plus_c _ (ha3.drew.below hb4) hv4 sx sy.neg).mono ?_;rintro e w5 ⟨s5,A5,n5,c5,rfl,hv5,hb5⟩;(have hB5:=heap_below (heap_below (w:=w3.drew) hB3 hb4) hb5);obtain ⟨g0,g1,g2,g3,g4⟩:=box2 hB5;(have q1:=box2 (heap_below (heap_below (w:=w3.drew) hB1 hb4) hb5));(have q2:=box2 (heap_below (heap_below (w:=w3.drew) hB2 hb4) hb5));obtain ⟨r10,r11,-,-,-⟩:=q1;obtain ⟨r20,r21,-,-,-⟩:=q2))
 go_wp2
 refine bodyPost_ret (v:=.agg #[.bool s5,.slice A5 n5 c5]) (by simp [results,Tryz.results99,go_sem,g0,g1]) rfl ⟨s5,A5,n5,c5,rfl,hv5.box2 hB5 (by decide) _ _,?_⟩
 go_grown
 exact below_then hb5 (below_then hb4 (w:=w) (B:=w.heap.size) hbel.drew (by simp;omega)) (by have:=hb4.size;simp at this;omega)
set_option maxHeartbeats 2000000 in
set_option maxRecDepth 100000 in
theorem compareI_c (w:World) {s t:Bool} {A B:Option Addr} {n c k d:Nat} {x y:Int} (ha:Big .u32 127 B32 w s A n c x) (hb:Big .u32 127 B32 w t B k d y) (sx:Small x) (sy:Small y) :
  Calls Tryz.prog 58 #[.agg #[.bool s,.slice A n c],.agg #[.bool t,.slice B k d]] w fun e w'=>e=.returned (.int .i64 (x-y).sign)/\Below w.heap.size w w':=by
 go_enter Tryz.func58,Tryz.ntmps58
 go_wp2_with fail
 refine (lessI_c _ ((ha.alloc _).alloc _) ((hb.alloc _).alloc _) sx sy).mono ?_
 rintro e w4 ⟨s4,A4,n4,c4,rfl,hv4,hb4⟩
 go_wp2_with fail
 refine (sign_c _ hv4).mono ?_
 rintro e w5 ⟨rfl,hb5⟩
 go_wp2
 go_ret
 refine ⟨rfl,?_⟩
 have h4:Below w.heap.size w w4:=below_then hb4 (by go_grown) (by simp only [World.size_alloc];omega)
 exact below_then hb5 h4 h4.size
theorem row_cell {w:World} {B:Nat} {E:TypeId} {g N c:Nat} {os:List Nat} (h:w.ownsRow B E 1 (.slice (some ⟨g,0,none⟩) N c) N (digV .u32 os)) {p:Nat} (hp:p<N):w.cell? ⟨g,p,none⟩=some (.int .u32 ((dg os p:Nat):Int)):=by
 have hl:=h.1
 rw [digV_length] at hl
 rw [h.cellAt p (by omega)]
 exact digV_get _ (by omega)
theorem row_store {w:World} {B:Nat} {E:TypeId} {g N c:Nat} {os:List Nat} (h:w.ownsRow B E 1 (.slice (some ⟨g,0,none⟩) N c) N (digV .u32 os)) (p:Nat) {X:Int} {x:Nat} (hx:X=(x:Int)) :
  (w.setCell ⟨g,p,none⟩ (.int .u32 X)).ownsRow B E 1 (.slice (some ⟨g,0,none⟩) N c) N (digV .u32 (os.set p x)):=by
 subst hx;rw [digV_set];exact (h.stored p _).1
theorem dg_set_other {l:List Nat} {k j d:Nat} (h:j≠k):dg (l.set k d) j=dg l j:=getD_set_other h
theorem made_zeros (n:Nat):(madeCells #[Value.int .u32 0] n).toList=digV .u32 (List.replicate n 0):=by
 rw [toList_madeCells_one];simp [digV]
theorem sg_mul {s t:Bool} {a b:Nat} : sg (!s==t) (a*b)=sg s a*sg t b:=by cases s<;>cases t<;>simp [sg,Int.neg_mul,Int.mul_neg]
theorem mulw {cy o x y:Nat} (h1:cy<4294967296) (h2:o<4294967296) (h3:x<4294967296) (h4:y<4294967296) :
  IntKind.u64.wrap ((cy:Int)+IntKind.u64.wrap ((o:Int)+IntKind.u64.wrap ((x:Int)*(y:Int))))=((cy+o+x*y:Nat):Int):=by
 have h5:x*y<=4294967295*4294967295:=Nat.mul_le_mul (by omega) (by omega)
 rw [<- Int.natCast_mul]
 generalize x*y=p at *
 rw [u64w,u64w,u64w]
 omega
theorem times_rel {l m ps:List Nat} {j q cy:Nat} (hlt:j+q<ps.length) (hval:val B32 ps+B32 ^ (j+q)*cy=val B32 (l.take j)*val B32 m+B32 ^ j*(dg l j*val B32 (m.take q))) (gs:Digs B32 ps)
  (h1:cy<4294967296) (h3:dg l j<4294967296) (h4:dg m q<4294967296) :
  let t:=cy+dg ps (j+q)+dg l j*dg m q
  t/B32<4294967296/\Digs B32 (ps.set (j+q) (t%B32))/\val B32 (ps.set (j+q) (t%B32))+B32 ^ (j+(q+1))*(t/B32)=val B32 (l.take j)*val B32 m+B32 ^ j*(dg l j*val B32 (m.take (q+1))):=by
 intro t
 have h2:dg ps (j+q)<4294967296:=dg_lt gs (by decide) _
 refine ⟨mul_carry h1 h2 h3 h4,gs.set _ (Nat.mod_lt _ (by decide)),?_⟩
 have h:=mul_step (b:=B32) (m:=dg l j*dg m q) hlt hval
 have e1:j+(q+1)=j+q+1:=by omega
 rw [e1]
 refine Eq.trans h ?_
 rw [val_take_succ,Nat.mul_add,Nat.mul_add,Nat.pow_add]
 have e2:B32 ^ j*B32 ^ q*(dg l j*dg m q)=B32 ^ j*(dg l j*(B32 ^ q*m.getD q 0)):=by
  show _=B32 ^ j*(dg l j*(B32 ^ q*dg m q))
  rw [Nat.mul_assoc,Nat.mul_left_comm (B32 ^ q)]
 rw [e2,Nat.add_assoc]
theorem times_last {l m ps:List Nat} {j k cy:Nat} (hlt:j+k<ps.length) (hk:m.length=k) (hz:dg ps (j+k)=0) (hval:val B32 ps+B32 ^ (j+k)*cy=val B32 (l.take j)*val B32 m+B32 ^ j*(dg l j*val B32 (m.take k))) :
  val B32 (ps.set (j+k) cy)=val B32 (l.take (j+1))*val B32 m:=by
 have h:=val_set B32 ps (j+k) cy hlt
 have hz':ps.getD (j+k) 0=0:=hz
 rw [hz',Nat.mul_zero,Nat.add_zero,hval,show m.take k=m from List.take_of_length_le (by omega)] at h
 rw [h,val_take_succ,Nat.add_mul,Nat.mul_assoc]
 rfl
set_option maxHeartbeats 4000000 in
set_option maxRecDepth 100000 in
theorem times_c (w:World) {s t:Bool} {A B:Option Addr} {n c k d:Nat} {x y:Int} (ha:Big .u32 127 B32 w s A n c x) (hb:Big .u32 127 B32 w t B k d y) (sx:Small x) (sy:Small y) :
  Calls Tryz.prog 96 #[.agg #[.bool s,.slice A n c],.agg #[.bool t,.slice B k d]] w (Makes .u32 127 B32 w (x*y)):=by
 obtain ⟨l,hd,hnc,hcm,gl,nl,sl,hx⟩:=ha
 obtain ⟨m,he,hkd,hdm,gm,nm,sm,hy⟩:=hb
 have hn:n<=1000:=by rw [<- hd.1];rw [hx] at sx;have:=small_len32 nl sx;omega
 have hk:k<=1000:=by rw [<- he.1];rw [hy] at sy;have:=small_len32 nm sy;omega
 have HX:=Lib.hid hx;have HY:=Lib.hid hy;clear hx hy
 have HL:=Lib.hid hd.1;have HM:=Lib.hid he.1
 clear sx sy
 obtain ⟨i0,hi,hz0,hz1,hz2⟩:=info_parts Tryz.info127
 go_enter Tryz.func96,Tryz.ntmps96
 go_wp2_with (first
  | (at_make
     refine wpList_make_full _ rfl _ _ 71 rfl (w.heap.size+1+1+1) 127 i0 (.int .u32 0) 1 Tryz.underlying71 hi hz0 hz1 .i64 .i64 _ _ (n+k) rfl rfl (by omega) (by omega) (by rw [hz2];omega) (by unfold maxLen;omega) (by simp) ?_
     intro w4 hown1 hg1
     obtain ⟨hB1,hB2,hB3,hbel⟩:=boxes3 w (.bool s) (.slice A n c) (.bool t) (.slice B k d) (.bool false) (.slice none 0 0) 73 73 73 _ rfl
     have hb4:=(Below.refl _ _).grown hg1 (Nat.le_refl _) (fun _ h=>by cases h)
     have hbw:=below_then hb4 hbel hbel.size
     have hD1:=heap_below hB1 hb4
     have hD2:=heap_below hB2 hb4
     have hD3:=heap_below hB3 hb4
     clear hB1 hB2 hB3
     clear hb4
     simp only [World.size_alloc] at hown1
     clear hg1 hbel
     obtain ⟨c10,c11,-,-,z1⟩:=box2 hD1
     obtain ⟨c20,c21,-,-,z2⟩:=box2 hD2
     obtain ⟨-,-,-,-,z3⟩:=box2 hD3))
 rw [show (madeCells (Value.int .u32 0).cells ((n+k)*1)).toList=digV .u32 (List.replicate (n+k) 0) by rw [Nat.mul_one];exact made_zeros _] at hown1
 go_loopw [22] (fun i wr=>∃ (j:Nat) (os:List Nat),j<=n/\i=.int .i64 j/\wr.ownsRow (w.heap.size+1+1+1) 127 1 (.slice (some ⟨w.heap.size+1+1+1,0,none⟩) (n+k) (n+k)) (n+k) (digV .u32 os)/\Digs B32 os/\(∀ p,j+k<=p->dg os p=0) /\
   val B32 os=val B32 (l.take j)*val B32 m/\Below (w.heap.size+1+1+1) w4 wr) (fun i _=>n-(intOf i).toNat)
 case atStart=>exact ⟨0,List.replicate (n+k) 0,Nat.zero_le _,rfl,hown1,digs_zeros (by decide) _,fun p _=>by simp [dg,List.getD_eq_getElem?_getD,List.getElem?_replicate];split<;>rfl,by rw [val_zeros];simp [val],Below.refl _ _⟩
 case round=>
  obtain ⟨j,os,hj,rfl,hown,gos,hzer,hval,hbel⟩:=hrel
  have HV:=Lib.hid hval;have HZ:=Lib.hid hzer;clear hval hzer
  have e10:=(hbel.cell (p:=⟨w.heap.size,0,none⟩) (by simp;omega)).trans c10
  have e20:=(hbel.cell (p:=⟨w.heap.size+1,0,none⟩) (by simp)).trans c20
  have e21:=(hbel.cell (p:=⟨w.heap.size+1,1,none⟩) (by simp)).trans c21
  rcases Nat.lt_or_ge j n with hjn | hjn
  ·obtain ⟨g,rfl,hg,hc1⟩:=hd.at_ (by omega)
   have hx:=((hbel.cell (p:=⟨g,j,none⟩) (by simp;omega)).trans (hbw.cell (p:=⟨g,j,none⟩) hg)).trans (hc1 j hjn)
   have b1:dg l j<4294967296:=dg_lt gl (by decide) j
   clear hc1
   go_wp2
   obtain ⟨wo,rfl⟩:∃ wo:World,wo=wr:=⟨_,rfl⟩
   go_loopw [8,30] (fun cv i wr=>∃ (q cy:Nat) (ps:List Nat),q<=k/\cv=.int .u64 cy/\i=.int .i64 q/\cy<4294967296/\wr.ownsRow (w.heap.size+1+1+1) 127 1 (.slice (some ⟨w.heap.size+1+1+1,0,none⟩) (n+k) (n+k)) (n+k) (digV .u32 ps)/\Digs B32 ps/\(∀ p,j+k<=p->dg ps p=0) /\
     val B32 ps+B32 ^ (j+q)*cy=val B32 (l.take j)*val B32 m+B32 ^ j*(dg l j*val B32 (m.take q))/\Below (w.heap.size+1+1+1) w4 wr) (fun _ i _=>k-(intOf i).toNat)
   case atStart=>exact ⟨0,0,os,Nat.zero_le _,rfl,rfl,by omega,hown,gos,HZ.out,by rw [HV.out];simp [val],hbel⟩
   case round=>
    obtain ⟨q,cy,ps,hq,rfl,rfl,hcy,hown,gos,hzer,hval,hbel⟩:=hrel
    have HV:=Lib.hid hval;have HZ:=Lib.hid hzer;clear hval hzer
    rcases Nat.lt_or_ge q k with hqk | hqk
    ·obtain ⟨g',rfl,hg',hc1⟩:=he.at_ (by omega)
     have hy:=((hbel.cell (p:=⟨g',q,none⟩) (by simp;omega)).trans (hbw.cell (p:=⟨g',q,none⟩) hg')).trans (hc1 q hqk)
     have b2:dg m q<4294967296:=dg_lt gm (by decide) q
     have b3:dg ps (j+q)<4294967296:=dg_lt gos (by decide) _
     have hz:=row_cell hown (p:=j+q) (by omega)
     have hf:=hown.frozenAt (j+q)
     clear hc1
     go_wp2
     go_roundw
     case rel=>
      obtain ⟨r1,r2,r3⟩:=times_rel (by have:=hown.1;rw [digV_length] at this;omega) HV.out gos hcy b1 b2
      refine ⟨q+1,_,_,by omega,congrArg _ (by rw [mulw hcy b3 b1 b2];unfold B32;omega),by go_num,r1,row_store hown (j+q) (by rw [mulw hcy b3 b1 b2];unfold B32;omega),r2,fun p hp=>?_,r3,hbel.setCell (by simp) _⟩
      rw [dg_set_other (by omega)]
      exact HZ.out p hp
     case measure=>simp [intOf];omega
    ·obtain rfl:q=k:=by omega
     have hz:=row_cell hown (p:=j+q) (by omega)
     have hf:=hown.frozenAt (j+q)
     have hz3:=HZ.out (j+q) (Nat.le_refl _)
     rw [hz3] at hz
     have HZ3:=Lib.hid hz3;clear hz3
     have e21:=(hbel.cell (p:=⟨w.heap.size+1,1,none⟩) (by simp)).trans c21
     go_wp2
     go_roundw
     case rel=>
      refine ⟨j+1,ps.set (j+q) cy,by omega,by go_num,row_store hown (j+q) rfl,gos.set _ (by unfold B32;omega),fun p hp=>?_,times_last (by have:=hown.1;rw [digV_length] at this;omega) HM.out HZ3.out HV.out,hbel.setCell (by simp) _⟩
      rw [dg_set_other (by omega)]
      exact HZ.out p (by omega)
     case measure=>simp [intOf];omega
  ·obtain rfl:j=n:=by omega
   have e11:=(hbel.cell (p:=⟨w.heap.size,1,none⟩) (by simp;omega)).trans c11
   go_wp2_with fail
   refine (made_c os (!s==t) _ (j+k) (j+k) _ (Dig.of_own hown) (own_cap hown).1 (own_cap hown).2 gos).mono ?_
   rintro e w5 ⟨s5,A5,n5,c5,rfl,hv5,hb5⟩
   have hB5:=heap_below ((hbel.block (w.heap.size+1+1) (by omega)).trans hD3) hb5
   obtain ⟨g0,g1,g2,g3,g4⟩:=box2 hB5
   go_wp2
   refine bodyPost_ret (v:=.agg #[.bool s5,.slice A5 n5 c5]) (by simp [results,Tryz.results96,go_sem,g0,g1]) rfl ⟨s5,A5,n5,c5,rfl,?_,?_⟩
   ·have e:sg (!s==t) (val B32 os)=x*y:=by
     rw [HX.out,HY.out,HV.out,show l.take j=l from List.take_of_length_le (by rw [HL.out];exact Nat.le_refl _)]
     exact sg_mul
    rw [e] at hv5
    exact hv5.box2 hB5 (by decide) _ _
   ·go_grown
    exact below_then hb5 ((hbw).trans (hbel.mono (by omega))) (by have:=hbel.size;have:=hbw.size;omega)
end Go.Proofs.YtbfbgappinilmaaGreatDoor
